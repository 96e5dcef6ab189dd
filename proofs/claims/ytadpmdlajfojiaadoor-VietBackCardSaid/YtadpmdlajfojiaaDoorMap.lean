/- Maps of a call's own as lists of keys and values: making, storing, looking up. -/
import Derived.Below
import Derived.WalkKit
import Derived.KernelRfl
import Derived.MapKept
import Derived.ChangeMaps4
import Derived.Laws.Rows
import Derived.ChangeKeysEq
import Derived.Laws.StructEq
namespace Go.Proofs.YtadpmdlajfojiaaDoor
open Go.RowKit
section
variable {P : Program} {κ : Type}

/-- What is asked of a key's type. -/
structure KeyT (P : Program) (kt : TypeId) (enc : κ → Value) : Prop where
  chk : ∀ (e : Bool) (k : κ) (w : World), (Instr.checkKey e 10000 kt (enc k)).run P w = .ok () w
  inj : ∀ a b : κ, enc a = enc b → a = b
  bits : ∀ k : κ, Instr.sameBits 10000 (enc k) (enc k) = true
  find : ∀ (k : κ) (L : List (κ × MapEntry)) (w : World), (∀ p ∈ L, p.2.key = enc p.1) → ∃ r, (Instr.findKey kt (enc k) (L.map (·.2))).run P w = .ok r w ∧
    ((r = none ∧ ∀ p ∈ L, p.1 ≠ k) ∨ ∃ i p, L[i]? = some p ∧ p.1 = k ∧ r = some (i, p.2.val) ∧ ∀ j q, j < i → L[j]? = some q → q.1 ≠ k)

/-- Block b holds the map L, in this order. -/
def MapL (w : World) (b : Nat) (enc : κ → Value) (L : List (κ × Value)) : Prop :=
  ∃ es clock, w.heap[b]? = some (.map es clock) ∧ es.toList.map (fun e => (e.key, e.val)) = L.map (fun p => (enc p.1, p.2))

/-- Block b holds some map. -/
def MapSome (w : World) (b : Nat) (enc : κ → Value) : Prop := ∃ L : List (κ × Value), MapL w b enc L

theorem MapL.new (w : World) (enc : κ → Value) : MapL (w.alloc (.map #[] 0)) w.heap.size enc [] := ⟨#[], 0, heap_alloc_new w _, rfl⟩
theorem MapL.same {w w' : World} {b : Nat} {enc : κ → Value} {L : List (κ × Value)} (h : MapL w b enc L) (hb : w'.heap[b]? = w.heap[b]?) : MapL w' b enc L := by
  obtain ⟨es, c, h1, h2⟩ := h
  exact ⟨es, c, hb.trans h1, h2⟩
theorem MapL.lt {w : World} {b : Nat} {enc : κ → Value} {L : List (κ × Value)} (h : MapL w b enc L) : b < w.heap.size := by
  obtain ⟨es, c, h1, h2⟩ := h
  exact (Array.getElem?_eq_some_iff.1 h1).1

theorem entries_pair {es : Array MapEntry} {enc : κ → Value} {L : List (κ × Value)} (h : es.toList.map (fun e => (e.key, e.val)) = L.map (fun p => (enc p.1, p.2))) :
    ∃ E : List (κ × MapEntry), E.map (·.2) = es.toList ∧ (∀ p ∈ E, p.2.key = enc p.1) ∧ E.map (fun p => (p.1, p.2.val)) = L := by
  have hl : es.toList.length = L.length := by simpa using congrArg List.length h
  refine ⟨(L.zip es.toList).map (fun p => (p.1.1, p.2)), ?_, ?_, ?_⟩
  · rw [List.map_map]
    show (L.zip es.toList).map (fun p => p.2) = _
    exact List.map_snd_zip (by omega)
  · intro p hp
    obtain ⟨q, hq, rfl⟩ := List.mem_map.1 hp
    obtain ⟨i, hi⟩ := List.mem_iff_getElem?.1 hq
    rw [List.getElem?_zip_eq_some] at hi
    have h1 := congrArg (·[i]?) h
    simp only [List.getElem?_map, hi.1, hi.2, Option.map_some, Option.some.injEq, Prod.mk.injEq] at h1
    exact h1.1
  · rw [List.map_map]
    apply List.ext_getElem?
    intro i
    have h1 := congrArg (·[i]?) h
    simp only [List.getElem?_map] at h1 ⊢
    by_cases hi : i < L.length
    · have e1 : L[i]? = some L[i] := List.getElem?_eq_getElem hi
      have e2 : es.toList[i]? = some (es.toList[i]'(by omega)) := List.getElem?_eq_getElem (by omega)
      have e3 : (L.zip es.toList)[i]? = some (L[i], es.toList[i]'(by omega)) := by rw [List.getElem?_zip_eq_some]; exact ⟨e1, e2⟩
      rw [e1, e2] at h1
      simp only [Option.map_some, Option.some.injEq, Prod.mk.injEq] at h1
      rw [e3, e1]
      simp only [Option.map_some, Function.comp]
      rw [h1.2]
    · rw [List.getElem?_eq_none (by simp; omega), List.getElem?_eq_none (by omega)]
      rfl

/-- 'm[k] = v' at a new key. -/
theorem MapL.put {w : World} {b : Nat} {kt et mt : TypeId} {enc : κ → Value} {L : List (κ × Value)} (K : KeyT P kt enc) (hm : P.underlying mt = some (.map kt et))
    (h : MapL w b enc L) (k : κ) (v : Value) (hno : ∀ p ∈ L, p.1 ≠ k) : ∃ w', (Instr.mapUpdate mt (.map (some b)) (enc k) v).run P w = .ok () w' ∧ MapL w' b enc (L ++ [(k, v)]) ∧ w.grownBy w' (some b) := by
  obtain ⟨es, clock, hb, he⟩ := h
  obtain ⟨E, e1, e2, e3⟩ := entries_pair he
  obtain ⟨r, hr, hcase⟩ := K.find k E w e2
  rw [e1] at hr
  have hg := MapKept.run_getObj_map (P := P) hb
  have hrn : r = none := by
    rcases hcase with ⟨h, _⟩ | ⟨i, p, hi, hk, _, _⟩
    · exact h
    · exact absurd hk (by
        have : (p.1, p.2.val) ∈ L := by rw [← e3]; exact List.mem_map.2 ⟨p, List.mem_of_getElem? hi, rfl⟩
        exact hno _ this)
  subst hrn
  refine ⟨_, by simp [Instr.mapUpdate, Sem.run_bind, run_underlying hm, hg, K.chk, hr, MapKept.run_setObj_map _ hb]; rfl, ⟨es.push { key := enc k, val := v, born := clock }, clock + 1, ?_, by simp [he]⟩, ?_⟩
  · have := (Array.getElem?_eq_some_iff.1 hb).1
    simp [this]
  · refine ⟨rfl, rfl, rfl, by simp, fun i _ hi => ?_⟩
    rw [Array.getElem?_setIfInBounds_ne (by intro e; subst e; exact hi rfl)]

/-- 'm[k] = v' at any key. -/
theorem MapSome.put {w : World} {b : Nat} {kt et mt : TypeId} {enc : κ → Value} (K : KeyT P kt enc) (hm : P.underlying mt = some (.map kt et))
    (h : MapSome w b enc) (k : κ) (v : Value) : ∃ w', (Instr.mapUpdate mt (.map (some b)) (enc k) v).run P w = .ok () w' ∧ MapSome w' b enc ∧ w.grownBy w' (some b) := by
  obtain ⟨L, h⟩ := h
  by_cases hno : ∀ p ∈ L, p.1 ≠ k
  · obtain ⟨w', h1, h2, h3⟩ := h.put K hm k v hno
    exact ⟨w', h1, ⟨_, h2⟩, h3⟩
  · obtain ⟨es, clock, hb, he⟩ := h
    obtain ⟨E, e1, e2, e3⟩ := entries_pair he
    obtain ⟨r, hr, hcase⟩ := K.find k E w e2
    rw [e1] at hr
    have hg := MapKept.run_getObj_map (P := P) hb
    rcases hcase with ⟨rfl, hn⟩ | ⟨i, p, hi, hk, rfl, hbefore⟩
    · exact absurd (fun q hq => by
        rw [← e3] at hq
        obtain ⟨x, hx, rfl⟩ := List.mem_map.1 hq
        exact hn x hx) hno
    · have hei : es[i]? = some p.2 := by
        rw [← Array.getElem?_toList, ← e1, List.getElem?_map, hi]; rfl
      have hpk : p.2.key = enc k := by rw [e2 p (List.mem_of_getElem? hi), hk]
      refine ⟨_, by simp [Instr.mapUpdate, Sem.run_bind, run_underlying hm, hg, K.chk, hr, hei, Instr.keyThatStays, hpk, K.bits, MapKept.run_setObj_map _ hb]; rfl, ⟨L.modify i (fun q => (q.1, v)), es.modify i (fun e => { e with key := enc k, val := v }), clock, ?_, ?_⟩, ?_⟩
      · have := (Array.getElem?_eq_some_iff.1 hb).1
        simp [this]
      · apply List.ext_getElem?
        intro j
        have h1 := congrArg (·[j]?) he
        simp only [List.getElem?_map, Array.getElem?_toList, Array.getElem?_modify, List.getElem?_modify] at h1 ⊢
        by_cases hj : i = j
        · subst hj
          simp only [if_true, hei, Option.map_some] at h1 ⊢
          cases hl : L[i]? with
          | none => rw [hl] at h1; cases h1
          | some q =>
            rw [hl] at h1
            simp only [Option.map_some, Option.some.injEq, Prod.mk.injEq] at h1 ⊢
            simp only [Functor.map, Option.map_some, Option.some.injEq, Prod.mk.injEq]
            exact ⟨by rw [← h1.1, hpk], trivial⟩
        · simp only [if_neg hj] at h1 ⊢
          simpa using h1
      · refine ⟨rfl, rfl, rfl, by simp, fun j _ hj => ?_⟩
        rw [Array.getElem?_setIfInBounds_ne (by intro e; subst e; exact hj rfl)]

/-- An integer key. -/
theorem keyT_int {kt : TypeId} {q : IntKind} (hk : P.underlying kt = some (.int q)) : KeyT P kt (fun n : Int => .int q n) where
  chk e k w := MapKept.run_checkKey hk (by simp [MapKept.IsKey]) e 9999
  inj a b h := by simpa using h
  bits k := by simp [Instr.sameBits]
  find k L w hL := by
    have key : ∀ (L : List (Int × MapEntry)) (i : Nat), (∀ p ∈ L, p.2.key = .int q p.1) → ∃ r, Instr.findNow (.int q) (.int q k) (L.map (·.2)) i = some r ∧
      ((r = none ∧ ∀ p ∈ L, p.1 ≠ k) ∨ ∃ j p, L[j]? = some p ∧ p.1 = k ∧ r = some (i + j, p.2.val) ∧ ∀ m x, m < j → L[m]? = some x → x.1 ≠ k) := by
      intro L
      induction L with
      | nil => intro i _; exact ⟨none, rfl, .inl ⟨rfl, by simp⟩⟩
      | cons p L ih =>
        intro i hL
        have hp := hL p (by simp)
        by_cases hk : k = p.1
        · refine ⟨some (i, p.2.val), ?_, .inr ⟨0, p, rfl, hk.symm, by simp, fun m x hm => by omega⟩⟩
          simp [Instr.findNow, Instr.sameNow, hp, hk]
        · obtain ⟨r, h1, h2⟩ := ih (i + 1) (fun x hx => hL x (by simp [hx]))
          refine ⟨r, ?_, ?_⟩
          · simp [Instr.findNow, Instr.sameNow, hp, beq_eq_false_iff_ne.2 hk, h1]
          · rcases h2 with ⟨rfl, hn⟩ | ⟨j, x, hj, hxk, rfl, hb⟩
            · exact .inl ⟨rfl, fun y hy => by
                rcases List.mem_cons.1 hy with rfl | hy
                · exact fun e => hk e.symm
                · exact hn y hy⟩
            · refine .inr ⟨j + 1, x, by simpa using hj, hxk, by simp; omega, fun m y hm hy => ?_⟩
              cases m with
              | zero => simp only [List.getElem?_cons_zero, Option.some.injEq] at hy; subst hy; exact fun e => hk e.symm
              | succ m => exact hb m y (by omega) (by simpa using hy)
    obtain ⟨r, h1, h2⟩ := key L 0 hL
    refine ⟨r, by simp [Instr.findKey, Sem.run_bind, run_underlying hk, h1], ?_⟩
    simpa using h2

/-- A store into a map at the walk. -/
theorem wpList_mapPut {w w' : World} {ops : Array Oper} {rest : List Oper} {o : Oper} {a : Act} {Q : Exit → Act → World → Prop} (hg : o.guard = none) (m x v : Operand) (t : TypeId) (hop : o.op = .mapUpdate t m x v)
    (hrun : (Instr.mapUpdate t (a.eval m) (a.eval x) (a.eval v)).run P w = .ok () w') (h : wpList P ops Q rest (a.put o.dst undef) w') : wpList P ops Q (o :: rest) a w := by
  refine wpList_plain hg fun K' hK' => ?_
  unfold Oper.wp
  simp [execOp, hop, hrun, Result.andThen]
  exact hK' _ _ h

end
section
variable {P : Program} {κ : Type} [DecidableEq κ]
/-- 'v, ok := m[k]'. -/
theorem MapL.look {w : World} {b : Nat} {kt et mt : TypeId} {enc : κ → Value} {L : List (κ × Value)} {z : Value} (K : KeyT P kt enc) (hm : P.underlying mt = some (.map kt et)) (hz : (zeroValue et).run P w = .ok z w)
    (h : MapL w b enc L) (k : κ) : (Instr.lookup mt (.map (some b)) (enc k) true).run P w = .ok (.tuple #[(L.lookup k).getD z, .bool (L.lookup k).isSome]) w := by
  obtain ⟨es, clock, hb, he⟩ := h
  obtain ⟨E, e1, e2, e3⟩ := entries_pair he
  obtain ⟨r, hr, hcase⟩ := K.find k E w e2
  rw [e1] at hr
  have hg := MapKept.run_getObj_map (P := P) hb
  have hr' : (L.lookup k).isSome = r.isSome ∧ ∀ v, r.map (·.2) = some v → L.lookup k = some v := by
    rcases hcase with ⟨rfl, hno⟩ | ⟨i, p, hi, hk, rfl, hbefore⟩
    · have : L.lookup k = none := by
        rw [List.lookup_eq_none_iff, ← e3]
        intro q hq
        obtain ⟨x, hx, rfl⟩ := List.mem_map.1 hq
        simpa using (hno x hx).symm
      rw [this]
      exact ⟨rfl, fun v hv => by cases hv⟩
    · have : L.lookup k = some p.2.val := by
        rw [← e3]
        clear e1 e3 he hr hg e2 K
        induction E generalizing i with
        | nil => simp at hi
        | cons q E ih =>
          cases i with
          | zero =>
            simp only [List.getElem?_cons_zero, Option.some.injEq] at hi
            subst hi
            simp [hk]
          | succ i =>
            have hq := hbefore 0 q (by omega) rfl
            simp only [List.map_cons, List.lookup_cons]
            rw [show (k == q.1) = false from beq_eq_false_iff_ne.2 (Ne.symm hq)]
            exact ih i (by simpa using hi) (fun j q' hj hq' => hbefore (j + 1) q' (by omega) (by simpa using hq'))
      rw [this]
      exact ⟨rfl, fun v hv => by simpa using hv⟩
  cases r with
  | none =>
    have hn : L.lookup k = none := by simpa using hr'.1
    simp [Instr.lookup, Sem.run_bind, run_underlying hm, hg, K.chk, hr, hz, hn]
  | some x =>
    have hs := hr'.2 x.2 rfl
    obtain ⟨i, v⟩ := x
    simp [Instr.lookup, Sem.run_bind, run_underlying hm, hg, K.chk, hr, hs]

/-- The value at a key. -/
def lookL (L : List (κ × Value)) (k : κ) : Option Value := (L.find? fun p => decide (p.1 = k)).map (·.2)
theorem lookL_eq (L : List (κ × Value)) (k : κ) : L.lookup k = lookL L k := by
  induction L with
  | nil => rfl
  | cons p L ih =>
    obtain ⟨a, v⟩ := p
    unfold lookL at ih ⊢
    rw [List.lookup_cons, List.find?_cons]
    by_cases h : a = k
    · subst h; simp
    · rw [show (k == a) = false from beq_eq_false_iff_ne.2 (fun e => h e.symm), show decide (a = k) = false from decide_eq_false h]
      exact ih
theorem MapL.lookAt {w : World} {b : Nat} {kt et mt : TypeId} {enc : κ → Value} {L : List (κ × Value)} {z : Value} (K : KeyT P kt enc) (hm : P.underlying mt = some (.map kt et)) (hz : (zeroValue et).run P w = .ok z w)
    (h : MapL w b enc L) (k : κ) : (Instr.lookup mt (.map (some b)) (enc k) true).run P w = .ok (.tuple #[(lookL L k).getD z, .bool (lookL L k).isSome]) w := by
  rw [← lookL_eq]
  exact h.look K hm hz k

/-- A key whose type is an array: asked one by one. -/
theorem keyT_asked {kt et : TypeId} {n : Nat} {enc : κ → Value} (hk : P.underlying kt = some (.array n et)) (chk : ∀ (e : Bool) (k : κ) (w : World), (Instr.checkKey e 10000 kt (enc k)).run P w = .ok () w)
    (inj : ∀ a b : κ, enc a = enc b → a = b) (bits : ∀ k : κ, Instr.sameBits 10000 (enc k) (enc k) = true)
    (eq : ∀ (a b : κ) (w : World), (Op.equal kt (enc a) (enc b)).run P w = .ok (decide (a = b)) w) : KeyT P kt enc where
  chk := chk
  inj := inj
  bits := bits
  find k L w hL := by
    have now : ∀ (L : List (κ × MapEntry)) (i : Nat), L ≠ [] → Instr.findNow (.array n et) (enc k) (L.map (·.2)) i = none := by
      intro L i hne
      cases L with
      | nil => exact absurd rfl hne
      | cons p L => simp [Instr.findNow, Instr.sameNow]
    have key : ∀ (L : List (κ × MapEntry)) (i : Nat), (∀ p ∈ L, p.2.key = enc p.1) → ∃ r, (Instr.findAsking kt (enc k) (L.map (·.2)) i).run P w = .ok r w ∧
      ((r = none ∧ ∀ p ∈ L, p.1 ≠ k) ∨ ∃ j p, L[j]? = some p ∧ p.1 = k ∧ r = some (i + j, p.2.val) ∧ ∀ m x, m < j → L[m]? = some x → x.1 ≠ k) := by
      intro L
      induction L with
      | nil => intro i _; exact ⟨none, by simp [Instr.findAsking], .inl ⟨rfl, by simp⟩⟩
      | cons p L ih =>
        intro i hL
        have hp := hL p (by simp)
        by_cases hk : k = p.1
        · refine ⟨some (i, p.2.val), ?_, .inr ⟨0, p, rfl, hk.symm, by simp, fun m x hm => by omega⟩⟩
          simp [Instr.findAsking, Sem.run_bind, hp, eq, hk]
        · obtain ⟨r, h1, h2⟩ := ih (i + 1) (fun x hx => hL x (by simp [hx]))
          refine ⟨r, ?_, ?_⟩
          · simp [Instr.findAsking, Sem.run_bind, hp, eq, hk, h1]
          · rcases h2 with ⟨rfl, hn⟩ | ⟨j, x, hj, hxk, rfl, hb⟩
            · exact .inl ⟨rfl, fun y hy => by
                rcases List.mem_cons.1 hy with rfl | hy
                · exact fun e => hk e.symm
                · exact hn y hy⟩
            · refine .inr ⟨j + 1, x, by simpa using hj, hxk, by simp; omega, fun m y hm hy => ?_⟩
              cases m with
              | zero => simp only [List.getElem?_cons_zero, Option.some.injEq] at hy; subst hy; exact fun e => hk e.symm
              | succ m => exact hb m y (by omega) (by simpa using hy)
    cases L with
    | nil => exact ⟨none, by simp [Instr.findKey, run_underlying hk, Instr.findNow], .inl ⟨rfl, by simp⟩⟩
    | cons p L =>
      obtain ⟨r, h1, h2⟩ := key (p :: L) 0 hL
      refine ⟨r, ?_, by simpa using h2⟩
      have h3 := now (p :: L) 0 (by simp)
      simp only [Instr.findKey, Sem.run_bind, run_underlying hk, Result.andThen_ok, h3, h1]

end
section
variable {P : Program}
/-- A key of two integers in an array. -/
def pairV (q : IntKind) (p : Int × Int) : Value := .agg #[.int q p.1, .int q p.2]
theorem keyT_pair {kt et : TypeId} {q : IntKind} {i : TypeInfo} (hk : P.underlying kt = some (.array 2 et)) (he : P.underlying et = some (.int q)) (hi : P.info? et = some i) (hs : i.size = 1) : KeyT P kt (pairV q) := by
  have hsz : ∀ w, (sizeOf et).run P w = .ok 1 w := fun w => by simp [sizeOf, typeInfo, hi, hs]
  have hag : ∀ w, (isAgg et).run P w = .ok false w := fun w => by
    unfold isAgg
    rw [Sem.run_bind, run_underlying he w]
    rfl
  have hpart : ∀ (cs : Array Value) (j : Nat) (v : Value) (w : World), cs[j]? = some v → (part et cs j).run P w = .ok v w := fun cs j v w h => by
    simp [part, Sem.run_bind, hag, h]
  refine keyT_asked hk ?_ ?_ ?_ ?_
  · intro e k w
    show (Instr.checkKey e (9998 + 1 + 1) kt (pairV q k)).run P w = .ok () w
    have hp : ∀ n : Int, (Instr.checkKey e (9998 + 1) et (.int q n)).run P w = .ok () w := fun n => MapKept.run_checkKey he (by simp [MapKept.IsKey]) e 9998
    have h0 := hpart #[.int q k.1, .int q k.2] 0 (.int q k.1) w rfl
    have h1 := hpart #[.int q k.1, .int q k.2] 1 (.int q k.2) w rfl
    unfold Instr.checkKey
    simp only [Sem.run_bind, run_underlying hk, Result.andThen_ok, pairV]
    simp only [Std.Legacy.Range.forIn_eq_forIn_range', Std.Legacy.Range.size, Nat.sub_zero, Nat.add_one_sub_one, Nat.div_one]
    simp [List.range'_succ, hsz, h0, h1, hp]
  · intro a b h
    simp only [pairV, Value.agg.injEq, Array.mk.injEq, List.cons.injEq, Value.int.injEq, true_and, and_true] at h
    exact Prod.ext h.1 h.2
  · intro k
    show Instr.sameBits (9998 + 1 + 1) (pairV q k) (pairV q k) = true
    simp [pairV, Instr.sameBits]
  · intro a b w
    show (Op.equalIn (9998 + 1 + 1) kt (pairV q a) (pairV q b)).run P w = _
    have hp : ∀ (m n : Int), (Op.equalIn (9998 + 1) et (.int q m) (.int q n)).run P w = .ok (m == n) w := fun m n => run_equalIn_int w 9998 et q q m n he
    have hc : P.cellsOf et = 1 := by simp [Program.cellsOf, hi, hs]
    rw [pairV, pairV, run_equalIn_array w (9998 + 1) _ _ hk hi, hc]
    have a0 := hpart #[.int q a.1, .int q a.2] 0 (.int q a.1) w rfl
    have a1 := hpart #[.int q a.1, .int q a.2] 1 (.int q a.2) w rfl
    have b0 := hpart #[.int q b.1, .int q b.2] 0 (.int q b.1) w rfl
    have b1 := hpart #[.int q b.1, .int q b.2] 1 (.int q b.2) w rfl
    obtain ⟨a1', a2'⟩ := a
    obtain ⟨b1', b2'⟩ := b
    by_cases e1 : a1' = b1' <;> by_cases e2 : a2' = b2' <;>
      simp_all [List.range_succ, Op.eqItems]

end
end Go.Proofs.YtadpmdlajfojiaaDoor
