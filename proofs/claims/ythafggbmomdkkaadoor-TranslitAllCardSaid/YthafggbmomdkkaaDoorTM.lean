/- The reference's Candidates at every number. -/
import Derived.Test.YthafggbmomdkkaaDoorTL
import Derived.Deep.LoopGhost
import Derived.Lib.SlBytesConst
import Derived.WalkSpells
namespace Go.Proofs.YthafggbmomdkkaaDoor
open Go.RowKit
/-- The parts of the letters' bytes, as the code bears them. -/
def opsParts : List Oper → Option (Array (Nat × Operand))
  | [] => none
  | o :: r => match o.op with
    | .buildSlice 35 102 p => some p
    | _ => opsParts r
def codeParts : Code → Option (Array (Nat × Operand))
  | .region _ ops _ => opsParts ops.toList
  | .seq a b => (codeParts a).or (codeParts b)
  | .cond _ a b => (codeParts a).or (codeParts b)
  | .block _ a => codeParts a
  | .loop a => codeParts a
  | .scope a => codeParts a
  | _ => none
noncomputable def letParts : Array (Nat × Operand) := ((Tryd.f13.body.bind codeParts)).getD #[]
def letVals : Array (Nat × Value) := ((List.range 102).map fun i => (i, Value.int .u8 (letL.getD i 0))).toArray
theorem let_vals (a : Act) : letParts.map (fun (i, x) => (i, a.eval x)) = letVals := by kernel_rfl
theorem let_build (w : World) : (Instr.buildSlice 35 102 letVals).run Tryd.prog w = .ok (.slice (some ⟨w.heap.size, 0, none⟩) 102 102) (w.alloc (.cells (letL.map (Value.int .u8)).toArray 5)) := by kernel_rfl
theorem wpList_buildSlice {P : Program} {w w' : World} {ops : Array Oper} {rest : List Oper} {o : Oper} {a : Act} {Q : Exit → Act → World → Prop} {v : Value} (hg : o.guard = none) (t : TypeId) (n : Nat) (parts : Array (Nat × Operand)) (hop : o.op = .buildSlice t n parts)
    (hrun : (Instr.buildSlice t n (parts.map fun (i, x) => (i, a.eval x))).run P w = .ok v w') (h : wpList P ops Q rest (a.put o.dst v) w') : wpList P ops Q (o :: rest) a w := by
  refine wpList_plain hg fun K' hK' => ?_
  unfold Oper.wp
  simp [execOp, hop, hrun, Result.andThen]
  exact hK' _ _ h
theorem let_sl (w : World) (fr : Nat × Nat) : SlI .u8 (w.alloc (.cells (letL.map (Value.int .u8)).toArray 5 fr)) (some ⟨w.heap.size, 0, none⟩) 102 102 letL := by
  refine ⟨rfl, by omega, Nat.le_refl _, fun x hx => List.all_eq_true.1 let_wf x hx, .inr ⟨_, rfl, fun j hj => ?_⟩⟩
  have e : ((⟨w.heap.size, 0, none⟩ : Addr).add j) = ⟨w.heap.size, j, none⟩ := by cases j <;> simp [Addr.add]
  rw [e, cell_of_row _ _ _ _ _ _ (heap_alloc_new w _)]
  have hl : j < letL.length := hj
  simp [List.getElem?_eq_getElem hl, List.getD_eq_getElem?_getD]
theorem let_scal (w : World) (fr : Nat × Nat) : Calls Tryd.prog 16 #[.slice (some ⟨w.heap.size, 0, none⟩) 102 102] (w.alloc (.cells (letL.map (Value.int .u8)).toArray 5 fr)) fun e w' => ∃ v, e = .returned (.tuple #[v, .int .i64 102, .int .i64 0]) ∧ w'.ownsRow w.heap.size 21 1 v 51 (lettersL.map (Value.int .i32)) ∧ Below w.heap.size w w' :=
  (scal_calls _ 102 102 letL lettersL let_dec (by omega) _ (let_sl w fr)).mono fun e w' ⟨v, h1, h2, h3⟩ => ⟨v, h1, Joins.ownsRow_le h2 (by simp), ((Below.refl _ _).alloc (Nat.le_refl _) _).trans (h3.mono (by simp))⟩
theorem info9 : (Tryd.prog.info? 9).map (fun i => (i.zero, i.size, i.bytes)) = some (some (.string ByteArray.empty), 1, 16) := by kernel_rfl
theorem mem_keys {T : List (Int × List ByteArray)} {u : Int} (h : (T.map (·.1)).contains u = true) : ∃ l, (u, l) ∈ T := by
  rw [List.contains_iff_mem] at h
  obtain ⟨t, ht, rfl⟩ := List.mem_map.1 h
  exact ⟨t.2, ht⟩
theorem not_keys {T : List (Int × List ByteArray)} {u : Int} (h : (T.map (·.1)).contains u = false) : ∀ t ∈ T, t.1 ≠ u := fun t ht e => by
  have : (T.map (·.1)).contains u = true := List.contains_iff_mem.2 (List.mem_map.2 ⟨t, ht, e⟩)
  rw [h] at this
  cases this
theorem cand_rest_nil {u : Int} (hu : ¬ (65281 ≤ u ∧ u ≤ 65374)) (h0 : lettersL.contains u = false) (h1 : (lowT.map (·.1)).contains u = false) (h2 : (highT.map (·.1)).contains u = false) (h3 : (marksT.map (·.1)).contains u = false) : candL u = [] := by
  rcases cand_cases u with ⟨_, h⟩ | ⟨t, ht, hte, _⟩ | h
  · exact absurd h hu
  · have := List.all_eq_true.1 ent_all t ht
    rw [hte, h0, h1, h2, h3] at this
    cases this
  · exact h
theorem str_form {w : World} {B n : Nat} {v : Value} {xs : List Value} (h : w.ownsRow B 9 1 v n xs) : ∃ A cap, v = .slice A n cap := by
  rcases Joins.ownsRow_forms h with ⟨rfl, rfl⟩ | ⟨g, cap, rfl⟩
  · exact ⟨none, 0, rfl⟩
  · exact ⟨_, cap, rfl⟩
theorem strs_new (W : World) (l : List ByteArray) {j : Nat} {u : Value} (hj : (l.map Value.string)[j]? = some u) : (W.alloc (.cells (l.map Value.string).toArray 9)).cell? ((⟨W.heap.size, 0, none⟩ : Addr).add j) = some u := by
  have e : ((⟨W.heap.size, 0, none⟩ : Addr).add j) = ⟨W.heap.size, j, none⟩ := by cases j <;> simp [Addr.add]
  rw [e, cell_of_row _ _ _ _ _ _ (heap_alloc_new W _)]
  simpa using hj
theorem own_news (w : World) (l : List ByteArray) (h1 : l.length ≤ 1000) : (w.alloc (.cells (l.map Value.string).toArray 9)).ownsRow w.heap.size 9 1 (.slice (some ⟨w.heap.size, 0, none⟩) l.length l.length) l.length (l.map Value.string) := by
  have := own_new w (l.map Value.string) (by simpa using h1)
  simpa using this
theorem letters_no {u : Int} (h : ∀ j, j < 51 → lettersL.getD j 0 ≠ u) : lettersL.contains u = false := by
  cases hc : lettersL.contains u with
  | false => rfl
  | true =>
    rw [List.contains_iff_mem] at hc
    obtain ⟨j, hj⟩ := List.mem_iff_getElem?.1 hc
    have hl := (List.getElem?_eq_some_iff.1 hj).1
    exact absurd (by rw [List.getD_eq_getElem?_getD, hj]; rfl) (h j hl)
theorem row_at {w : World} {B g cap n : Nat} {xs : List Int} (h : w.ownsRow B 21 1 (.slice (some ⟨g, 0, none⟩) n cap) n (xs.map (Value.int .i32))) {j : Nat} {x : Int} (hj : xs[j]? = some x) : w.cell? ⟨g, j, none⟩ = some (.int .i32 x) := by
  have := h.cells (g := g) rfl j (.int .i32 x) (by rw [List.getElem?_map, hj]; rfl)
  have e : ((⟨g, 0, none⟩ : Addr).add j) = ⟨g, j, none⟩ := by cases j <;> simp [Addr.add]
  rwa [e] at this
set_option maxRecDepth 100000 in
set_option maxHeartbeats 3200000 in
theorem rcand_rest (u : Int) (hu : ¬ (65281 ≤ u ∧ u ≤ 65374)) (w : World) : Calls Tryd.prog 13 #[.int .i32 u] w (RPost u w) := by
  have hcs : (decide (65281 ≤ u) = false) ∨ (decide (65281 ≤ u) = true ∧ decide (u ≤ 65374) = false) := by
    by_cases h : 65281 ≤ u
    · exact .inr ⟨by simpa using h, by simp; omega⟩
    · exact .inl (by simp; omega)
  have HU := Lib.hid hu
  have kc := fun (w : World) (C : Array Value) (n c : Nat) => Lib.run_convert_bytes_const (P := Tryd.prog) w 35 5 C n c Tryd.underlying35 Tryd.underlying5
  obtain ⟨i0, hi, hz0, hz1, hz2⟩ := info_parts info9
  clear hu
  rcases hcs with hd | ⟨hd, hd2⟩
  all_goals
    go_enter Tryd.func13, Tryd.ntmps13
    conv in (occs := *) (Op.buildSlice 35 102 _) => all_goals change Op.buildSlice 35 102 letParts
    conv in (occs := *) (Operand.const (Value.string _)) => all_goals change Operand.const (Value.string plainS)
    have hps : plainS.size = 51 := rfl
    go_wp2_with (refine wpList_buildSlice rfl 35 102 letParts rfl (by rw [let_vals]; exact let_build _) ?_)
    refine (let_scal _ _).mono ?_
    rintro e w1 ⟨v, rfl, ho, hb⟩
    have HO := Lib.hid ho
    have HB := Lib.hid hb
    obtain ⟨g, cap, rfl⟩ := Joins.ownsRow_form ho (by omega)
    clear ho hb
    go_wp2_with fail
    go_loopg [6] 51 (fun gg i wx => ∃ k : Nat, k + gg = 51 ∧ i = .int .i64 (k : Int) ∧ w1 = wx ∧ Hid (∀ j, j < k → lettersL.getD j 0 ≠ u))
    case atStart => exact ⟨0, by omega, rfl, rfl, Lib.hid (fun j hj => absurd hj (Nat.not_lt_zero j))⟩
    case round =>
      obtain ⟨k, hk, rfl, rfl, HN⟩ := hrel
      have hw1 : w.heap.size ≤ w1.heap.size := HB.out.size
      cases gk with
      | zero =>
        obtain rfl : k = 51 := by omega
        have hl0 := letters_no HN.out
        have hlen := (cand_len u).1
        by_cases m1 : (lowT.map (·.1)).contains u = true
        · obtain ⟨l, hml⟩ := mem_keys m1
          have hcl := List.all_eq_true.1 cand_low _ hml
          simp only [Bool.and_eq_true, Bool.not_eq_true', decide_eq_true_eq] at hcl
          obtain ⟨⟨⟨⟨q1, _⟩, q2⟩, q3⟩, _⟩ := hcl
          have HLo := Lib.hid (low_some u l hml)
          have HHi := Lib.hid (high_none u (not_keys q2))
          have HMa := Lib.hid (marks_none u (not_keys q3))
          have HC := Lib.hid q1
          have hll : l.length ≤ 1000 := by rw [← q1]; omega
          have HO2 := Lib.hid (own_news w1 l hll)
          clear q1 q2 q3 hml m1 hl0 hlen
          go_wp2_with fail
          refine (HLo.out _).mono ?_
          rintro e w2 ⟨rfl, rfl⟩
          go_wp2_with fail
          refine (HHi.out _).mono ?_
          rintro e w' ⟨rfl, rfl⟩
          go_wp2_with (at_builtin; go_loud (refine wpList_append_own_none rfl (.tmp 43) (.tmp 45) 25 rfl w1.heap.size 9 i0 1 Tryd.underlying25 hi _ l.length (l.map Value.string) rfl HO2.out rfl ?_))
          go_wp2_with fail
          refine (HMa.out _).mono ?_
          rintro e w' ⟨rfl, rfl⟩
          go_wp2_with (at_builtin; go_loud (refine wpList_append_own_none rfl (.tmp 46) (.tmp 48) 25 rfl w1.heap.size 9 i0 1 Tryd.underlying25 hi _ l.length (l.map Value.string) rfl HO2.out rfl ?_))
          go_wp2_with fail
          go_ret
          refine ⟨_, rfl, ?_, HB.out.alloc hw1 _⟩
          rw [HC.out]
          exact Joins.ownsRow_le HO2.out hw1
        · have m1' : (lowT.map (·.1)).contains u = false := by simpa using m1
          have HLo := Lib.hid (low_none u (not_keys m1'))
          by_cases m2 : (highT.map (·.1)).contains u = true
          · obtain ⟨l, hml⟩ := mem_keys m2
            have hcl := List.all_eq_true.1 cand_high _ hml
            simp only [Bool.and_eq_true, Bool.not_eq_true', decide_eq_true_eq] at hcl
            obtain ⟨⟨⟨⟨q1, _⟩, q2⟩, q3⟩, _⟩ := hcl
            have HHi := Lib.hid (high_some u l hml)
            have HMa := Lib.hid (marks_none u (not_keys q3))
            have HC := Lib.hid q1
            have hll : l.length ≤ 1000 := by rw [← q1]; omega
            clear q1 q2 q3 hml m1 m1' m2 hl0 hlen
            go_wp2_with fail
            refine (HLo.out _).mono ?_
            rintro e w' ⟨rfl, rfl⟩
            go_wp2_with fail
            refine (HHi.out _).mono ?_
            rintro e w2 ⟨rfl, rfl⟩
            go_wp2_with (at_builtin; go_loud (refine wpList_append_own _ rfl (.tmp 43) (.tmp 45) 25 rfl w1.heap.size 9 i0 (.string ByteArray.empty) 1 16 Tryd.underlying25 hi hz0 hz1 hz2 rfl (by decide) _ 0 [] rfl (World.ownsRow_nil _ _ _ _) ⟨w1.heap.size, 0, none⟩ l.length l.length (l.map Value.string) rfl (by simp) (fun j u hj => strs_new _ _ hj) (fun u hu => by obtain ⟨c, _, rfl⟩ := List.mem_map.1 hu; rfl) (by unfold maxLen; omega) (by omega) (by simp) ?_))
            intro v' w3 hown hgrow _
            have HO3 := Lib.hid (show w3.ownsRow w1.heap.size 9 1 v' l.length (l.map Value.string) from by simpa using hown)
            have HB3 := Lib.hid ((HB.out.alloc hw1 (.cells (l.map Value.string).toArray 9)).grown hgrow (by simp; omega) (fun q hq => by simp [Value.ownBlock] at hq))
            obtain ⟨A', cap', rfl⟩ := str_form HO3.out
            clear hown hgrow
            go_wp2_with fail
            refine (HMa.out _).mono ?_
            rintro e w' ⟨rfl, rfl⟩
            go_wp2_with (at_builtin; go_loud (refine wpList_append_own_none rfl (.tmp 46) (.tmp 48) 25 rfl w1.heap.size 9 i0 1 Tryd.underlying25 hi _ l.length (l.map Value.string) rfl HO3.out rfl ?_))
            go_wp2_with fail
            go_ret
            refine ⟨_, rfl, ?_, HB3.out⟩
            rw [HC.out]
            exact Joins.ownsRow_le HO3.out hw1
          · have m2' : (highT.map (·.1)).contains u = false := by simpa using m2
            have HHi := Lib.hid (high_none u (not_keys m2'))
            by_cases m3 : (marksT.map (·.1)).contains u = true
            · obtain ⟨l, hml⟩ := mem_keys m3
              have hcl := List.all_eq_true.1 cand_marks _ hml
              simp only [Bool.and_eq_true, Bool.not_eq_true', decide_eq_true_eq] at hcl
              obtain ⟨⟨⟨⟨q1, _⟩, q2⟩, q3⟩, _⟩ := hcl
              have HMa := Lib.hid (marks_some u l hml)
              have HC := Lib.hid q1
              have hll : l.length ≤ 1000 := by rw [← q1]; omega
              clear q1 q2 q3 hml m1 m1' m2 m2' m3 hl0 hlen
              go_wp2_with fail
              refine (HLo.out _).mono ?_
              rintro e w' ⟨rfl, rfl⟩
              go_wp2_with fail
              refine (HHi.out _).mono ?_
              rintro e w' ⟨rfl, rfl⟩
              go_wp2_with (at_builtin; go_loud (refine wpList_append_own_none rfl (.tmp 43) (.tmp 45) 25 rfl w1.heap.size 9 i0 1 Tryd.underlying25 hi _ 0 [] rfl (World.ownsRow_nil _ _ _ _) rfl ?_))
              go_wp2_with fail
              refine (HMa.out _).mono ?_
              rintro e w2 ⟨rfl, rfl⟩
              go_wp2_with (at_builtin; go_loud (refine wpList_append_own _ rfl (.tmp 46) (.tmp 48) 25 rfl w1.heap.size 9 i0 (.string ByteArray.empty) 1 16 Tryd.underlying25 hi hz0 hz1 hz2 rfl (by decide) _ 0 [] rfl (World.ownsRow_nil _ _ _ _) ⟨w1.heap.size, 0, none⟩ l.length l.length (l.map Value.string) rfl (by simp) (fun j u hj => strs_new _ _ hj) (fun u hu => by obtain ⟨c, _, rfl⟩ := List.mem_map.1 hu; rfl) (by unfold maxLen; omega) (by omega) (by simp) ?_))
              intro v' w3 hown hgrow _
              have HO3 := Lib.hid (show w3.ownsRow w1.heap.size 9 1 v' l.length (l.map Value.string) from by simpa using hown)
              have HB3 := Lib.hid ((HB.out.alloc hw1 (.cells (l.map Value.string).toArray 9)).grown hgrow (by simp; omega) (fun q hq => by simp [Value.ownBlock] at hq))
              obtain ⟨A', cap', rfl⟩ := str_form HO3.out
              clear hown hgrow
              go_wp2_with fail
              go_ret
              refine ⟨_, rfl, ?_, HB3.out⟩
              rw [HC.out]
              exact Joins.ownsRow_le HO3.out hw1
            · have m3' : (marksT.map (·.1)).contains u = false := by simpa using m3
              have HMa := Lib.hid (marks_none u (not_keys m3'))
              have HC := Lib.hid (cand_rest_nil HU.out hl0 m1' m2' m3')
              clear m1 m1' m2 m2' m3 m3' hl0 hlen
              go_wp2_with fail
              refine (HLo.out _).mono ?_
              rintro e w' ⟨rfl, rfl⟩
              go_wp2_with fail
              refine (HHi.out _).mono ?_
              rintro e w' ⟨rfl, rfl⟩
              go_wp2_with (at_builtin; go_loud (refine wpList_append_own_none rfl (.tmp 43) (.tmp 45) 25 rfl w1.heap.size 9 i0 1 Tryd.underlying25 hi _ 0 [] rfl (World.ownsRow_nil _ _ _ _) rfl ?_))
              go_wp2_with fail
              refine (HMa.out _).mono ?_
              rintro e w' ⟨rfl, rfl⟩
              go_wp2_with (at_builtin; go_loud (refine wpList_append_own_none rfl (.tmp 46) (.tmp 48) 25 rfl w1.heap.size 9 i0 1 Tryd.underlying25 hi _ 0 [] rfl (World.ownsRow_nil _ _ _ _) rfl ?_))
              go_wp2_with fail
              go_ret
              refine ⟨_, rfl, ?_, HB.out⟩
              rw [HC.out]
              exact World.ownsRow_nil _ _ _ _
      | succ gg =>
        have hk1 : (k : Int) < 51 := by omega
        have hk0 : (0 : Int) ≤ (k : Int) := by omega
        have hk2 : (k : Int) + 1 ≤ 51 := by omega
        have hk51 : k < 51 := by omega
        obtain ⟨x, hx⟩ : ∃ x, lettersL[k]? = some x := ⟨_, List.getElem?_eq_getElem (show k < lettersL.length by rw [letters_len]; omega)⟩
        have c1 := row_at HO.out hx
        have hxd : lettersL.getD k 0 = x := by rw [List.getD_eq_getElem?_getD, hx]; rfl
        have HX := Lib.hid hxd
        clear hx hxd
        by_cases hxu : x = u
        · subst hxu
          have HC := Lib.hid (show candL x = [plainS.extract k (k + 1)] from by
            have := of_decide_eq_true (List.all_eq_true.1 cand_letters k (List.mem_range.2 hk51))
            rwa [HX.out] at this)
          go_wp2_with fail
          go_ret
          refine ⟨_, rfl, ?_, HB.out.alloc hw1 _⟩
          rw [HC.out]
          exact Joins.ownsRow_le (own_new w1 [.string (plainS.extract k (k + 1))] (by simp)) hw1
        · have hq : (x == u) = false := by simp [hxu]
          have HN' := Lib.hid (show ∀ j, j < k + 1 → lettersL.getD j 0 ≠ u from fun j hj => by
            rcases Nat.lt_succ_iff_lt_or_eq.1 hj with h1 | rfl
            · exact HN.out j h1
            · rw [HX.out]; exact hxu)
          clear hxu
          go_wp2_with fail
          go_roundg gg
          case measure => omega
          case rel => exact ⟨k + 1, by omega, by go_num, rfl, HN'⟩
theorem rcand_any (u : Int) (w : World) : Calls Tryd.prog 13 #[.int .i32 u] w (RPost u w) := by
  by_cases h : 65281 ≤ u ∧ u ≤ 65374
  · exact rcand_wide u h.1 h.2 w
  · exact rcand_rest u h w
end Go.Proofs.YthafggbmomdkkaaDoor
