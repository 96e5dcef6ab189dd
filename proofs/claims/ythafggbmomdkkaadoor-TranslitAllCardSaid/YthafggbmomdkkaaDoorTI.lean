/- The reference's Scalars at bytes that are whole. -/
import Derived.Test.YthafggbmomdkkaaDoorTH
namespace Go.Proofs.YthafggbmomdkkaaDoor
open Go.RowKit
theorem getU_ok {L : List Int} (h : (getU L).err = 0) : ∃ m : Nat, (getU L).n = (m : Int) ∧ 1 ≤ m ∧ m ≤ L.length ∧ m ≤ 4 ∧ (getU L).k = 1 := by
  unfold getU at h ⊢
  split at h
  · simp at h
  · rename_i b0 r
    try dsimp only at h ⊢
    split at h
    · rename_i h1
      rw [if_pos h1]
      exact ⟨1, rfl, by omega, by simp, by omega, rfl⟩
    · rename_i h1
      rw [if_neg h1]
      split at h
      · simp at h
      · rename_i h2
        rw [if_neg h2]
        split at h
        · simp at h
        · rename_i b1 r
          try dsimp only
          split at h
          · simp at h
          · rename_i h3
            rw [if_neg h3]
            split at h
            · rename_i h4
              rw [if_pos h4]
              exact ⟨2, rfl, by omega, by simp, by omega, rfl⟩
            · rename_i h4
              rw [if_neg h4]
              split at h
              · simp at h
              · rename_i b2 r
                try dsimp only
                split at h
                · simp at h
                · rename_i h5
                  rw [if_neg h5]
                  split at h
                  · rename_i h6
                    rw [if_pos h6]
                    exact ⟨3, rfl, by omega, by simp, by omega, rfl⟩
                  · rename_i h6
                    rw [if_neg h6]
                    split at h
                    · simp at h
                    · rename_i b3 r
                      try dsimp only
                      split at h
                      · simp at h
                      · rename_i h7
                        rw [if_neg h7]
                        exact ⟨4, rfl, by omega, by simp, by omega, rfl⟩
/-- The scalars of bytes that are whole. -/
def decU : Nat → List Int → Option (List Int)
  | 0, _ => none
  | f + 1, L => if L = [] then some [] else if (getU L).err = 0 then (decU f (L.drop (getU L).n.toNat)).map ((getU L).x :: ·) else none
theorem info21 : (Tryd.prog.info? 21).map (fun i => (i.zero, i.size, i.bytes)) = some (some (.int .i32 0), 1, 4) := by kernel_rfl
theorem own_lt {w : World} {B : Nat} {e : TypeId} {v : Value} {n : Nat} {xs : List Value} (h : w.ownsRow B e 1 v n xs) {w' : World} (hb : Below w.heap.size w w') : w'.ownsRow B e 1 v n xs := by
  refine ⟨h.1, ?_⟩
  rcases h.2 with h0 | ⟨g, cap, cur, h1, h2, h3, h4⟩
  · exact .inl h0
  · exact .inr ⟨g, cap, cur, h1, h2, (hb.block g (Array.getElem?_eq_some_iff.1 h3).1).trans h3, h4⟩
theorem one_new2 (w : World) (o : Obj) (x : Value) (t : TypeId) {j : Nat} {u : Value} (hj : [x][j]? = some u) : ((w.alloc o).alloc (.cells #[x] t)).cell? ((⟨w.heap.size + 1, 0, none⟩ : Addr).add j) = some u := by
  match j, hj with
  | 0, hj =>
    simp at hj
    subst hj
    show ((w.alloc o).alloc (.cells #[x] t)).cell? ⟨w.heap.size + 1, 0, none⟩ = _
    rw [cell_of_row _ _ _ _ _ _ (heap_alloc2_new _ _ _)]
    rfl
theorem SlI.drop {k : IntKind} {w : World} {ad : Addr} {n cap : Nat} {xs : List Int} (h : SlI k w (some ad) n cap xs) {j : Nat} (hj : j ≤ n) : SlI k w (some (ad.add j)) (n - j) (cap - j) (xs.drop j) := by
  obtain ⟨h1, h2, h3, h3', h4⟩ := h
  refine ⟨by rw [List.length_drop]; omega, by omega, by omega, fun x hx => h3' x (List.mem_of_mem_drop hx), ?_⟩
  rcases h4 with ⟨h4, _⟩ | ⟨ad', h5, h6⟩
  · cases h4
  · cases h5
    refine .inr ⟨_, rfl, fun i hi => ?_⟩
    have := h6 (j + i) (by omega)
    rw [show (ad.add j).add i = ad.add (j + i) by cases j <;> cases i <;> simp [Addr.add] <;> omega, this]
    simp [List.getD_eq_getElem?_getD, List.getElem?_drop]
theorem got9 {X : World} {p : Nat} {a b c d e f g h i : Value} {t : TypeId} (H : X.heap[p]? = some (.cells #[a, b, c, d, e, f, g, h, i] t (0, 0))) :
    X.cell? ⟨p, 0, none⟩ = some a ∧ X.cell? ⟨p, 1, none⟩ = some b ∧ X.cell? ⟨p, 2, none⟩ = some c ∧ X.cell? ⟨p, 3, none⟩ = some d := by
  simp only [cell_of_row X _ _ _ _ _ H]
  simp
set_option maxRecDepth 100000 in
set_option maxHeartbeats 3200000 in
theorem scal_calls (A : Option Addr) (n cap : Nat) (L l : List Int) (hl : decU (L.length + 1) L = some l) (hn : n ≤ 1000) (w : World) (hA : SlI .u8 w A n cap L) :
    Calls Tryd.prog 16 #[.slice A n cap] w fun e w' => ∃ v, e = .returned (.tuple #[v, .int .i64 (n : Int), .int .i64 0]) ∧ w'.ownsRow w.heap.size 21 1 v l.length (l.map (Value.int .i32)) ∧ Below w.heap.size w w' := by
  obtain ⟨i0, hi, hz0, hz1, hz2⟩ := info_parts info21
  have HA := Lib.hid hA
  have HL := Lib.hid hl
  have hLn := hA.1
  have hcap := hA.2.2.1
  clear hA hl
  go_enter Tryd.func16, Tryd.ntmps16
  go_wp2_with fail
  go_loopg [5, 6] (n + 1) (fun gg v i wr => ∃ (k : Nat) (l1 l2 : List Int) (f : Nat), i = .int .i64 (k : Int) ∧ k ≤ n ∧ n + 1 ≤ gg + k ∧ Hid (decU f (L.drop k) = some l2) ∧ Hid (l1 ++ l2 = l) ∧ l1.length ≤ k ∧ Hid (wr.ownsRow w.heap.size 21 1 v l1.length (l1.map (Value.int .i32))) ∧ Hid (Below w.heap.size w wr))
  case atStart => exact ⟨0, [], l, L.length + 1, rfl, by omega, by omega, Lib.hid HL.out, Lib.hid rfl, by simp, Lib.hid (World.ownsRow_nil _ _ _ _), Lib.hid (Below.refl _ _)⟩
  case round =>
    obtain ⟨k, l1, l2, f, rfl, hk, hgk, HD, HE, hl1, HO, HB⟩ := hrel
    cases f with
    | zero => have := HD.out; simp [decU] at this
    | succ f =>
      by_cases hlt : k < n
      · have hk1 : (k : Int) < (n : Int) := by omega
        have hk0 : (0 : Int) ≤ (k : Int) := by omega
        have hk2 : (k : Int) ≤ (n : Int) := by omega
        have hk7 : ¬ cap = k := by omega
        obtain ⟨gk', rfl⟩ : ∃ g, gk = g + 1 := ⟨gk - 1, by omega⟩
        have hne : L.drop k ≠ [] := fun h => by have := congrArg List.length h; rw [List.length_drop] at this; simp at this; omega
        have hD := HD.out
        unfold decU at hD
        rw [if_neg hne] at hD
        have hge : (getU (L.drop k)).err = 0 := by
          by_cases h : (getU (L.drop k)).err = 0
          · exact h
          · rw [if_neg h] at hD; cases hD
        rw [if_pos hge] at hD
        obtain ⟨m, hm, hm1, hm2, hm4, hkk⟩ := getU_ok hge
        rw [hm] at hD
        obtain ⟨l3, hl3, hl4⟩ := Option.map_eq_some_iff.1 hD
        obtain ⟨⟨ge, gn, gk1, gx⟩, hg⟩ : ∃ g, getU (L.drop k) = g := ⟨_, rfl⟩
        rw [hg] at hge hm hkk hl4
        dsimp only at hge hm hkk hl4
        subst hge hm hkk
        have H3 := Lib.hid hl3
        have H4 := Lib.hid hl4
        have hmn : k + m ≤ n := by rw [List.length_drop] at hm2; omega
        obtain ⟨ad, rfl⟩ : ∃ ad, A = some ad := by
          rcases HA.out.2.2.2.2 with ⟨_, h⟩ | ⟨ad, h, _⟩
          · omega
          · exact ⟨ad, h⟩
        have HS := Lib.hid ((HA.out.drop (j := k) hk).below (HB.out.mono (Nat.le_refl _)))
        have hgc := fun W (h : SlI .u8 W (some (ad.add k)) (n - k) (cap - k) (L.drop k)) => gget_any _ _ _ _ W h
        rw [hg] at hgc
        unfold gotV gotC at hgc
        dsimp only at hgc
        have HG := Lib.hid hgc
        have hsz : w.heap.size ≤ wr.heap.size := HB.out.size
        have hw1 : IntKind.i64.wrap ((k : Int) + (m : Int)) = (k : Int) + (m : Int) := by rw [IntKind.wrap_i64]; omega
        clear hD hl3 hl4 hgc hg hne hm2
        go_wp2_with fail
        refine (HG.out _ HS.out).mono ?_
        rintro e w1 ⟨rfl, hb⟩
        have B1 := Lib.hid (below_then HB.out hsz hb)
        have O1 := Lib.hid ((own_lt HO.out hb).alloc (.cells #[.int .i64 0, .int .i64 (m : Int), .int .i64 1, .int .i32 gx, .int .i32 0, .int .i64 0, .int .i64 0, .int .u32 0, .int .i32 0] 50))
        have O2 := Lib.hid (O1.out.alloc (.cells #[.int .i32 gx] 21))
        have hsz1 : w.heap.size ≤ w1.heap.size := Nat.le_trans hsz hb.size
        have hsz2 : wr.heap.size ≤ w1.heap.size := hb.size
        clear hb
        go_wp2_with (at_builtin; go_loud (refine wpList_append_own _ rfl _ _ 23 rfl w.heap.size 21 i0 (.int .i32 0) 1 4 Tryd.underlying23 hi hz0 hz1 hz2 rfl (by decide) _ _ _ rfl O2.out ⟨w1.heap.size + 1, 0, none⟩ 1 1 [.int .i32 gx] rfl rfl (fun j u hj => one_new2 _ _ _ _ hj) (by simp [Value.oneCell']) (by unfold maxLen; omega) (by omega) (by simp; omega) ?_))
        intro v' w2 hown hgrow _
        have O3 := Lib.hid hown
        have B3 := Lib.hid (((B1.out.alloc hsz1 (.cells #[.int .i64 0, .int .i64 (m : Int), .int .i64 1, .int .i32 gx, .int .i32 0, .int .i64 0, .int .i64 0, .int .u32 0, .int .i32 0] 50)).alloc (by simp; omega) (.cells #[.int .i32 gx] 21)).grown hgrow (by simp; omega) (fun q hq => (O1.out.lt q hq).1))
        have P3 := (hgrow.block w1.heap.size (by simp; omega) (fun e => by have := HO.out.lt _ e.symm; omega)).trans (heap_alloc2_old w1 _ _)
        obtain ⟨p0, p1, p2, p3⟩ := got9 P3
        clear hown hgrow P3
        go_wp2_with fail
        go_roundg gk'
        case measure => omega
        case rel => exact ⟨k + m, l1 ++ [gx], l3, f, by go_num, hmn, by omega, Lib.hid (by have := H3.out; rwa [List.drop_drop] at this), Lib.hid (by rw [← HE.out, ← H4.out]; simp), by simp; omega, Lib.hid (by simpa using O3.out), B3⟩
      · obtain rfl : k = n := by omega
        have hk1 : ¬ ((k : Int) < (k : Int)) := by omega
        have h2 : l2 = [] := by
          have := HD.out
          unfold decU at this
          rw [if_pos (List.drop_eq_nil_of_le (by omega))] at this
          exact (Option.some.inj this).symm
        have HF := Lib.hid (show l1 = l by rw [← HE.out, h2]; simp)
        clear h2
        go_wp2_with fail
        go_ret3
        exact ⟨_, rfl, by rw [← HF.out]; exact HO.out, HB.out⟩
end Go.Proofs.YthafggbmomdkkaaDoor
