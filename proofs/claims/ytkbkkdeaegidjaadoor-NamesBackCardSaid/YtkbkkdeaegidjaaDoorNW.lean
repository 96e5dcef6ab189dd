/- The reference's parts. -/
import Derived.Test.YtkbkkdeaegidjaaDoorNV
import Derived.Test.YtkbkkdeaegidjaaDoorNF
namespace Go.Proofs.YtkbkkdeaegidjaaDoor
open Go.RowKit
theorem info9 : (Tryd.prog.info? 9).map (fun i => (i.zero, i.size, i.bytes)) = some (some (.string ByteArray.empty), 1, 16) := by kernel_rfl
theorem ext_all (s : ByteArray) : s.extract 0 s.size = s := ext_list (by rw [Lib.extract_to_end]; rfl)
theorem no_step {s : ByteArray} {m i : Nat} (hn : ∀ j, m ≤ j → j < i → mAt s j = false) (hi : mAt s i = false) : ∀ j, m ≤ j → j < i + 1 → mAt s j = false := fun j h1 h2 => by
  rcases Nat.lt_or_ge j i with h | h
  · exact hn j h1 h
  · obtain rfl : j = i := by omega
    exact hi
set_option maxRecDepth 100000 in
set_option maxHeartbeats 3200000 in
theorem parts_calls (s : ByteArray) (hs : s.size ≤ 64) (w : World) : Calls Tryd.prog 28 #[.string s] w fun e w' => ∃ v, e = .returned v ∧ w'.ownsRow w.heap.size 9 1 v (splitSl s).length ((splitSl s).map Value.string) ∧ Below w.heap.size w w' := by
  obtain ⟨i0, hi, hz0, hz1, hz2⟩ := info_parts info9
  go_enter Tryd.func28, Tryd.ntmps28
  go_wp2_with fail
  go_loopg [3, 4, 5] s.size (fun gg v vf vi wr => ∃ (m i : Nat) (l1 : List ByteArray), vf = .int .i64 (m : Int) ∧ vi = .int .i64 (i : Int) ∧ m ≤ i ∧ i ≤ s.size ∧ s.size ≤ gg + i ∧ l1.length ≤ i ∧ Hid (splitSl s = l1 ++ splitSl (s.extract m s.size)) ∧ Hid (∀ j, m ≤ j → j < i → mAt s j = false) ∧ Hid (wr.ownsRow w.heap.size 9 1 v l1.length (l1.map Value.string)) ∧ Hid (Below w.heap.size w wr))
  case atStart => exact ⟨0, 0, [], rfl, rfl, by omega, by omega, by omega, by simp, Lib.hid (by rw [ext_all]; rfl), Lib.hid (fun j h1 h2 => by omega), Lib.hid (World.ownsRow_nil _ _ _ _), Lib.hid (Below.refl _ _)⟩
  case round =>
    obtain ⟨m, i, l1, rfl, rfl, hmi, his, hgi, hl1, HE, HN, HO, HB⟩ := hrel
    have hsz : w.heap.size ≤ wr.heap.size := HB.out.size
    have hm0 : (0 : Int) ≤ (m : Int) := by omega
    have hi0 : (0 : Int) ≤ (i : Int) := by omega
    have hmi2 : (m : Int) ≤ (i : Int) := by omega
    have his2 : (i : Int) ≤ (s.size : Int) := by omega
    have hms2 : (m : Int) ≤ (s.size : Int) := by omega
    by_cases hlt : i + 1 < s.size
    · obtain ⟨gg, rfl⟩ : ∃ g, gk = g + 1 := ⟨gk - 1, by omega⟩
      have hlt2 : (i : Int) + 1 < (s.size : Int) := by omega
      have hlt3 : (i : Int) < (s.size : Int) := by omega
      have hb1 := byte_get s i (by omega)
      have hb2 := byte_get s (i + 1) hlt
      have HM := Lib.hid (mAt_iff s i)
      obtain ⟨x, hx⟩ : ∃ x, (bytesL s).getD i 0 = x := ⟨_, rfl⟩
      obtain ⟨y, hy⟩ : ∃ y, (bytesL s).getD (i + 1) 0 = y := ⟨_, rfl⟩
      rw [hx, hy] at HM
      rw [hx] at hb1
      rw [hy] at hb2
      clear hx hy
      by_cases hx : x = 47
      · by_cases hy : y = 47
        · have HT := Lib.hid (sp_hit hmi (by omega) (HM.out.2 ⟨hlt, hx, hy⟩) HN.out)
          subst hx hy
          have HO1 := Lib.hid (HO.out.alloc (.cells #[.string (s.extract m i)] 9))
          go_wp2_with (at_builtin; go_loud (refine wpList_append_own _ rfl _ _ 33 rfl w.heap.size 9 i0 (.string ByteArray.empty) 1 16 Tryd.underlying33 hi hz0 hz1 hz2 rfl (by decide) _ _ _ rfl HO1.out ⟨wr.heap.size, 0, none⟩ 1 1 [.string (s.extract m i)] rfl rfl (fun j u hj => one_new _ _ _ hj) (by simp [Value.oneCell']) (by unfold maxLen; omega) (by omega) (by simp; omega) ?_))
          intro v' w1 hown hgrow _
          have HR := Lib.hid (And.intro hown ((HB.out.alloc hsz (.cells #[.string (s.extract m i)] 9)).grown hgrow (by simp; omega) (fun q hq => (HO1.out.lt q hq).1)))
          clear hown hgrow
          go_wp2_with fail
          go_roundg gg
          case measure => omega
          case rel => exact ⟨i + 2, i + 2, l1 ++ [s.extract m i], by go_num, by go_num, by omega, by omega, by omega, by simp; omega, Lib.hid (by rw [HE.out, HT.out]; simp), Lib.hid (fun j h1 h2 => by omega), Lib.hid (by simpa using HR.out.1), Lib.hid HR.out.2⟩
        · have HT := Lib.hid (show mAt s i = false by
            cases h : mAt s i with
            | false => rfl
            | true => exact absurd (HM.out.1 h).2.2 hy)
          have hy2 : (y == 47) = false := beq_eq_false_iff_ne.2 hy
          subst hx
          clear hy
          go_wp2_with fail
          go_roundg gg
          case measure => omega
          case rel => exact ⟨m, i + 1, l1, rfl, by go_num, by omega, by omega, by omega, by omega, HE, Lib.hid (no_step HN.out HT.out), HO, HB⟩
      · have HT := Lib.hid (show mAt s i = false by
          cases h : mAt s i with
          | false => rfl
          | true => exact absurd (HM.out.1 h).2.1 hx)
        have hx2 : (x == 47) = false := beq_eq_false_iff_ne.2 hx
        clear hx
        go_wp2_with fail
        go_roundg gg
        case measure => omega
        case rel => exact ⟨m, i + 1, l1, rfl, by go_num, by omega, by omega, by omega, by omega, HE, Lib.hid (no_step HN.out HT.out), HO, HB⟩
    · have hlt2 : ¬ ((i : Int) + 1 < (s.size : Int)) := by omega
      have HT := Lib.hid (sp_miss (s := s) (m := m) (fun j hj => by
        rcases Nat.lt_or_ge j i with h | h
        · exact HN.out j hj h
        · cases hm : mAt s j with
          | false => rfl
          | true => have := ((mAt_iff s j).1 hm).1; omega))
      have HO1 := Lib.hid (HO.out.alloc (.cells #[.string (s.extract m s.size)] 9))
      go_wp2_with (at_builtin; go_loud (refine wpList_append_own _ rfl _ _ 33 rfl w.heap.size 9 i0 (.string ByteArray.empty) 1 16 Tryd.underlying33 hi hz0 hz1 hz2 rfl (by decide) _ _ _ rfl HO1.out ⟨wr.heap.size, 0, none⟩ 1 1 [.string (s.extract m s.size)] rfl rfl (fun j u hj => one_new _ _ _ hj) (by simp [Value.oneCell']) (by unfold maxLen; omega) (by omega) (by simp; omega) ?_))
      intro v' w1 hown hgrow _
      have HR := Lib.hid (And.intro hown ((HB.out.alloc hsz (.cells #[.string (s.extract m s.size)] 9)).grown hgrow (by simp; omega) (fun q hq => (HO1.out.lt q hq).1)))
      clear hown hgrow
      go_wp2_with fail
      go_ret
      exact ⟨_, rfl, by have := HR.out.1; rw [HE.out, HT.out]; simpa using this, HR.out.2⟩
end Go.Proofs.YtkbkkdeaegidjaaDoor
