/- The reference's Aliases at every number; both Names (written by mknd.py). -/
import Derived.Test.YtkbkkdeaegidjaaDoorNC
namespace Go.Proofs.YtkbkkdeaegidjaaDoor
open Go.RowKit
def asianK : List Int := [70, 71, 72, 80, 81, 82, 83, 84, 85, 86, 87, 88]
def othersK : List Int := [1, 2, 3, 4, 5, 6, 7, 8, 9, 10, 11, 50, 51, 52, 53, 54, 55, 56, 57, 58, 60, 61, 62, 63, 64, 65, 66]
def mainK : List Int := [21, 22, 23, 24, 25, 26, 27, 28, 29, 30, 31, 33, 34, 35, 36, 40, 41]
set_option maxHeartbeats 1600000 in
theorem asian_none (u : Int) (h : ∀ x ∈ asianK, u ≠ x) (ha : aliL u = []) (w : World) : Calls Tryd.prog 31 #[.int .i64 u] w (AliPost u w) := by
  have h70 : (u == 70) = false := by have := h 70 (by decide); simp [this]
  have h71 : (u == 71) = false := by have := h 71 (by decide); simp [this]
  have h72 : (u == 72) = false := by have := h 72 (by decide); simp [this]
  have h80 : (u == 80) = false := by have := h 80 (by decide); simp [this]
  have h81 : (u == 81) = false := by have := h 81 (by decide); simp [this]
  have h82 : (u == 82) = false := by have := h 82 (by decide); simp [this]
  have h83 : (u == 83) = false := by have := h 83 (by decide); simp [this]
  have h84 : (u == 84) = false := by have := h 84 (by decide); simp [this]
  have h85 : (u == 85) = false := by have := h 85 (by decide); simp [this]
  have h86 : (u == 86) = false := by have := h 86 (by decide); simp [this]
  have h87 : (u == 87) = false := by have := h 87 (by decide); simp [this]
  have h88 : (u == 88) = false := by have := h 88 (by decide); simp [this]
  have HA := Lib.hid ha
  clear h ha
  go_enter Tryd.func31, Tryd.ntmps31
  go_wp2
  go_ret
  exact ⟨.inl ⟨HA.out, rfl⟩, Below.refl _ _⟩
theorem asian_any (u : Int) (h : u ∈ asianK ∨ aliL u = []) (w : World) : Calls Tryd.prog 31 #[.int .i64 u] w (AliPost u w) := by
  by_cases hu : u ∈ asianK
  · simp only [asianK, List.mem_cons, List.mem_nil_iff, or_false] at hu
    rcases hu with rfl | rfl | rfl | rfl | rfl | rfl | rfl | rfl | rfl | rfl | rfl | rfl
    · exact asian_70 w
    · exact asian_71 w
    · exact asian_72 w
    · exact asian_80 w
    · exact asian_81 w
    · exact asian_82 w
    · exact asian_83 w
    · exact asian_84 w
    · exact asian_85 w
    · exact asian_86 w
    · exact asian_87 w
    · exact asian_88 w
  · exact asian_none u (fun x hx e => hu (e ▸ hx)) (h.resolve_left hu) w
set_option maxHeartbeats 1600000 in
theorem others_via (u : Int) (h : ∀ x ∈ othersK, u ≠ x) (ha : ∀ w, Calls Tryd.prog 31 #[.int .i64 u] w (AliPost u w)) (w : World) : Calls Tryd.prog 26 #[.int .i64 u] w (AliPost u w) := by
  have h1 : (u == 1) = false := by have := h 1 (by decide); simp [this]
  have h2 : (u == 2) = false := by have := h 2 (by decide); simp [this]
  have h3 : (u == 3) = false := by have := h 3 (by decide); simp [this]
  have h4 : (u == 4) = false := by have := h 4 (by decide); simp [this]
  have h5 : (u == 5) = false := by have := h 5 (by decide); simp [this]
  have h6 : (u == 6) = false := by have := h 6 (by decide); simp [this]
  have h7 : (u == 7) = false := by have := h 7 (by decide); simp [this]
  have h8 : (u == 8) = false := by have := h 8 (by decide); simp [this]
  have h9 : (u == 9) = false := by have := h 9 (by decide); simp [this]
  have h10 : (u == 10) = false := by have := h 10 (by decide); simp [this]
  have h11 : (u == 11) = false := by have := h 11 (by decide); simp [this]
  have h50 : (u == 50) = false := by have := h 50 (by decide); simp [this]
  have h51 : (u == 51) = false := by have := h 51 (by decide); simp [this]
  have h52 : (u == 52) = false := by have := h 52 (by decide); simp [this]
  have h53 : (u == 53) = false := by have := h 53 (by decide); simp [this]
  have h54 : (u == 54) = false := by have := h 54 (by decide); simp [this]
  have h55 : (u == 55) = false := by have := h 55 (by decide); simp [this]
  have h56 : (u == 56) = false := by have := h 56 (by decide); simp [this]
  have h57 : (u == 57) = false := by have := h 57 (by decide); simp [this]
  have h58 : (u == 58) = false := by have := h 58 (by decide); simp [this]
  have h60 : (u == 60) = false := by have := h 60 (by decide); simp [this]
  have h61 : (u == 61) = false := by have := h 61 (by decide); simp [this]
  have h62 : (u == 62) = false := by have := h 62 (by decide); simp [this]
  have h63 : (u == 63) = false := by have := h 63 (by decide); simp [this]
  have h64 : (u == 64) = false := by have := h 64 (by decide); simp [this]
  have h65 : (u == 65) = false := by have := h 65 (by decide); simp [this]
  have h66 : (u == 66) = false := by have := h 66 (by decide); simp [this]
  have HA := Lib.hid ha
  clear h ha
  go_enter Tryd.func26, Tryd.ntmps26
  go_wp2_with fail
  refine (HA.out _).mono ?_
  rintro e w1 ⟨h, hb⟩
  have HB := Lib.hid hb
  clear hb
  rcases h with ⟨h, rfl⟩ | ⟨g, hg, hn, rfl, hc⟩
  · have H := Lib.hid h
    clear h
    go_wp2_with fail
    go_ret
    exact ⟨.inl ⟨H.out, rfl⟩, HB.out⟩
  · have H := Lib.hid (And.intro hg (And.intro hn hc))
    clear hg hn hc
    go_wp2_with fail
    go_ret
    exact ⟨.inr ⟨g, H.out.1, H.out.2.1, rfl, H.out.2.2⟩, HB.out⟩
theorem others_any (u : Int) (h : u ∈ othersK ∨ u ∈ asianK ∨ aliL u = []) (w : World) : Calls Tryd.prog 26 #[.int .i64 u] w (AliPost u w) := by
  by_cases hu : u ∈ othersK
  · simp only [othersK, List.mem_cons, List.mem_nil_iff, or_false] at hu
    rcases hu with rfl | rfl | rfl | rfl | rfl | rfl | rfl | rfl | rfl | rfl | rfl | rfl | rfl | rfl | rfl | rfl | rfl | rfl | rfl | rfl | rfl | rfl | rfl | rfl | rfl | rfl | rfl
    · exact others_1 w
    · exact others_2 w
    · exact others_3 w
    · exact others_4 w
    · exact others_5 w
    · exact others_6 w
    · exact others_7 w
    · exact others_8 w
    · exact others_9 w
    · exact others_10 w
    · exact others_11 w
    · exact others_50 w
    · exact others_51 w
    · exact others_52 w
    · exact others_53 w
    · exact others_54 w
    · exact others_55 w
    · exact others_56 w
    · exact others_57 w
    · exact others_58 w
    · exact others_60 w
    · exact others_61 w
    · exact others_62 w
    · exact others_63 w
    · exact others_64 w
    · exact others_65 w
    · exact others_66 w
  · exact others_via u (fun x hx e => hu (e ▸ hx)) (fun w => asian_any u (h.resolve_left hu) w) w
set_option maxHeartbeats 1600000 in
theorem rali_via (u : Int) (h : u < 20 ∨ 50 ≤ u) (ha : ∀ w, Calls Tryd.prog 26 #[.int .i64 u] w (AliPost u w)) (w : World) : Calls Tryd.prog 15 #[.int .i64 u] w (AliPost u w) := by
  have HA := Lib.hid ha
  clear ha
  have hs : decide (u < 20) = true ∨ (decide (u < 20) = false ∧ decide (50 ≤ u) = true) := by
    rcases h with h | h
    · exact .inl (by simp; omega)
    · exact .inr ⟨by simp; omega, by simp; omega⟩
  rcases hs with hd | ⟨hd, hd2⟩
  all_goals
    go_enter Tryd.func15, Tryd.ntmps15
    go_wp2_with fail
    refine (HA.out _).mono ?_
    rintro e w1 ⟨h, hb⟩
    have HB := Lib.hid hb
    clear hb
    rcases h with ⟨h, rfl⟩ | ⟨g, hg, hn, rfl, hc⟩
    · have H := Lib.hid h
      clear h
      go_wp2_with fail
      go_ret
      exact ⟨.inl ⟨H.out, rfl⟩, HB.out⟩
    · have H := Lib.hid (And.intro hg (And.intro hn hc))
      clear hg hn hc
      go_wp2_with fail
      go_ret
      exact ⟨.inr ⟨g, H.out.1, H.out.2.1, rfl, H.out.2.2⟩, HB.out⟩
set_option maxHeartbeats 1600000 in
theorem rali_none (u : Int) (hu0 : 20 ≤ u) (hu1 : u < 50) (h : ∀ x ∈ mainK, u ≠ x) (ha : aliL u = []) (w : World) : Calls Tryd.prog 15 #[.int .i64 u] w (AliPost u w) := by
  have hd : decide (u < 20) = false := by simp; omega
  have hd2 : decide (50 ≤ u) = false := by simp; omega
  have h21 : (u == 21) = false := by have := h 21 (by decide); simp [this]
  have h22 : (u == 22) = false := by have := h 22 (by decide); simp [this]
  have h23 : (u == 23) = false := by have := h 23 (by decide); simp [this]
  have h24 : (u == 24) = false := by have := h 24 (by decide); simp [this]
  have h25 : (u == 25) = false := by have := h 25 (by decide); simp [this]
  have h26 : (u == 26) = false := by have := h 26 (by decide); simp [this]
  have h27 : (u == 27) = false := by have := h 27 (by decide); simp [this]
  have h28 : (u == 28) = false := by have := h 28 (by decide); simp [this]
  have h29 : (u == 29) = false := by have := h 29 (by decide); simp [this]
  have h30 : (u == 30) = false := by have := h 30 (by decide); simp [this]
  have h31 : (u == 31) = false := by have := h 31 (by decide); simp [this]
  have h33 : (u == 33) = false := by have := h 33 (by decide); simp [this]
  have h34 : (u == 34) = false := by have := h 34 (by decide); simp [this]
  have h35 : (u == 35) = false := by have := h 35 (by decide); simp [this]
  have h36 : (u == 36) = false := by have := h 36 (by decide); simp [this]
  have h40 : (u == 40) = false := by have := h 40 (by decide); simp [this]
  have h41 : (u == 41) = false := by have := h 41 (by decide); simp [this]
  have HA := Lib.hid ha
  clear h ha
  go_enter Tryd.func15, Tryd.ntmps15
  go_wp2
  go_ret
  exact ⟨.inl ⟨HA.out, rfl⟩, Below.refl _ _⟩
theorem keys_all : (nameT.map (·.1)).all (fun k => decide (k ∈ mainK ∨ ((k < 20 ∨ 50 ≤ k) ∧ (k ∈ othersK ∨ k ∈ asianK)))) = true := by decide +kernel
theorem keys_main : mainK.all (fun k => decide (20 ≤ k ∧ k < 50)) = true := by decide +kernel
theorem rali_any (u : Int) (w : World) : Calls Tryd.prog 15 #[.int .i64 u] w (AliPost u w) := by
  by_cases hu : u ∈ mainK
  · simp only [mainK, List.mem_cons, List.mem_nil_iff, or_false] at hu
    rcases hu with rfl | rfl | rfl | rfl | rfl | rfl | rfl | rfl | rfl | rfl | rfl | rfl | rfl | rfl | rfl | rfl | rfl
    · exact rali_21 w
    · exact rali_22 w
    · exact rali_23 w
    · exact rali_24 w
    · exact rali_25 w
    · exact rali_26 w
    · exact rali_27 w
    · exact rali_28 w
    · exact rali_29 w
    · exact rali_30 w
    · exact rali_31 w
    · exact rali_33 w
    · exact rali_34 w
    · exact rali_35 w
    · exact rali_36 w
    · exact rali_40 w
    · exact rali_41 w
  · have hk : (u ∈ othersK ∨ u ∈ asianK) ∧ (u < 20 ∨ 50 ≤ u) ∨ aliL u = [] := by
      by_cases hm : u ∈ nameT.map (·.1)
      · rcases of_decide_eq_true (List.all_eq_true.1 keys_all u hm) with h | ⟨h1, h2⟩
        · exact absurd h hu
        · exact .inl ⟨h2, h1⟩
      · exact .inr (ali_none_mem u fun t ht e => hm (List.mem_map.2 ⟨t, ht, e⟩))
    rcases hk with ⟨h1, h2⟩ | h
    · exact rali_via u h2 (fun w => others_any u (h1.elim .inl (fun h => .inr (.inl h))) w) w
    · by_cases h2 : u < 20 ∨ 50 ≤ u
      · exact rali_via u h2 (fun w => others_any u (.inr (.inr h)) w) w
      · exact rali_none u (by omega) (by omega) (fun x hx e => hu (e ▸ hx)) h w
end Go.Proofs.YtkbkkdeaegidjaaDoor
