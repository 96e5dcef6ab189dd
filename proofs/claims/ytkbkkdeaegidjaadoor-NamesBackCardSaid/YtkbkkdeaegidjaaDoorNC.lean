/- The reference's Aliases: three chains of tests (written by mknc.py). -/
import Derived.Test.YtkbkkdeaegidjaaDoorNB
namespace Go.Proofs.YtkbkkdeaegidjaaDoor
open Go.RowKit
theorem ali_new (u : Int) (l : List ByteArray) (h : aliL u = l) (hl : l ≠ []) (w : World) (cs : Array Value) (hc : cs = (l.map Value.string).toArray) : AliPost u w (.returned (.slice (some ⟨w.heap.size, 0, none⟩) l.length l.length)) (w.alloc (.cells cs 9)) := by
  subst h
  subst hc
  exact ⟨.inr ⟨w.heap.size, Nat.le_refl _, hl, rfl, heap_alloc_new w _⟩, (Below.refl _ _).alloc (Nat.le_refl _) _⟩
theorem ali_none_mem (u : Int) (h : ∀ t ∈ nameT, t.1 ≠ u) : aliL u = [] := by
  have : nameT.find? (fun t => decide (t.1 = u)) = none := by
    rw [List.find?_eq_none]
    intro t ht
    simpa using h t ht
  unfold aliL
  rw [this]
theorem ali_1 : aliL 1 = [⟨#[65, 83, 67, 73, 73]⟩, ⟨#[85, 83, 45, 65, 83, 67, 73, 73]⟩, ⟨#[73, 83, 79, 54, 52, 54, 45, 85, 83]⟩, ⟨#[65, 78, 83, 73, 95, 88, 51, 46, 52, 45, 49, 57, 54, 56]⟩, ⟨#[54, 52, 54]⟩] := by decide +kernel
theorem ali_2 : aliL 2 = [⟨#[85, 84, 70, 45, 56]⟩, ⟨#[85, 84, 70, 56]⟩] := by decide +kernel
theorem ali_3 : aliL 3 = [⟨#[85, 84, 70, 45, 49, 54, 66, 69]⟩] := by decide +kernel
theorem ali_4 : aliL 4 = [⟨#[85, 84, 70, 45, 49, 54, 76, 69]⟩] := by decide +kernel
theorem ali_5 : aliL 5 = [⟨#[85, 84, 70, 45, 49, 54]⟩] := by decide +kernel
theorem ali_6 : aliL 6 = [⟨#[85, 84, 70, 45, 51, 50, 66, 69]⟩, ⟨#[85, 67, 83, 45, 52, 66, 69]⟩] := by decide +kernel
theorem ali_7 : aliL 7 = [⟨#[85, 84, 70, 45, 51, 50, 76, 69]⟩, ⟨#[85, 67, 83, 45, 52, 76, 69]⟩] := by decide +kernel
theorem ali_8 : aliL 8 = [⟨#[85, 84, 70, 45, 51, 50]⟩, ⟨#[85, 67, 83, 45, 52]⟩] := by decide +kernel
theorem ali_9 : aliL 9 = [⟨#[85, 67, 83, 45, 50, 66, 69]⟩, ⟨#[85, 78, 73, 67, 79, 68, 69, 66, 73, 71]⟩] := by decide +kernel
theorem ali_10 : aliL 10 = [⟨#[85, 67, 83, 45, 50, 76, 69]⟩, ⟨#[85, 78, 73, 67, 79, 68, 69, 76, 73, 84, 84, 76, 69]⟩] := by decide +kernel
theorem ali_11 : aliL 11 = [⟨#[85, 84, 70, 45, 55]⟩, ⟨#[85, 78, 73, 67, 79, 68, 69, 45, 49, 45, 49, 45, 85, 84, 70, 45, 55]⟩] := by decide +kernel
theorem ali_21 : aliL 21 = [⟨#[73, 83, 79, 45, 56, 56, 53, 57, 45, 49]⟩, ⟨#[73, 83, 79, 56, 56, 53, 57, 45, 49]⟩, ⟨#[76, 65, 84, 73, 78, 49]⟩] := by decide +kernel
theorem ali_22 : aliL 22 = [⟨#[73, 83, 79, 45, 56, 56, 53, 57, 45, 50]⟩, ⟨#[73, 83, 79, 56, 56, 53, 57, 45, 50]⟩, ⟨#[76, 65, 84, 73, 78, 50]⟩] := by decide +kernel
theorem ali_23 : aliL 23 = [⟨#[73, 83, 79, 45, 56, 56, 53, 57, 45, 51]⟩, ⟨#[73, 83, 79, 56, 56, 53, 57, 45, 51]⟩, ⟨#[76, 65, 84, 73, 78, 51]⟩] := by decide +kernel
theorem ali_24 : aliL 24 = [⟨#[73, 83, 79, 45, 56, 56, 53, 57, 45, 52]⟩, ⟨#[73, 83, 79, 56, 56, 53, 57, 45, 52]⟩, ⟨#[76, 65, 84, 73, 78, 52]⟩] := by decide +kernel
theorem ali_25 : aliL 25 = [⟨#[73, 83, 79, 45, 56, 56, 53, 57, 45, 53]⟩, ⟨#[73, 83, 79, 56, 56, 53, 57, 45, 53]⟩, ⟨#[67, 89, 82, 73, 76, 76, 73, 67]⟩] := by decide +kernel
theorem ali_26 : aliL 26 = [⟨#[73, 83, 79, 45, 56, 56, 53, 57, 45, 54]⟩, ⟨#[73, 83, 79, 56, 56, 53, 57, 45, 54]⟩, ⟨#[65, 82, 65, 66, 73, 67]⟩] := by decide +kernel
theorem ali_27 : aliL 27 = [⟨#[73, 83, 79, 45, 56, 56, 53, 57, 45, 55]⟩, ⟨#[73, 83, 79, 56, 56, 53, 57, 45, 55]⟩, ⟨#[71, 82, 69, 69, 75]⟩] := by decide +kernel
theorem ali_28 : aliL 28 = [⟨#[73, 83, 79, 45, 56, 56, 53, 57, 45, 56]⟩, ⟨#[73, 83, 79, 56, 56, 53, 57, 45, 56]⟩, ⟨#[72, 69, 66, 82, 69, 87]⟩] := by decide +kernel
theorem ali_29 : aliL 29 = [⟨#[73, 83, 79, 45, 56, 56, 53, 57, 45, 57]⟩, ⟨#[73, 83, 79, 56, 56, 53, 57, 45, 57]⟩, ⟨#[76, 65, 84, 73, 78, 53]⟩] := by decide +kernel
theorem ali_30 : aliL 30 = [⟨#[73, 83, 79, 45, 56, 56, 53, 57, 45, 49, 48]⟩, ⟨#[73, 83, 79, 56, 56, 53, 57, 45, 49, 48]⟩, ⟨#[76, 65, 84, 73, 78, 54]⟩] := by decide +kernel
theorem ali_31 : aliL 31 = [⟨#[73, 83, 79, 45, 56, 56, 53, 57, 45, 49, 49]⟩, ⟨#[73, 83, 79, 56, 56, 53, 57, 45, 49, 49]⟩, ⟨#[84, 72, 65, 73]⟩] := by decide +kernel
theorem ali_33 : aliL 33 = [⟨#[73, 83, 79, 45, 56, 56, 53, 57, 45, 49, 51]⟩, ⟨#[73, 83, 79, 56, 56, 53, 57, 45, 49, 51]⟩, ⟨#[76, 65, 84, 73, 78, 55]⟩] := by decide +kernel
theorem ali_34 : aliL 34 = [⟨#[73, 83, 79, 45, 56, 56, 53, 57, 45, 49, 52]⟩, ⟨#[73, 83, 79, 56, 56, 53, 57, 45, 49, 52]⟩, ⟨#[76, 65, 84, 73, 78, 56]⟩] := by decide +kernel
theorem ali_35 : aliL 35 = [⟨#[73, 83, 79, 45, 56, 56, 53, 57, 45, 49, 53]⟩, ⟨#[73, 83, 79, 56, 56, 53, 57, 45, 49, 53]⟩, ⟨#[76, 65, 84, 73, 78, 45, 57]⟩] := by decide +kernel
theorem ali_36 : aliL 36 = [⟨#[73, 83, 79, 45, 56, 56, 53, 57, 45, 49, 54]⟩, ⟨#[73, 83, 79, 56, 56, 53, 57, 45, 49, 54]⟩, ⟨#[76, 65, 84, 73, 78, 49, 48]⟩] := by decide +kernel
theorem ali_40 : aliL 40 = [⟨#[75, 79, 73, 56, 45, 82]⟩] := by decide +kernel
theorem ali_41 : aliL 41 = [⟨#[75, 79, 73, 56, 45, 85]⟩] := by decide +kernel
theorem ali_50 : aliL 50 = [⟨#[87, 73, 78, 68, 79, 87, 83, 45, 49, 50, 53, 48]⟩, ⟨#[67, 80, 49, 50, 53, 48]⟩] := by decide +kernel
theorem ali_51 : aliL 51 = [⟨#[87, 73, 78, 68, 79, 87, 83, 45, 49, 50, 53, 49]⟩, ⟨#[67, 80, 49, 50, 53, 49]⟩] := by decide +kernel
theorem ali_52 : aliL 52 = [⟨#[87, 73, 78, 68, 79, 87, 83, 45, 49, 50, 53, 50]⟩, ⟨#[67, 80, 49, 50, 53, 50]⟩] := by decide +kernel
theorem ali_53 : aliL 53 = [⟨#[87, 73, 78, 68, 79, 87, 83, 45, 49, 50, 53, 51]⟩, ⟨#[67, 80, 49, 50, 53, 51]⟩] := by decide +kernel
theorem ali_54 : aliL 54 = [⟨#[87, 73, 78, 68, 79, 87, 83, 45, 49, 50, 53, 52]⟩, ⟨#[67, 80, 49, 50, 53, 52]⟩] := by decide +kernel
theorem ali_55 : aliL 55 = [⟨#[87, 73, 78, 68, 79, 87, 83, 45, 49, 50, 53, 53]⟩, ⟨#[67, 80, 49, 50, 53, 53]⟩] := by decide +kernel
theorem ali_56 : aliL 56 = [⟨#[87, 73, 78, 68, 79, 87, 83, 45, 49, 50, 53, 54]⟩, ⟨#[67, 80, 49, 50, 53, 54]⟩] := by decide +kernel
theorem ali_57 : aliL 57 = [⟨#[87, 73, 78, 68, 79, 87, 83, 45, 49, 50, 53, 55]⟩, ⟨#[67, 80, 49, 50, 53, 55]⟩] := by decide +kernel
theorem ali_58 : aliL 58 = [⟨#[87, 73, 78, 68, 79, 87, 83, 45, 49, 50, 53, 56]⟩, ⟨#[67, 80, 49, 50, 53, 56]⟩] := by decide +kernel
theorem ali_60 : aliL 60 = [⟨#[73, 66, 77, 52, 51, 55]⟩, ⟨#[67, 80, 52, 51, 55]⟩, ⟨#[52, 51, 55]⟩] := by decide +kernel
theorem ali_61 : aliL 61 = [⟨#[73, 66, 77, 56, 53, 48]⟩, ⟨#[67, 80, 56, 53, 48]⟩, ⟨#[56, 53, 48]⟩] := by decide +kernel
theorem ali_62 : aliL 62 = [⟨#[73, 66, 77, 56, 53, 50]⟩, ⟨#[67, 80, 56, 53, 50]⟩, ⟨#[56, 53, 50]⟩] := by decide +kernel
theorem ali_63 : aliL 63 = [⟨#[73, 66, 77, 56, 53, 53]⟩, ⟨#[67, 80, 56, 53, 53]⟩, ⟨#[56, 53, 53]⟩] := by decide +kernel
theorem ali_64 : aliL 64 = [⟨#[73, 66, 77, 56, 54, 54]⟩, ⟨#[67, 80, 56, 54, 54]⟩, ⟨#[56, 54, 54]⟩] := by decide +kernel
theorem ali_65 : aliL 65 = [⟨#[77, 65, 67, 73, 78, 84, 79, 83, 72]⟩, ⟨#[77, 65, 67, 82, 79, 77, 65, 78]⟩, ⟨#[77, 65, 67]⟩] := by decide +kernel
theorem ali_66 : aliL 66 = [⟨#[77, 65, 67, 67, 89, 82, 73, 76, 76, 73, 67]⟩] := by decide +kernel
theorem ali_70 : aliL 70 = [⟨#[73, 66, 77, 48, 51, 55]⟩, ⟨#[67, 80, 48, 51, 55]⟩, ⟨#[69, 66, 67, 68, 73, 67, 45, 67, 80, 45, 85, 83]⟩] := by decide +kernel
theorem ali_71 : aliL 71 = [⟨#[73, 66, 77, 53, 48, 48]⟩, ⟨#[67, 80, 53, 48, 48]⟩, ⟨#[69, 66, 67, 68, 73, 67, 45, 67, 80, 45, 66, 69]⟩] := by decide +kernel
theorem ali_72 : aliL 72 = [⟨#[73, 66, 77, 49, 48, 50, 54]⟩, ⟨#[67, 80, 49, 48, 50, 54]⟩] := by decide +kernel
theorem ali_80 : aliL 80 = [⟨#[74, 73, 83, 95, 88, 48, 50, 48, 49]⟩, ⟨#[74, 73, 83, 88, 48, 50, 48, 49, 45, 49, 57, 55, 54]⟩, ⟨#[88, 48, 50, 48, 49]⟩] := by decide +kernel
theorem ali_81 : aliL 81 = [⟨#[69, 85, 67, 45, 74, 80]⟩, ⟨#[69, 85, 67, 74, 80]⟩] := by decide +kernel
theorem ali_82 : aliL 82 = [⟨#[83, 72, 73, 70, 84, 95, 74, 73, 83]⟩, ⟨#[83, 72, 73, 70, 84, 45, 74, 73, 83]⟩, ⟨#[83, 74, 73, 83]⟩, ⟨#[77, 83, 95, 75, 65, 78, 74, 73]⟩] := by decide +kernel
theorem ali_83 : aliL 83 = [⟨#[73, 83, 79, 45, 50, 48, 50, 50, 45, 74, 80]⟩] := by decide +kernel
theorem ali_84 : aliL 84 = [⟨#[69, 85, 67, 45, 67, 78]⟩, ⟨#[69, 85, 67, 67, 78]⟩, ⟨#[71, 66, 50, 51, 49, 50]⟩, ⟨#[67, 78, 45, 71, 66]⟩] := by decide +kernel
theorem ali_85 : aliL 85 = [⟨#[72, 90]⟩, ⟨#[72, 90, 45, 71, 66, 45, 50, 51, 49, 50]⟩] := by decide +kernel
theorem ali_86 : aliL 86 = [⟨#[69, 85, 67, 45, 75, 82]⟩, ⟨#[69, 85, 67, 75, 82]⟩] := by decide +kernel
theorem ali_87 : aliL 87 = [⟨#[74, 79, 72, 65, 66]⟩, ⟨#[67, 80, 49, 51, 54, 49]⟩] := by decide +kernel
theorem ali_88 : aliL 88 = [⟨#[73, 83, 79, 45, 50, 48, 50, 50, 45, 75, 82]⟩] := by decide +kernel
theorem nameT_keys : nameT.map (·.1) = [1, 2, 3, 4, 5, 6, 7, 8, 9, 10, 11, 21, 22, 23, 24, 25, 26, 27, 28, 29, 30, 31, 33, 34, 35, 36, 40, 41, 50, 51, 52, 53, 54, 55, 56, 57, 58, 60, 61, 62, 63, 64, 65, 66, 70, 71, 72, 80, 81, 82, 83, 84, 85, 86, 87, 88] := by decide +kernel
theorem nameT_key {t : Int × ByteArray} (h : t ∈ nameT) : t.1 ∈ ([1, 2, 3, 4, 5, 6, 7, 8, 9, 10, 11, 21, 22, 23, 24, 25, 26, 27, 28, 29, 30, 31, 33, 34, 35, 36, 40, 41, 50, 51, 52, 53, 54, 55, 56, 57, 58, 60, 61, 62, 63, 64, 65, 66, 70, 71, 72, 80, 81, 82, 83, 84, 85, 86, 87, 88] : List Int) := by rw [← nameT_keys]; exact List.mem_map.2 ⟨t, h, rfl⟩
theorem asian_70 (w : World) : Calls Tryd.prog 31 #[.int .i64 70] w (AliPost 70 w) := by
  have h := ali_new 70 _ ali_70 (by simp) w
  have H := Lib.hid h
  clear h
  go_enter Tryd.func31, Tryd.ntmps31
  go_wp2
  go_ret
  exact H.out _ rfl
theorem asian_71 (w : World) : Calls Tryd.prog 31 #[.int .i64 71] w (AliPost 71 w) := by
  have h := ali_new 71 _ ali_71 (by simp) w
  have H := Lib.hid h
  clear h
  go_enter Tryd.func31, Tryd.ntmps31
  go_wp2
  go_ret
  exact H.out _ rfl
theorem asian_72 (w : World) : Calls Tryd.prog 31 #[.int .i64 72] w (AliPost 72 w) := by
  have h := ali_new 72 _ ali_72 (by simp) w
  have H := Lib.hid h
  clear h
  go_enter Tryd.func31, Tryd.ntmps31
  go_wp2
  go_ret
  exact H.out _ rfl
theorem asian_80 (w : World) : Calls Tryd.prog 31 #[.int .i64 80] w (AliPost 80 w) := by
  have h := ali_new 80 _ ali_80 (by simp) w
  have H := Lib.hid h
  clear h
  go_enter Tryd.func31, Tryd.ntmps31
  go_wp2
  go_ret
  exact H.out _ rfl
theorem asian_81 (w : World) : Calls Tryd.prog 31 #[.int .i64 81] w (AliPost 81 w) := by
  have h := ali_new 81 _ ali_81 (by simp) w
  have H := Lib.hid h
  clear h
  go_enter Tryd.func31, Tryd.ntmps31
  go_wp2
  go_ret
  exact H.out _ rfl
theorem asian_82 (w : World) : Calls Tryd.prog 31 #[.int .i64 82] w (AliPost 82 w) := by
  have h := ali_new 82 _ ali_82 (by simp) w
  have H := Lib.hid h
  clear h
  go_enter Tryd.func31, Tryd.ntmps31
  go_wp2
  go_ret
  exact H.out _ rfl
theorem asian_83 (w : World) : Calls Tryd.prog 31 #[.int .i64 83] w (AliPost 83 w) := by
  have h := ali_new 83 _ ali_83 (by simp) w
  have H := Lib.hid h
  clear h
  go_enter Tryd.func31, Tryd.ntmps31
  go_wp2
  go_ret
  exact H.out _ rfl
theorem asian_84 (w : World) : Calls Tryd.prog 31 #[.int .i64 84] w (AliPost 84 w) := by
  have h := ali_new 84 _ ali_84 (by simp) w
  have H := Lib.hid h
  clear h
  go_enter Tryd.func31, Tryd.ntmps31
  go_wp2
  go_ret
  exact H.out _ rfl
theorem asian_85 (w : World) : Calls Tryd.prog 31 #[.int .i64 85] w (AliPost 85 w) := by
  have h := ali_new 85 _ ali_85 (by simp) w
  have H := Lib.hid h
  clear h
  go_enter Tryd.func31, Tryd.ntmps31
  go_wp2
  go_ret
  exact H.out _ rfl
theorem asian_86 (w : World) : Calls Tryd.prog 31 #[.int .i64 86] w (AliPost 86 w) := by
  have h := ali_new 86 _ ali_86 (by simp) w
  have H := Lib.hid h
  clear h
  go_enter Tryd.func31, Tryd.ntmps31
  go_wp2
  go_ret
  exact H.out _ rfl
theorem asian_87 (w : World) : Calls Tryd.prog 31 #[.int .i64 87] w (AliPost 87 w) := by
  have h := ali_new 87 _ ali_87 (by simp) w
  have H := Lib.hid h
  clear h
  go_enter Tryd.func31, Tryd.ntmps31
  go_wp2
  go_ret
  exact H.out _ rfl
theorem asian_88 (w : World) : Calls Tryd.prog 31 #[.int .i64 88] w (AliPost 88 w) := by
  have h := ali_new 88 _ ali_88 (by simp) w
  have H := Lib.hid h
  clear h
  go_enter Tryd.func31, Tryd.ntmps31
  go_wp2
  go_ret
  exact H.out _ rfl
theorem others_1 (w : World) : Calls Tryd.prog 26 #[.int .i64 1] w (AliPost 1 w) := by
  have h := ali_new 1 _ ali_1 (by simp) w
  have H := Lib.hid h
  clear h
  go_enter Tryd.func26, Tryd.ntmps26
  go_wp2
  go_ret
  exact H.out _ rfl
theorem others_2 (w : World) : Calls Tryd.prog 26 #[.int .i64 2] w (AliPost 2 w) := by
  have h := ali_new 2 _ ali_2 (by simp) w
  have H := Lib.hid h
  clear h
  go_enter Tryd.func26, Tryd.ntmps26
  go_wp2
  go_ret
  exact H.out _ rfl
theorem others_3 (w : World) : Calls Tryd.prog 26 #[.int .i64 3] w (AliPost 3 w) := by
  have h := ali_new 3 _ ali_3 (by simp) w
  have H := Lib.hid h
  clear h
  go_enter Tryd.func26, Tryd.ntmps26
  go_wp2
  go_ret
  exact H.out _ rfl
theorem others_4 (w : World) : Calls Tryd.prog 26 #[.int .i64 4] w (AliPost 4 w) := by
  have h := ali_new 4 _ ali_4 (by simp) w
  have H := Lib.hid h
  clear h
  go_enter Tryd.func26, Tryd.ntmps26
  go_wp2
  go_ret
  exact H.out _ rfl
theorem others_5 (w : World) : Calls Tryd.prog 26 #[.int .i64 5] w (AliPost 5 w) := by
  have h := ali_new 5 _ ali_5 (by simp) w
  have H := Lib.hid h
  clear h
  go_enter Tryd.func26, Tryd.ntmps26
  go_wp2
  go_ret
  exact H.out _ rfl
theorem others_6 (w : World) : Calls Tryd.prog 26 #[.int .i64 6] w (AliPost 6 w) := by
  have h := ali_new 6 _ ali_6 (by simp) w
  have H := Lib.hid h
  clear h
  go_enter Tryd.func26, Tryd.ntmps26
  go_wp2
  go_ret
  exact H.out _ rfl
theorem others_7 (w : World) : Calls Tryd.prog 26 #[.int .i64 7] w (AliPost 7 w) := by
  have h := ali_new 7 _ ali_7 (by simp) w
  have H := Lib.hid h
  clear h
  go_enter Tryd.func26, Tryd.ntmps26
  go_wp2
  go_ret
  exact H.out _ rfl
theorem others_8 (w : World) : Calls Tryd.prog 26 #[.int .i64 8] w (AliPost 8 w) := by
  have h := ali_new 8 _ ali_8 (by simp) w
  have H := Lib.hid h
  clear h
  go_enter Tryd.func26, Tryd.ntmps26
  go_wp2
  go_ret
  exact H.out _ rfl
theorem others_9 (w : World) : Calls Tryd.prog 26 #[.int .i64 9] w (AliPost 9 w) := by
  have h := ali_new 9 _ ali_9 (by simp) w
  have H := Lib.hid h
  clear h
  go_enter Tryd.func26, Tryd.ntmps26
  go_wp2
  go_ret
  exact H.out _ rfl
theorem others_10 (w : World) : Calls Tryd.prog 26 #[.int .i64 10] w (AliPost 10 w) := by
  have h := ali_new 10 _ ali_10 (by simp) w
  have H := Lib.hid h
  clear h
  go_enter Tryd.func26, Tryd.ntmps26
  go_wp2
  go_ret
  exact H.out _ rfl
theorem others_11 (w : World) : Calls Tryd.prog 26 #[.int .i64 11] w (AliPost 11 w) := by
  have h := ali_new 11 _ ali_11 (by simp) w
  have H := Lib.hid h
  clear h
  go_enter Tryd.func26, Tryd.ntmps26
  go_wp2
  go_ret
  exact H.out _ rfl
theorem others_50 (w : World) : Calls Tryd.prog 26 #[.int .i64 50] w (AliPost 50 w) := by
  have h := ali_new 50 _ ali_50 (by simp) w
  have H := Lib.hid h
  clear h
  go_enter Tryd.func26, Tryd.ntmps26
  go_wp2
  go_ret
  exact H.out _ rfl
theorem others_51 (w : World) : Calls Tryd.prog 26 #[.int .i64 51] w (AliPost 51 w) := by
  have h := ali_new 51 _ ali_51 (by simp) w
  have H := Lib.hid h
  clear h
  go_enter Tryd.func26, Tryd.ntmps26
  go_wp2
  go_ret
  exact H.out _ rfl
theorem others_52 (w : World) : Calls Tryd.prog 26 #[.int .i64 52] w (AliPost 52 w) := by
  have h := ali_new 52 _ ali_52 (by simp) w
  have H := Lib.hid h
  clear h
  go_enter Tryd.func26, Tryd.ntmps26
  go_wp2
  go_ret
  exact H.out _ rfl
theorem others_53 (w : World) : Calls Tryd.prog 26 #[.int .i64 53] w (AliPost 53 w) := by
  have h := ali_new 53 _ ali_53 (by simp) w
  have H := Lib.hid h
  clear h
  go_enter Tryd.func26, Tryd.ntmps26
  go_wp2
  go_ret
  exact H.out _ rfl
theorem others_54 (w : World) : Calls Tryd.prog 26 #[.int .i64 54] w (AliPost 54 w) := by
  have h := ali_new 54 _ ali_54 (by simp) w
  have H := Lib.hid h
  clear h
  go_enter Tryd.func26, Tryd.ntmps26
  go_wp2
  go_ret
  exact H.out _ rfl
theorem others_55 (w : World) : Calls Tryd.prog 26 #[.int .i64 55] w (AliPost 55 w) := by
  have h := ali_new 55 _ ali_55 (by simp) w
  have H := Lib.hid h
  clear h
  go_enter Tryd.func26, Tryd.ntmps26
  go_wp2
  go_ret
  exact H.out _ rfl
theorem others_56 (w : World) : Calls Tryd.prog 26 #[.int .i64 56] w (AliPost 56 w) := by
  have h := ali_new 56 _ ali_56 (by simp) w
  have H := Lib.hid h
  clear h
  go_enter Tryd.func26, Tryd.ntmps26
  go_wp2
  go_ret
  exact H.out _ rfl
theorem others_57 (w : World) : Calls Tryd.prog 26 #[.int .i64 57] w (AliPost 57 w) := by
  have h := ali_new 57 _ ali_57 (by simp) w
  have H := Lib.hid h
  clear h
  go_enter Tryd.func26, Tryd.ntmps26
  go_wp2
  go_ret
  exact H.out _ rfl
theorem others_58 (w : World) : Calls Tryd.prog 26 #[.int .i64 58] w (AliPost 58 w) := by
  have h := ali_new 58 _ ali_58 (by simp) w
  have H := Lib.hid h
  clear h
  go_enter Tryd.func26, Tryd.ntmps26
  go_wp2
  go_ret
  exact H.out _ rfl
theorem others_60 (w : World) : Calls Tryd.prog 26 #[.int .i64 60] w (AliPost 60 w) := by
  have h := ali_new 60 _ ali_60 (by simp) w
  have H := Lib.hid h
  clear h
  go_enter Tryd.func26, Tryd.ntmps26
  go_wp2
  go_ret
  exact H.out _ rfl
theorem others_61 (w : World) : Calls Tryd.prog 26 #[.int .i64 61] w (AliPost 61 w) := by
  have h := ali_new 61 _ ali_61 (by simp) w
  have H := Lib.hid h
  clear h
  go_enter Tryd.func26, Tryd.ntmps26
  go_wp2
  go_ret
  exact H.out _ rfl
theorem others_62 (w : World) : Calls Tryd.prog 26 #[.int .i64 62] w (AliPost 62 w) := by
  have h := ali_new 62 _ ali_62 (by simp) w
  have H := Lib.hid h
  clear h
  go_enter Tryd.func26, Tryd.ntmps26
  go_wp2
  go_ret
  exact H.out _ rfl
theorem others_63 (w : World) : Calls Tryd.prog 26 #[.int .i64 63] w (AliPost 63 w) := by
  have h := ali_new 63 _ ali_63 (by simp) w
  have H := Lib.hid h
  clear h
  go_enter Tryd.func26, Tryd.ntmps26
  go_wp2
  go_ret
  exact H.out _ rfl
theorem others_64 (w : World) : Calls Tryd.prog 26 #[.int .i64 64] w (AliPost 64 w) := by
  have h := ali_new 64 _ ali_64 (by simp) w
  have H := Lib.hid h
  clear h
  go_enter Tryd.func26, Tryd.ntmps26
  go_wp2
  go_ret
  exact H.out _ rfl
theorem others_65 (w : World) : Calls Tryd.prog 26 #[.int .i64 65] w (AliPost 65 w) := by
  have h := ali_new 65 _ ali_65 (by simp) w
  have H := Lib.hid h
  clear h
  go_enter Tryd.func26, Tryd.ntmps26
  go_wp2
  go_ret
  exact H.out _ rfl
theorem others_66 (w : World) : Calls Tryd.prog 26 #[.int .i64 66] w (AliPost 66 w) := by
  have h := ali_new 66 _ ali_66 (by simp) w
  have H := Lib.hid h
  clear h
  go_enter Tryd.func26, Tryd.ntmps26
  go_wp2
  go_ret
  exact H.out _ rfl
theorem rali_21 (w : World) : Calls Tryd.prog 15 #[.int .i64 21] w (AliPost 21 w) := by
  have h := ali_new 21 _ ali_21 (by simp) w
  have H := Lib.hid h
  clear h
  go_enter Tryd.func15, Tryd.ntmps15
  go_wp2
  go_ret
  exact H.out _ rfl
theorem rali_22 (w : World) : Calls Tryd.prog 15 #[.int .i64 22] w (AliPost 22 w) := by
  have h := ali_new 22 _ ali_22 (by simp) w
  have H := Lib.hid h
  clear h
  go_enter Tryd.func15, Tryd.ntmps15
  go_wp2
  go_ret
  exact H.out _ rfl
theorem rali_23 (w : World) : Calls Tryd.prog 15 #[.int .i64 23] w (AliPost 23 w) := by
  have h := ali_new 23 _ ali_23 (by simp) w
  have H := Lib.hid h
  clear h
  go_enter Tryd.func15, Tryd.ntmps15
  go_wp2
  go_ret
  exact H.out _ rfl
theorem rali_24 (w : World) : Calls Tryd.prog 15 #[.int .i64 24] w (AliPost 24 w) := by
  have h := ali_new 24 _ ali_24 (by simp) w
  have H := Lib.hid h
  clear h
  go_enter Tryd.func15, Tryd.ntmps15
  go_wp2
  go_ret
  exact H.out _ rfl
theorem rali_25 (w : World) : Calls Tryd.prog 15 #[.int .i64 25] w (AliPost 25 w) := by
  have h := ali_new 25 _ ali_25 (by simp) w
  have H := Lib.hid h
  clear h
  go_enter Tryd.func15, Tryd.ntmps15
  go_wp2
  go_ret
  exact H.out _ rfl
theorem rali_26 (w : World) : Calls Tryd.prog 15 #[.int .i64 26] w (AliPost 26 w) := by
  have h := ali_new 26 _ ali_26 (by simp) w
  have H := Lib.hid h
  clear h
  go_enter Tryd.func15, Tryd.ntmps15
  go_wp2
  go_ret
  exact H.out _ rfl
theorem rali_27 (w : World) : Calls Tryd.prog 15 #[.int .i64 27] w (AliPost 27 w) := by
  have h := ali_new 27 _ ali_27 (by simp) w
  have H := Lib.hid h
  clear h
  go_enter Tryd.func15, Tryd.ntmps15
  go_wp2
  go_ret
  exact H.out _ rfl
theorem rali_28 (w : World) : Calls Tryd.prog 15 #[.int .i64 28] w (AliPost 28 w) := by
  have h := ali_new 28 _ ali_28 (by simp) w
  have H := Lib.hid h
  clear h
  go_enter Tryd.func15, Tryd.ntmps15
  go_wp2
  go_ret
  exact H.out _ rfl
theorem rali_29 (w : World) : Calls Tryd.prog 15 #[.int .i64 29] w (AliPost 29 w) := by
  have h := ali_new 29 _ ali_29 (by simp) w
  have H := Lib.hid h
  clear h
  go_enter Tryd.func15, Tryd.ntmps15
  go_wp2
  go_ret
  exact H.out _ rfl
theorem rali_30 (w : World) : Calls Tryd.prog 15 #[.int .i64 30] w (AliPost 30 w) := by
  have h := ali_new 30 _ ali_30 (by simp) w
  have H := Lib.hid h
  clear h
  go_enter Tryd.func15, Tryd.ntmps15
  go_wp2
  go_ret
  exact H.out _ rfl
theorem rali_31 (w : World) : Calls Tryd.prog 15 #[.int .i64 31] w (AliPost 31 w) := by
  have h := ali_new 31 _ ali_31 (by simp) w
  have H := Lib.hid h
  clear h
  go_enter Tryd.func15, Tryd.ntmps15
  go_wp2
  go_ret
  exact H.out _ rfl
theorem rali_33 (w : World) : Calls Tryd.prog 15 #[.int .i64 33] w (AliPost 33 w) := by
  have h := ali_new 33 _ ali_33 (by simp) w
  have H := Lib.hid h
  clear h
  go_enter Tryd.func15, Tryd.ntmps15
  go_wp2
  go_ret
  exact H.out _ rfl
theorem rali_34 (w : World) : Calls Tryd.prog 15 #[.int .i64 34] w (AliPost 34 w) := by
  have h := ali_new 34 _ ali_34 (by simp) w
  have H := Lib.hid h
  clear h
  go_enter Tryd.func15, Tryd.ntmps15
  go_wp2
  go_ret
  exact H.out _ rfl
theorem rali_35 (w : World) : Calls Tryd.prog 15 #[.int .i64 35] w (AliPost 35 w) := by
  have h := ali_new 35 _ ali_35 (by simp) w
  have H := Lib.hid h
  clear h
  go_enter Tryd.func15, Tryd.ntmps15
  go_wp2
  go_ret
  exact H.out _ rfl
theorem rali_36 (w : World) : Calls Tryd.prog 15 #[.int .i64 36] w (AliPost 36 w) := by
  have h := ali_new 36 _ ali_36 (by simp) w
  have H := Lib.hid h
  clear h
  go_enter Tryd.func15, Tryd.ntmps15
  go_wp2
  go_ret
  exact H.out _ rfl
theorem rali_40 (w : World) : Calls Tryd.prog 15 #[.int .i64 40] w (AliPost 40 w) := by
  have h := ali_new 40 _ ali_40 (by simp) w
  have H := Lib.hid h
  clear h
  go_enter Tryd.func15, Tryd.ntmps15
  go_wp2
  go_ret
  exact H.out _ rfl
theorem rali_41 (w : World) : Calls Tryd.prog 15 #[.int .i64 41] w (AliPost 41 w) := by
  have h := ali_new 41 _ ali_41 (by simp) w
  have H := Lib.hid h
  clear h
  go_enter Tryd.func15, Tryd.ntmps15
  go_wp2
  go_ret
  exact H.out _ rfl
end Go.Proofs.YtkbkkdeaegidjaaDoor
