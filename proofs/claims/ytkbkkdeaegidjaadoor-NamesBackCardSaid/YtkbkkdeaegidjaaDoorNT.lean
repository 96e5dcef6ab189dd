/- The walk of NamesLooks. -/
import Derived.Test.YtkbkkdeaegidjaaDoorNS
namespace Go.Proofs.YtkbkkdeaegidjaaDoor
open Go.RowKit
theorem found_parts (s : ByteArray) : (∃ k, foundV s = twoV k 0 ∧ findI s = k ∧ k ≠ 0) ∨ (foundV s = twoV 0 20 ∧ findI s = 0) := by
  unfold foundV findI
  cases h : findE s with
  | none => exact .inr ⟨rfl, rfl⟩
  | some t =>
    refine .inl ⟨t.1, rfl, rfl, ?_⟩
    have hm := List.mem_of_find?_eq_some h
    have hall := List.all_eq_true.1 ali_ents _ hm
    simp only [Bool.and_eq_true, decide_eq_true_eq] at hall
    exact hall.1.2
set_option maxRecDepth 100000 in
set_option maxHeartbeats 3200000 in
theorem looks_a (s : ByteArray) (hs : s.size ≤ 140737488351232) (n : Int) (b : Bool) (f : Nat) (k : Int) (h1 : foundV s = twoV k 0) (h2 : findI s = k) (hk : k ≠ 0) (h3 : (nameL n).size ≠ 0) (w : World) (hw : MaxAt w) : Calls Tryd.prog 5 #[.string s, .int .i64 n, .bool b, (.float .f64 f)] w fun e w' => e = .returned (.bool true) ∧ Below w.heap.size w w' := by
  have HF := Lib.hid (fun w => by have := find_calls s hs w; rwa [h2] at this)
  have HL := Lib.hid (fun w => by have := lookup_str s hs w; rwa [h1] at this)
  have HI := Lib.hid (fun w hw => by have := lookup_int n w hw; rwa [if_neg h3] at this)
  have HM := Lib.hid (rname_calls n)
  have HW := Lib.hid hw
  have X1 := Lib.hid (lookup_no (.iface 4 (.bool b)) (as4_9 _) (as4_3 _))
  have X2 := Lib.hid (lookup_no (.iface 42 (.float .f64 f)) (as42_9 _) (as42_3 _))
  have X3 := Lib.hid (lookup_no .nilIface asn_9 asn_3)
  have X4 := Lib.hid (lookup_no (.iface 2 (.int .i64 n)) (as2_9 _) (as2_3 _))
  obtain ⟨t, ht⟩ : ∃ t, nameL n = t := ⟨_, rfl⟩
  rw [ht] at HM h3
  have hne : (!t.toList.isEmpty) = true := by rw [empty_size]; simp [h3]
  have hne2 : t.toList.isEmpty = false := by rw [empty_size]; simp [h3]
  have hk1 : (k == 0) = false := beq_eq_false_iff_ne.2 hk
  have hk2 : (k != 0) = true := by simp [hk]
  unfold twoV at HL HI X1 X2 X3 X4
  clear hw ht h1 h2 h3
  go_enter Tryd.func5, Tryd.ntmps5
  go_wp2_with fail
  refine (HF.out _).mono ?_
  rintro e w1 ⟨rfl, hb⟩
  have B1 := Lib.hid hb
  clear hb
  go_wp2_with fail
  refine (HL.out _).mono ?_
  rintro e w2 ⟨rfl, hb⟩
  have B2 := Lib.hid (below_then B1.out B1.out.size hb)
  clear hb
  go_wp2_with fail
  refine (HI.out _ (HW.out.below B2.out)).mono ?_
  rintro e w3 ⟨rfl, hb⟩
  have B3 := Lib.hid (below_then B2.out B2.out.size hb)
  clear hb
  go_wp2_with fail
  refine (HM.out _).mono ?_
  rintro e w4 ⟨rfl, hb⟩
  have B4 := Lib.hid (below_then B3.out B3.out.size hb)
  clear hb
  go_wp2_with fail
  refine (X1.out _).mono ?_
  rintro e w5 ⟨rfl, hb⟩
  have B5 := Lib.hid (below_then B4.out B4.out.size hb)
  clear hb
  go_wp2_with fail
  refine (X2.out _).mono ?_
  rintro e w6 ⟨rfl, hb⟩
  have B6 := Lib.hid (below_then B5.out B5.out.size hb)
  clear hb
  go_wp2_with fail
  refine (X3.out _).mono ?_
  rintro e w7 ⟨rfl, hb⟩
  have B7 := Lib.hid (below_then B6.out B6.out.size hb)
  clear hb
  go_wp2_with fail
  refine (X4.out _).mono ?_
  rintro e w8 ⟨rfl, hb⟩
  have B8 := Lib.hid (below_then B7.out B7.out.size hb)
  clear hb
  go_wp2_with fail
  go_ret
  exact ⟨rfl, B8.out⟩
set_option maxRecDepth 100000 in
set_option maxHeartbeats 3200000 in
theorem looks_b (s : ByteArray) (hs : s.size ≤ 140737488351232) (n : Int) (b : Bool) (f : Nat) (k : Int) (h1 : foundV s = twoV k 0) (h2 : findI s = k) (hk : k ≠ 0) (h3 : (nameL n).size = 0) (w : World) (hw : MaxAt w) : Calls Tryd.prog 5 #[.string s, .int .i64 n, .bool b, (.float .f64 f)] w fun e w' => e = .returned (.bool true) ∧ Below w.heap.size w w' := by
  have HF := Lib.hid (fun w => by have := find_calls s hs w; rwa [h2] at this)
  have HL := Lib.hid (fun w => by have := lookup_str s hs w; rwa [h1] at this)
  have HI := Lib.hid (fun w hw => by have := lookup_int n w hw; rwa [if_pos h3] at this)
  have HM := Lib.hid (rname_calls n)
  have HW := Lib.hid hw
  have X1 := Lib.hid (lookup_no (.iface 4 (.bool b)) (as4_9 _) (as4_3 _))
  have X2 := Lib.hid (lookup_no (.iface 42 (.float .f64 f)) (as42_9 _) (as42_3 _))
  have X3 := Lib.hid (lookup_no .nilIface asn_9 asn_3)
  have X4 := Lib.hid (lookup_no (.iface 2 (.int .i64 n)) (as2_9 _) (as2_3 _))
  obtain ⟨t, ht⟩ : ∃ t, nameL n = t := ⟨_, rfl⟩
  rw [ht] at HM h3
  have hne : (!t.toList.isEmpty) = false := by rw [empty_size]; simp [h3]
  have hne2 : t.toList.isEmpty = true := by rw [empty_size]; simp [h3]
  have hk1 : (k == 0) = false := beq_eq_false_iff_ne.2 hk
  have hk2 : (k != 0) = true := by simp [hk]
  unfold twoV at HL HI X1 X2 X3 X4
  clear hw ht h1 h2 h3
  go_enter Tryd.func5, Tryd.ntmps5
  go_wp2_with fail
  refine (HF.out _).mono ?_
  rintro e w1 ⟨rfl, hb⟩
  have B1 := Lib.hid hb
  clear hb
  go_wp2_with fail
  refine (HL.out _).mono ?_
  rintro e w2 ⟨rfl, hb⟩
  have B2 := Lib.hid (below_then B1.out B1.out.size hb)
  clear hb
  go_wp2_with fail
  refine (HI.out _ (HW.out.below B2.out)).mono ?_
  rintro e w3 ⟨rfl, hb⟩
  have B3 := Lib.hid (below_then B2.out B2.out.size hb)
  clear hb
  go_wp2_with fail
  refine (HM.out _).mono ?_
  rintro e w4 ⟨rfl, hb⟩
  have B4 := Lib.hid (below_then B3.out B3.out.size hb)
  clear hb
  go_wp2_with fail
  refine (X1.out _).mono ?_
  rintro e w5 ⟨rfl, hb⟩
  have B5 := Lib.hid (below_then B4.out B4.out.size hb)
  clear hb
  go_wp2_with fail
  refine (X2.out _).mono ?_
  rintro e w6 ⟨rfl, hb⟩
  have B6 := Lib.hid (below_then B5.out B5.out.size hb)
  clear hb
  go_wp2_with fail
  refine (X3.out _).mono ?_
  rintro e w7 ⟨rfl, hb⟩
  have B7 := Lib.hid (below_then B6.out B6.out.size hb)
  clear hb
  go_wp2_with fail
  refine (X4.out _).mono ?_
  rintro e w8 ⟨rfl, hb⟩
  have B8 := Lib.hid (below_then B7.out B7.out.size hb)
  clear hb
  go_wp2_with fail
  go_ret
  exact ⟨rfl, B8.out⟩
set_option maxRecDepth 100000 in
set_option maxHeartbeats 3200000 in
theorem looks_c (s : ByteArray) (hs : s.size ≤ 140737488351232) (n : Int) (b : Bool) (f : Nat) (h1 : foundV s = twoV 0 20) (h2 : findI s = 0) (h3 : (nameL n).size ≠ 0) (w : World) (hw : MaxAt w) : Calls Tryd.prog 5 #[.string s, .int .i64 n, .bool b, (.float .f64 f)] w fun e w' => e = .returned (.bool true) ∧ Below w.heap.size w w' := by
  have HF := Lib.hid (fun w => by have := find_calls s hs w; rwa [h2] at this)
  have HL := Lib.hid (fun w => by have := lookup_str s hs w; rwa [h1] at this)
  have HI := Lib.hid (fun w hw => by have := lookup_int n w hw; rwa [if_neg h3] at this)
  have HM := Lib.hid (rname_calls n)
  have HW := Lib.hid hw
  have X1 := Lib.hid (lookup_no (.iface 4 (.bool b)) (as4_9 _) (as4_3 _))
  have X2 := Lib.hid (lookup_no (.iface 42 (.float .f64 f)) (as42_9 _) (as42_3 _))
  have X3 := Lib.hid (lookup_no .nilIface asn_9 asn_3)
  have X4 := Lib.hid (lookup_no (.iface 2 (.int .i64 n)) (as2_9 _) (as2_3 _))
  obtain ⟨t, ht⟩ : ∃ t, nameL n = t := ⟨_, rfl⟩
  rw [ht] at HM h3
  have hne : (!t.toList.isEmpty) = true := by rw [empty_size]; simp [h3]
  have hne2 : t.toList.isEmpty = false := by rw [empty_size]; simp [h3]
  unfold twoV at HL HI X1 X2 X3 X4
  clear hw ht h1 h2 h3
  go_enter Tryd.func5, Tryd.ntmps5
  go_wp2_with fail
  refine (HF.out _).mono ?_
  rintro e w1 ⟨rfl, hb⟩
  have B1 := Lib.hid hb
  clear hb
  go_wp2_with fail
  refine (HL.out _).mono ?_
  rintro e w2 ⟨rfl, hb⟩
  have B2 := Lib.hid (below_then B1.out B1.out.size hb)
  clear hb
  go_wp2_with fail
  refine (HI.out _ (HW.out.below B2.out)).mono ?_
  rintro e w3 ⟨rfl, hb⟩
  have B3 := Lib.hid (below_then B2.out B2.out.size hb)
  clear hb
  go_wp2_with fail
  refine (HM.out _).mono ?_
  rintro e w4 ⟨rfl, hb⟩
  have B4 := Lib.hid (below_then B3.out B3.out.size hb)
  clear hb
  go_wp2_with fail
  refine (X1.out _).mono ?_
  rintro e w5 ⟨rfl, hb⟩
  have B5 := Lib.hid (below_then B4.out B4.out.size hb)
  clear hb
  go_wp2_with fail
  refine (X2.out _).mono ?_
  rintro e w6 ⟨rfl, hb⟩
  have B6 := Lib.hid (below_then B5.out B5.out.size hb)
  clear hb
  go_wp2_with fail
  refine (X3.out _).mono ?_
  rintro e w7 ⟨rfl, hb⟩
  have B7 := Lib.hid (below_then B6.out B6.out.size hb)
  clear hb
  go_wp2_with fail
  refine (X4.out _).mono ?_
  rintro e w8 ⟨rfl, hb⟩
  have B8 := Lib.hid (below_then B7.out B7.out.size hb)
  clear hb
  go_wp2_with fail
  go_ret
  exact ⟨rfl, B8.out⟩
set_option maxRecDepth 100000 in
set_option maxHeartbeats 3200000 in
theorem looks_d (s : ByteArray) (hs : s.size ≤ 140737488351232) (n : Int) (b : Bool) (f : Nat) (h1 : foundV s = twoV 0 20) (h2 : findI s = 0) (h3 : (nameL n).size = 0) (w : World) (hw : MaxAt w) : Calls Tryd.prog 5 #[.string s, .int .i64 n, .bool b, (.float .f64 f)] w fun e w' => e = .returned (.bool true) ∧ Below w.heap.size w w' := by
  have HF := Lib.hid (fun w => by have := find_calls s hs w; rwa [h2] at this)
  have HL := Lib.hid (fun w => by have := lookup_str s hs w; rwa [h1] at this)
  have HI := Lib.hid (fun w hw => by have := lookup_int n w hw; rwa [if_pos h3] at this)
  have HM := Lib.hid (rname_calls n)
  have HW := Lib.hid hw
  have X1 := Lib.hid (lookup_no (.iface 4 (.bool b)) (as4_9 _) (as4_3 _))
  have X2 := Lib.hid (lookup_no (.iface 42 (.float .f64 f)) (as42_9 _) (as42_3 _))
  have X3 := Lib.hid (lookup_no .nilIface asn_9 asn_3)
  have X4 := Lib.hid (lookup_no (.iface 2 (.int .i64 n)) (as2_9 _) (as2_3 _))
  obtain ⟨t, ht⟩ : ∃ t, nameL n = t := ⟨_, rfl⟩
  rw [ht] at HM h3
  have hne : (!t.toList.isEmpty) = false := by rw [empty_size]; simp [h3]
  have hne2 : t.toList.isEmpty = true := by rw [empty_size]; simp [h3]
  unfold twoV at HL HI X1 X2 X3 X4
  clear hw ht h1 h2 h3
  go_enter Tryd.func5, Tryd.ntmps5
  go_wp2_with fail
  refine (HF.out _).mono ?_
  rintro e w1 ⟨rfl, hb⟩
  have B1 := Lib.hid hb
  clear hb
  go_wp2_with fail
  refine (HL.out _).mono ?_
  rintro e w2 ⟨rfl, hb⟩
  have B2 := Lib.hid (below_then B1.out B1.out.size hb)
  clear hb
  go_wp2_with fail
  refine (HI.out _ (HW.out.below B2.out)).mono ?_
  rintro e w3 ⟨rfl, hb⟩
  have B3 := Lib.hid (below_then B2.out B2.out.size hb)
  clear hb
  go_wp2_with fail
  refine (HM.out _).mono ?_
  rintro e w4 ⟨rfl, hb⟩
  have B4 := Lib.hid (below_then B3.out B3.out.size hb)
  clear hb
  go_wp2_with fail
  refine (X1.out _).mono ?_
  rintro e w5 ⟨rfl, hb⟩
  have B5 := Lib.hid (below_then B4.out B4.out.size hb)
  clear hb
  go_wp2_with fail
  refine (X2.out _).mono ?_
  rintro e w6 ⟨rfl, hb⟩
  have B6 := Lib.hid (below_then B5.out B5.out.size hb)
  clear hb
  go_wp2_with fail
  refine (X3.out _).mono ?_
  rintro e w7 ⟨rfl, hb⟩
  have B7 := Lib.hid (below_then B6.out B6.out.size hb)
  clear hb
  go_wp2_with fail
  refine (X4.out _).mono ?_
  rintro e w8 ⟨rfl, hb⟩
  have B8 := Lib.hid (below_then B7.out B7.out.size hb)
  clear hb
  go_wp2_with fail
  go_ret
  exact ⟨rfl, B8.out⟩
theorem looks_calls (s : ByteArray) (hs : s.size ≤ 140737488351232) (n : Int) (b : Bool) (f : Nat) (w : World) (hw : MaxAt w) : Calls Tryd.prog 5 #[.string s, .int .i64 n, .bool b, (.float .f64 f)] w fun e w' => e = .returned (.bool true) ∧ Below w.heap.size w w' := by
  by_cases h3 : (nameL n).size = 0
  · rcases found_parts s with ⟨k, h1, h2, hk⟩ | ⟨h1, h2⟩
    · exact looks_b s hs n b f k h1 h2 hk h3 w hw
    · exact looks_d s hs n b f h1 h2 h3 w hw
  · rcases found_parts s with ⟨k, h1, h2, hk⟩ | ⟨h1, h2⟩
    · exact looks_a s hs n b f k h1 h2 hk h3 w hw
    · exact looks_c s hs n b f h1 h2 h3 w hw
end Go.Proofs.YtkbkkdeaegidjaaDoor
