/- Names with some letters small; a slice of truths among a row's arguments: plain laws of NamesBack. -/
import Derived.Test.YtkbkkdeaegidjaaDoorOG
import Derived.Deep.Slices
namespace Go.Proofs.YtkbkkdeaegidjaaDoor
open Go.RowKit Go.ChangeShapes Go.WideShapes
/-- A large letter as a small one, where it is asked for. -/
def lowI (x : Int) (b : Bool) : Int := if 65 ≤ x ∧ x ≤ 90 ∧ b = true then x + 32 else x
def lowN (f : Nat → Bool) : Nat → List Int → List Int
  | _, [] => []
  | j, x :: r => lowI x (f j) :: lowN f (j + 1) r
def lowL (s : ByteArray) (f : Nat → Bool) : List Int := lowN f 0 (bytesL s)
def lowB (s : ByteArray) (f : Nat → Bool) : ByteArray := strOfNums (lowL s f)
theorem lowN_len (f : Nat → Bool) : ∀ (j : Nat) (l : List Int), (lowN f j l).length = l.length
  | _, [] => rfl
  | j, x :: r => by rw [lowN, List.length_cons, List.length_cons, lowN_len f (j + 1) r]
theorem lowL_len (s : ByteArray) (f : Nat → Bool) : (lowL s f).length = s.size := by unfold lowL; rw [lowN_len, bytesL_len]
theorem lowB_size (s : ByteArray) (f : Nat → Bool) : (lowB s f).size = s.size := by unfold lowB; rw [strOfNums_size, lowL_len]
theorem lowN_get (f : Nat → Bool) : ∀ (j : Nat) (l : List Int) (i : Nat), i < l.length → (lowN f j l).getD i 0 = lowI (l.getD i 0) (f (j + i))
  | _, [], i, h => absurd h (by simp)
  | j, x :: r, 0, _ => rfl
  | j, x :: r, i + 1, h => by
    rw [lowN, List.getD_cons_succ, List.getD_cons_succ, lowN_get f (j + 1) r i (by simpa using h), show j + 1 + i = j + (i + 1) by omega]
theorem lowL_get (s : ByteArray) (f : Nat → Bool) {i : Nat} (h : i < s.size) : (lowL s f).getD i 0 = lowI ((bytesL s).getD i 0) (f i) := by
  unfold lowL
  rw [lowN_get f 0 _ i (by rw [bytesL_len]; exact h), Nat.zero_add]
theorem low_range {x : Int} (b : Bool) (h0 : 0 ≤ x) (h1 : x < 256) : 0 ≤ lowI x b ∧ lowI x b < 256 := by
  unfold lowI
  split <;> omega
theorem up_low {x : Int} (b : Bool) : upI (lowI x b) = upI x := by
  unfold lowI
  split
  · rename_i h
    unfold upI
    rw [if_pos (by omega), if_neg (by omega)]
    omega
  · rfl
theorem up_lowN (f : Nat → Bool) : ∀ (j : Nat) (l : List Int), (lowN f j l).map upI = l.map upI
  | _, [] => rfl
  | j, x :: r => by rw [lowN, List.map_cons, List.map_cons, up_low, up_lowN f (j + 1) r]
theorem bytes_of {l : List Int} (h : ∀ x ∈ l, 0 ≤ x ∧ x < 256) : bytesL (strOfNums l) = l := by
  unfold bytesL
  rw [strOfNums_data, List.map_map]
  conv => rhs; rw [← List.map_id l]
  refine List.map_congr_left fun x hx => ?_
  have := h x hx
  simp only [Function.comp, id]
  have e : (UInt8.ofNat x.toNat).toNat = x.toNat := by rw [UInt8.toNat_ofNat']; omega
  rw [e]
  omega
theorem mem_lowN {f : Nat → Bool} {x : Int} : ∀ {j : Nat} {l : List Int}, x ∈ lowN f j l → ∃ y ∈ l, ∃ b, x = lowI y b
  | _, [], h => by cases h
  | j, y :: r, h => by
    rw [lowN] at h
    rcases List.mem_cons.1 h with h | h
    · exact ⟨y, List.mem_cons_self .., f j, h⟩
    · obtain ⟨z, hz, b, hb⟩ := mem_lowN h
      exact ⟨z, List.mem_cons_of_mem _ hz, b, hb⟩
theorem byte_mem {s : ByteArray} {x : Int} (h : x ∈ bytesL s) : ∃ c ∈ s.data.toList, x = (c.toNat : Int) := by
  obtain ⟨c, hc, rfl⟩ := List.mem_map.1 h
  exact ⟨c, hc, rfl⟩
theorem bytes_low (s : ByteArray) (f : Nat → Bool) : bytesL (lowB s f) = lowL s f := by
  refine bytes_of fun x hx => ?_
  obtain ⟨y, hy, b, rfl⟩ := mem_lowN hx
  obtain ⟨c, _, rfl⟩ := byte_mem hy
  have := c.toNat_lt
  exact low_range b (by omega) (by omega)
/-- In large letters it is what it was. -/
theorem large_low (s : ByteArray) (f : Nat → Bool) : largeB (lowB s f) = largeB s := by
  unfold largeB largeL
  rw [bytes_low]
  unfold lowL
  rw [up_lowN]
theorem find_low (s : ByteArray) (f : Nat → Bool) : findE (lowB s f) = findE s := by
  unfold findE
  rw [large_low]
theorem noSl_low {s : ByteArray} (f : Nat → Bool) (h : noSl s) : noSl (lowB s f) := by
  intro c hc e
  subst e
  have hm : (47 : Int) ∈ bytesL (lowB s f) := List.mem_map.2 ⟨47, hc, rfl⟩
  rw [bytes_low] at hm
  obtain ⟨y, hy, b, hb⟩ := mem_lowN hm
  obtain ⟨c, hc2, rfl⟩ := byte_mem hy
  have h47 : (c.toNat : Int) = 47 := by
    unfold lowI at hb
    split at hb <;> omega
  exact h c hc2 (UInt8.toNat_inj.1 (by rw [show (47 : UInt8).toNat = 47 from rfl]; omega))
theorem all_names : nameT.all (fun t => (splitBlank t.2).all fun c => decide (findI c = t.1) && decide (c.data.toList.all (fun x => decide (x ≠ 47)) = true) && decide (c.size ≤ 40)) = true := by decide +kernel
theorem ali_mem {u : Int} {c : ByteArray} (h : c ∈ aliL u) : findI c = u ∧ noSl c ∧ c.size ≤ 40 := by
  unfold aliL at h
  cases hf : nameT.find? (fun t => decide (t.1 = u)) with
  | none => rw [hf] at h; cases h
  | some t =>
    rw [hf] at h
    have h1 := List.all_eq_true.1 (List.all_eq_true.1 all_names t (List.mem_of_find?_eq_some hf)) c h
    simp only [Bool.and_eq_true, decide_eq_true_eq] at h1
    have h2 : t.1 = u := by simpa using List.find?_some hf
    exact ⟨h1.1.1.trans h2, no_all h1.1.2, h1.2⟩
theorem ali_kinds : nameT.all (fun t => decide (aliL t.1 ≠ [])) = true := by decide +kernel
end Go.Proofs.YtkbkkdeaegidjaaDoor
