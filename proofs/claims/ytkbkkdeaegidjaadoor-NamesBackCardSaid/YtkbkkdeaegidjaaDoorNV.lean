/- A text parted at each //. -/
import Derived.Test.YtkbkkdeaegidjaaDoorNO
import Derived.Lib.IndexMore
namespace Go.Proofs.YtkbkkdeaegidjaaDoor
open Go.RowKit
def slS : ByteArray := ⟨#[47, 47]⟩
def splitSl (s : ByteArray) : List ByteArray := Lib.splitB slS 0 (Lib.countB s slS) s
/-- Two slashes begin at place i. -/
def mAt (s : ByteArray) (i : Nat) : Bool := Lib.occAt s.data.toList [47, 47] i
theorem mAt_iff (s : ByteArray) (i : Nat) : mAt s i = true ↔ i + 1 < s.size ∧ (bytesL s).getD i 0 = 47 ∧ (bytesL s).getD (i + 1) 0 = 47 := by
  have hz : s.size = s.data.toList.length := by simp
  unfold mAt Lib.occAt bytesL
  rw [hz]
  generalize s.data.toList = l
  induction l generalizing i with
  | nil => simp
  | cons a l ih =>
    cases i with
    | zero =>
      cases l with
      | nil => simp [List.isPrefixOf]
      | cons b l =>
        simp [List.isPrefixOf]
        constructor
        · rintro ⟨rfl, rfl⟩
          decide
        · rintro ⟨h1, h2⟩
          have h7 : (47 : UInt8).toNat = 47 := rfl
          exact ⟨UInt8.toNat_inj.1 (by omega), UInt8.toNat_inj.1 (by omega)⟩
    | succ i =>
      have := ih i
      simpa using this
theorem index_drop {s : ByteArray} {m i : Nat} (hf : m ≤ i) (hi : i ≤ s.size) (hm : mAt s i = true) (hn : ∀ j, m ≤ j → j < i → mAt s j = false) : Lib.indexB (s.extract m s.size) slS = ((i - m : Nat) : Int) := by
  unfold Lib.indexB
  rw [Lib.extract_to_end]
  have hz : s.size = s.data.toList.length := by simp
  refine Lib.index_hit (fun j hj => ?_) (by rw [List.length_drop]; omega) ?_
  · have := hn (m + j) (by omega) (by omega)
    unfold mAt Lib.occAt at this
    unfold Lib.occAt
    rw [List.drop_drop]
    exact this
  · unfold mAt Lib.occAt at hm
    unfold Lib.occAt
    rw [List.drop_drop, show m + (i - m) = i by omega]
    exact hm
theorem index_none {s : ByteArray} {m : Nat} (hn : ∀ j, m ≤ j → mAt s j = false) : Lib.indexB (s.extract m s.size) slS = -1 := by
  unfold Lib.indexB
  rw [Lib.extract_to_end]
  rcases Lib.index_spec (s.data.toList.drop m) slS.data.toList with h | ⟨i, _, _, h, _⟩
  · exact h.1
  · exfalso
    have := hn (m + i) (by omega)
    unfold mAt Lib.occAt at this
    unfold Lib.occAt at h
    rw [List.drop_drop] at h
    rw [show slS.data.toList = [47, 47] from rfl, this] at h
    cases h
theorem ext_list {a b : ByteArray} (h : a.data.toList = b.data.toList) : a = b := ByteArray.ext (Array.toList_inj.1 h)
theorem sp_hit {s : ByteArray} {m i : Nat} (hf : m ≤ i) (hi : i + 2 ≤ s.size) (hm : mAt s i = true) (hn : ∀ j, m ≤ j → j < i → mAt s j = false) : splitSl (s.extract m s.size) = s.extract m i :: splitSl (s.extract (i + 2) s.size) := by
  have hx := index_drop hf (by omega) hm hn
  have hz : s.size = s.data.toList.length := by simp
  have e1 : (s.extract m s.size).extract 0 (i - m + 0) = s.extract m i := by
    refine ext_list ?_
    rw [Lib.extract_data, Lib.extract_to_end, Lib.extract_data]
    simp
  have e2 : (s.extract m s.size).extract (i - m + slS.size) (s.extract m s.size).size = s.extract (i + 2) s.size := by
    refine ext_list ?_
    rw [Lib.extract_to_end, Lib.extract_to_end, Lib.extract_to_end, List.drop_drop, show slS.size = 2 from rfl, show m + (i - m + 2) = i + 2 by omega]
  unfold splitSl
  rw [Lib.countB_hit _ slS (i - m) (by decide) hx, Nat.add_comm 1, Lib.splitB_hit slS 0 _ _ _ hx, e1, e2]
theorem sp_miss {s : ByteArray} {m : Nat} (hn : ∀ j, m ≤ j → mAt s j = false) : splitSl (s.extract m s.size) = [s.extract m s.size] := by
  unfold splitSl
  exact Lib.splitB_miss _ _ _ _ (index_none hn)
end Go.Proofs.YtkbkkdeaegidjaaDoor
