/- Pieces joined by //. -/
import Derived.Test.YtkbkkdeaegidjaaDoorOD
namespace Go.Proofs.YtkbkkdeaegidjaaDoor
open Go.RowKit
def joinF : List ByteArray → ByteArray
  | [] => ⟨#[]⟩
  | [a] => a
  | a :: b :: r => a ++ slS ++ joinF (b :: r)
/-- No slash stands in it. -/
def noSl (a : ByteArray) : Prop := ∀ x ∈ a.data.toList, x ≠ 47
theorem app_list (a b : ByteArray) : (a ++ b).data.toList = a.data.toList ++ b.data.toList := by simp
theorem app_assoc (a b c : ByteArray) : a ++ b ++ c = a ++ (b ++ c) := ext_list (by simp only [app_list, List.append_assoc])
theorem join_snoc : ∀ (l : List ByteArray) (p : ByteArray), l ≠ [] → joinF (l ++ [p]) = joinF l ++ (slS ++ p)
  | [], _, h => absurd rfl h
  | [a], p, _ => by
    show a ++ slS ++ p = _
    rw [app_assoc]
    rfl
  | a :: b :: r, p, _ => by
    show a ++ slS ++ joinF ((b :: r) ++ [p]) = a ++ slS ++ joinF (b :: r) ++ (slS ++ p)
    rw [join_snoc (b :: r) p (by simp)]
    simp only [app_assoc]
theorem occ_skip {a : List UInt8} (h : ∀ x ∈ a, x ≠ 47) (b : List UInt8) {j : Nat} (hj : j < a.length) : Lib.occAt (a ++ b) [47, 47] j = false := by
  unfold Lib.occAt
  rw [List.drop_append_of_le_length (by omega), List.drop_eq_getElem_cons hj]
  have := h _ (List.getElem_mem hj)
  have hb : ((47 : UInt8) == a[j]) = false := beq_eq_false_iff_ne.2 (Ne.symm this)
  rw [List.cons_append, List.isPrefixOf, hb]
  rfl
theorem split_one {a : ByteArray} (h : noSl a) : splitSl a = [a] := by
  unfold splitSl
  refine Lib.splitB_miss _ _ _ _ ?_
  unfold Lib.indexB
  rcases Lib.index_spec a.data.toList slS.data.toList with h1 | ⟨i, _, _, h2, _⟩
  · exact h1.1
  · exfalso
    rcases Nat.lt_or_ge i a.data.toList.length with hi | hi
    · have := occ_skip h [] hi
      rw [List.append_nil] at this
      rw [show slS.data.toList = [47, 47] from rfl, this] at h2
      cases h2
    · unfold Lib.occAt at h2
      rw [List.drop_eq_nil_of_le hi] at h2
      cases h2
set_option maxHeartbeats 1600000 in
theorem split_two {a : ByteArray} (h : noSl a) (b : ByteArray) : splitSl (a ++ slS ++ b) = a :: splitSl b := by
  have hz : (a ++ slS ++ b).size = a.size + 2 + b.size := by
    rw [ByteArray.size_append, ByteArray.size_append, show slS.size = 2 from rfl]
  have hl : (a ++ slS ++ b).data.toList = a.data.toList ++ ([47, 47] ++ b.data.toList) := by
    rw [app_list, app_list, List.append_assoc, show slS.data.toList = [47, 47] from rfl]
  have hm : mAt (a ++ slS ++ b) a.size = true := by
    unfold mAt Lib.occAt
    rw [hl, show a.size = a.data.toList.length by simp, List.drop_left]
    rfl
  have hn : ∀ j, 0 ≤ j → j < a.size → mAt (a ++ slS ++ b) j = false := fun j _ hj => by
    unfold mAt
    rw [hl]
    exact occ_skip h _ (by simpa using hj)
  have := sp_hit (s := a ++ slS ++ b) (m := 0) (i := a.size) (by omega) (by omega) hm hn
  rw [ext_all] at this
  rw [this]
  congr 1
  · refine ext_list ?_
    rw [Lib.extract_data, hl, List.drop_zero, show a.size - 0 = a.data.toList.length by simp, List.take_left]
  · congr 1
    refine ext_list ?_
    rw [Lib.extract_to_end, hl]
    rw [← List.append_assoc, show a.size + 2 = (a.data.toList ++ [47, 47]).length by simp, List.drop_left]
theorem split_join : ∀ (l : List ByteArray), l ≠ [] → (∀ a ∈ l, noSl a) → splitSl (joinF l) = l
  | [], h, _ => absurd rfl h
  | [a], _, h => split_one (h a (by simp))
  | a :: b :: r, _, h => by
    show splitSl (a ++ slS ++ joinF (b :: r)) = _
    rw [split_two (h a (by simp)), split_join (b :: r) (by simp) (fun x hx => h x (List.mem_cons_of_mem _ hx))]
theorem wish_snoc : ∀ (l : List ByteArray) (p : ByteArray) (t i t' i' : Bool), wishF l t i = some (t', i') → wishF (l ++ [p]) t i = wishF [p] t' i'
  | [], p, t, i, t', i', h => by
    simp only [wishF, Option.some.injEq, Prod.mk.injEq] at h
    obtain ⟨rfl, rfl⟩ := h
    rfl
  | a :: l, p, t, i, t', i', h => by
    rw [List.cons_append, wishF]
    rw [wishF] at h
    split
    · rw [if_pos (by assumption)] at h
      exact wish_snoc l p _ _ _ _ h
    · rw [if_neg (by assumption)] at h
      split
      · rw [if_pos (by assumption)] at h
        exact wish_snoc l p _ _ _ _ h
      · rw [if_neg (by assumption)] at h
        split
        · rw [if_pos (by assumption)] at h
          exact wish_snoc l p _ _ _ _ h
        · rw [if_neg (by assumption)] at h
          cases h
theorem find_names : nameT.all (fun t => decide (findI (nameL t.1) = t.1) && decide ((nameL t.1).data.toList.all (fun x => decide (x ≠ 47)) = true)) = true := by decide +kernel
end Go.Proofs.YtkbkkdeaegidjaaDoor
