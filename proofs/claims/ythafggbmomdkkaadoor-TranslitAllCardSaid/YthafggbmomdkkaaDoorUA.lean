/- The list of all scalars: plain laws. -/
import Derived.Test.YthafggbmomdkkaaDoorTR
namespace Go.Proofs.YthafggbmomdkkaaDoor
open Go.RowKit
/-- All scalars in whose place something may stand. -/
def allL : List Int := entT.map (·.1) ++ (List.range 94).map (fun k : Nat => 65281 + (k : Int))
theorem allL_len : allL.length = 212 := by decide +kernel
theorem all_rising : (List.range 211).all (fun k => decide (allL.getD k 0 < allL.getD (k + 1) 0)) = true := by decide +kernel
theorem all_pair : allL.Pairwise (· < ·) := by decide +kernel
theorem all_range : allL.all (fun u => decide (160 ≤ u ∧ u < 65536) && !(decide (512 ≤ u ∧ u < 8192) || decide (12544 ≤ u ∧ u < 64256))) = true := by decide +kernel
theorem all_next {k : Nat} (h : k < 211) : allL.getD k 0 < allL.getD (k + 1) 0 := of_decide_eq_true (List.all_eq_true.1 all_rising k (by simpa using h))
theorem all_le {i j : Nat} (hij : i ≤ j) (hj : j < 212) : allL.getD i 0 ≤ allL.getD j 0 := by
  induction j with
  | zero => have : i = 0 := by omega
            subst this; exact Int.le_refl _
  | succ j ih =>
    rcases Nat.lt_or_eq_of_le hij with h | rfl
    · have h1 := ih (by omega) (by omega)
      have h2 := all_next (k := j) (by omega)
      omega
    · exact Int.le_refl _
theorem mem_all (u : Int) : u ∈ allL ↔ candL u ≠ [] := by
  unfold allL candL
  rw [List.mem_append, List.mem_map, List.mem_map]
  by_cases h : 65281 ≤ u ∧ u ≤ 65374
  · rw [if_pos h]
    refine ⟨fun _ => by simp, fun _ => .inr ⟨(u - 65281).toNat, by simp; omega, by omega⟩⟩
  · rw [if_neg h]
    constructor
    · rintro (⟨t, ht, rfl⟩ | ⟨k, hk, rfl⟩)
      · cases hf : entT.find? (fun s => decide (s.1 = t.1)) with
        | none => exact absurd (List.find?_eq_none.1 hf t ht) (by simp)
        | some s =>
          have hs := List.all_eq_true.1 split_nonempty s (List.mem_of_find?_eq_some hf)
          simp only [Bool.and_eq_true, decide_eq_true_eq] at hs
          exact hs.1.1
      · exfalso
        simp at hk
        omega
    · intro hc
      cases hf : entT.find? (fun s => decide (s.1 = u)) with
      | none => rw [hf] at hc; exact absurd rfl hc
      | some s => exact .inl ⟨s, List.mem_of_find?_eq_some hf, by simpa using List.find?_some hf⟩
theorem all_contains (u : Int) : allL.contains u = decide (0 < (candL u).length) := by
  by_cases h : u ∈ allL
  · have := (mem_all u).1 h
    rw [List.contains_iff_mem.2 h, eq_comm, decide_eq_true_eq]
    exact List.length_pos_iff.2 this
  · have h2 : candL u = [] := Classical.byContradiction fun hc => h ((mem_all u).2 hc)
    rw [h2]
    simpa using h
/-- Those below n. -/
def upTo (n : Int) : List Int := allL.filter (fun x => decide (x < n))
theorem filter_none {l : List Int} {n : Int} (h : ∀ x ∈ l, n ≤ x) : l.filter (fun x => decide (x < n)) = [] := by
  rw [List.filter_eq_nil_iff]
  intro x hx
  have := h x hx
  simp
  omega
theorem filter_next : ∀ {l : List Int} {n : Int}, l.Pairwise (· < ·) → l.filter (fun x => decide (x < n + 1)) = l.filter (fun x => decide (x < n)) ++ (if n ∈ l then [n] else [])
  | [], n, _ => by simp
  | a :: l, n, h => by
    have ha := (List.pairwise_cons.1 h).1
    have hl := (List.pairwise_cons.1 h).2
    rcases Int.lt_trichotomy a n with h1 | h1 | h1
    · rw [List.filter_cons_of_pos (by simp; omega), List.filter_cons_of_pos (by simp; omega), filter_next hl]
      have : (n ∈ a :: l) ↔ n ∈ l := by simp; omega
      simp only [this, List.cons_append]
    · subst h1
      rw [List.filter_cons_of_pos (by simp; omega), List.filter_cons_of_neg (by simp), filter_none (fun x hx => by have := ha x hx; omega), filter_none (fun x hx => by have := ha x hx; omega), if_pos (List.mem_cons_self ..)]
      rfl
    · have h2 : n ∉ a :: l := by
        intro hm
        rcases List.mem_cons.1 hm with rfl | hm
        · omega
        · have := ha n hm; omega
      rw [List.filter_cons_of_neg (by simp; omega), List.filter_cons_of_neg (by simp; omega), filter_none (fun x hx => by have := ha x hx; omega), filter_none (fun x hx => by have := ha x hx; omega), if_neg h2]
      rfl
theorem upTo_next (n : Int) : upTo (n + 1) = upTo n ++ (if n ∈ allL then [n] else []) := filter_next all_pair
theorem upTo_zero : upTo 0 = [] := by decide +kernel
theorem upTo_end : upTo 65536 = allL := by
  unfold upTo
  rw [List.filter_eq_self]
  intro x hx
  have := List.all_eq_true.1 all_range x hx
  simp at this
  simp
  omega
theorem upTo_len (n : Int) : (upTo n).length ≤ 212 := by
  have := List.length_filter_le (fun x => decide (x < n)) allL
  rw [allL_len] at this
  exact this
theorem all_off {u : Int} (h : (512 ≤ u ∧ u < 8192) ∨ (12544 ≤ u ∧ u < 64256)) : u ∉ allL := fun hm => by
  have := List.all_eq_true.1 all_range u hm
  simp at this
  omega
end Go.Proofs.YthafggbmomdkkaaDoor
