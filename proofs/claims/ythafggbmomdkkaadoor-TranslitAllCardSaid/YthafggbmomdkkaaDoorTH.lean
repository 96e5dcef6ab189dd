/- The reference's Get at every bytes; Scalars at bytes that are whole. -/
import Derived.Test.YthafggbmomdkkaaDoorTG
import Derived.OwnWalk
import Derived.Lib.SmallJoins
import Derived.Lib.ConvBytes
namespace Go.Proofs.YthafggbmomdkkaaDoor
open Go.RowKit
/-- A slice of integers lies in memory. -/
def SlI (k : IntKind) (w : World) (A : Option Addr) (n cap : Nat) (xs : List Int) : Prop :=
  xs.length = n ∧ n ≤ 140737488351232 ∧ n ≤ cap ∧ (∀ x ∈ xs, (Lit.int k x).wf = true) ∧ ((A = none ∧ n = 0) ∨ ∃ ad, A = some ad ∧ ∀ j, j < n → w.cell? (ad.add j) = some (.int k (xs.getD j 0)))
theorem SlI.below {k : IntKind} {w w' : World} {A : Option Addr} {n cap : Nat} {xs : List Int} (h : SlI k w A n cap xs) (hb : Below w.heap.size w w') : SlI k w' A n cap xs := by
  obtain ⟨h1, h2, h3, h3', h4⟩ := h
  refine ⟨h1, h2, h3, h3', ?_⟩
  rcases h4 with h4 | ⟨ad, h5, h6⟩
  · exact .inl h4
  · exact .inr ⟨ad, h5, fun j hj => (hb.cell (p := ad.add j) (block_lt_of_cell (h6 j hj))).trans (h6 j hj)⟩
theorem wf_u8 {x : Int} (h : (Lit.int .u8 x).wf = true) : 0 ≤ x ∧ x ≤ 255 := by
  have h' : (decide (IntKind.u8.min ≤ x) && decide (x ≤ IntKind.u8.max)) = true := h
  rw [show IntKind.u8.min = 0 by decide, show IntKind.u8.max = 255 by decide] at h'
  simp at h'
  exact h'
theorem u8_wf {x : Int} (h0 : 0 ≤ x) (h1 : x ≤ 255) : (Lit.int .u8 x).wf = true := by
  show (decide (IntKind.u8.min ≤ x) && decide (x ≤ IntKind.u8.max)) = true
  rw [show IntKind.u8.min = 0 by decide, show IntKind.u8.max = 255 by decide]
  simp
  exact ⟨h0, h1⟩
theorem gget_any (A : Option Addr) (n cap : Nat) (L : List Int) (w : World) (h : SlI .u8 w A n cap L) : Calls Tryd.prog 25 #[.slice A n cap] w fun e w' => e = .returned (gotV (getU L)) ∧ Below w.heap.size w w' := by
  obtain ⟨h1, h2, h3, h4, h5⟩ := h
  match L, h1, h4, h5 with
  | [], h1, _, _ => subst h1; exact get_nil A cap w
  | b0 :: r, h1, h4, h5 =>
    have hn1 : 1 ≤ n := by rw [← h1]; simp
    rcases h5 with ⟨_, h0⟩ | ⟨ad, rfl, hc⟩
    · omega
    have w0 := wf_u8 (h4 b0 (by simp))
    have c0 : w.cell? ad = some (.int .u8 b0) := hc 0 (by omega)
    by_cases q1 : b0 < 128
    · rw [show getU (b0 :: r) = ⟨0, 1, 1, b0⟩ by unfold getU; dsimp only; rw [if_pos q1]]
      by_cases hn : n = 1
      · subst hn; exact get_one_e ad cap h3 b0 w0.1 w0.2 w c0 q1
      · exact get_one_m ad n cap (by omega) h2 h3 b0 w0.1 w0.2 w c0 q1
    · by_cases q2 : b0 < 194 ∨ 244 < b0
      · rw [show getU (b0 :: r) = ⟨10, 1, 0, 0⟩ by unfold getU; dsimp only; rw [if_neg q1, if_pos q2]]
        rcases q2 with q2 | q2
        · exact get_ill0a ad n cap hn1 h2 h3 b0 w0.1 w0.2 w c0 (by omega) q2
        · exact get_ill0b ad n cap hn1 h2 h3 b0 w0.1 w0.2 w c0 q2
      · have q2a : 194 ≤ b0 := by omega
        have q2b : b0 ≤ 244 := by omega
        match r, h1, h4, hc with
        | [], h1, _, _ =>
          rw [show getU [b0] = ⟨1, 0, 0, 0⟩ by unfold getU; dsimp only; rw [if_neg q1, if_neg q2]]
          obtain rfl : n = 1 := by simpa using h1.symm
          exact get_more1 ad cap h3 b0 w0.1 w0.2 w c0 q2a q2b
        | b1 :: r, h1, h4, hc =>
          have hn2 : 2 ≤ n := by rw [← h1]; simp
          have w1 := wf_u8 (h4 b1 (by simp))
          have c1 : w.cell? (ad.add 1) = some (.int .u8 b1) := hc 1 (by omega)
          by_cases q3 : b1 < (bdL b0 1).1 ∨ (bdL b0 1).2 < b1
          · rw [show getU (b0 :: b1 :: r) = ⟨10, 1, 0, 0⟩ by unfold getU; dsimp only; rw [if_neg q1, if_neg q2]; (try dsimp only); rw [if_pos q3]]
            by_cases q4 : b1 < (bdL b0 1).1
            · exact get_ill1a ad n cap hn2 h2 h3 b0 w0.1 w0.2 b1 w1.1 w1.2 w c0 c1 q2a q2b q4
            · exact get_ill1b ad n cap hn2 h2 h3 b0 w0.1 w0.2 b1 w1.1 w1.2 w c0 c1 q2a q2b (by omega) (q3.resolve_left q4)
          · have q3a : (bdL b0 1).1 ≤ b1 := by omega
            have q3b : b1 ≤ (bdL b0 1).2 := by omega
            by_cases q4 : b0 < 224
            · rw [show getU (b0 :: b1 :: r) = ⟨0, 2, 1, 64 * (b0 % 32) + b1 % 64⟩ by unfold getU; dsimp only; rw [if_neg q1, if_neg q2]; (try dsimp only); rw [if_neg q3, if_pos q4]]
              by_cases hn : n = 2
              · subst hn; exact get_two_e ad cap h3 b0 w0.1 w0.2 b1 w1.1 w1.2 w c0 c1 q2a q4 q3a q3b
              · exact get_two_m ad n cap (by omega) h2 h3 b0 w0.1 w0.2 b1 w1.1 w1.2 w c0 c1 q2a q4 q3a q3b
            · have q4a : 224 ≤ b0 := by omega
              match r, h1, h4, hc with
              | [], h1, _, _ =>
                rw [show getU [b0, b1] = ⟨1, 0, 0, 0⟩ by unfold getU; dsimp only; rw [if_neg q1, if_neg q2]; (try dsimp only); rw [if_neg q3, if_neg q4]]
                obtain rfl : n = 2 := by simpa using h1.symm
                exact get_more2 ad cap h3 b0 w0.1 w0.2 b1 w1.1 w1.2 w c0 c1 q4a q2b q3a q3b
              | b2 :: r, h1, h4, hc =>
                have hn3 : 3 ≤ n := by rw [← h1]; simp
                have w2 := wf_u8 (h4 b2 (by simp))
                have c2 : w.cell? (ad.add 2) = some (.int .u8 b2) := hc 2 (by omega)
                by_cases q5 : b2 < 128 ∨ 191 < b2
                · rw [show getU (b0 :: b1 :: b2 :: r) = ⟨10, 2, 0, 0⟩ by unfold getU; dsimp only; rw [if_neg q1, if_neg q2]; (try dsimp only); rw [if_neg q3, if_neg q4, if_pos q5]]
                  rcases q5 with q5 | q5
                  · exact get_ill2a ad n cap hn3 h2 h3 b0 w0.1 w0.2 b1 w1.1 w1.2 b2 w2.1 w2.2 w c0 c1 c2 q4a q2b q3a q3b q5
                  · exact get_ill2b ad n cap hn3 h2 h3 b0 w0.1 w0.2 b1 w1.1 w1.2 b2 w2.1 w2.2 w c0 c1 c2 q4a q2b q3a q3b q5
                · have q5a : 128 ≤ b2 := by omega
                  have q5b : b2 ≤ 191 := by omega
                  by_cases q6 : b0 < 240
                  · rw [show getU (b0 :: b1 :: b2 :: r) = ⟨0, 3, 1, 64 * (64 * (b0 % 16) + b1 % 64) + b2 % 64⟩ by unfold getU; dsimp only; rw [if_neg q1, if_neg q2]; (try dsimp only); rw [if_neg q3, if_neg q4, if_neg q5, if_pos q6]]
                    by_cases hn : n = 3
                    · subst hn; exact get_three_e ad cap h3 b0 w0.1 w0.2 b1 w1.1 w1.2 b2 w2.1 w2.2 w c0 c1 c2 q4a q6 q3a q3b q5a q5b
                    · exact get_three_m ad n cap (by omega) h2 h3 b0 w0.1 w0.2 b1 w1.1 w1.2 b2 w2.1 w2.2 w c0 c1 c2 q4a q6 q3a q3b q5a q5b
                  · have q6a : 240 ≤ b0 := by omega
                    match r, h1, h4, hc with
                    | [], h1, _, _ =>
                      rw [show getU [b0, b1, b2] = ⟨1, 0, 0, 0⟩ by unfold getU; dsimp only; rw [if_neg q1, if_neg q2]; (try dsimp only); rw [if_neg q3, if_neg q4, if_neg q5, if_neg q6]]
                      obtain rfl : n = 3 := by simpa using h1.symm
                      exact get_more3 ad cap h3 b0 w0.1 w0.2 b1 w1.1 w1.2 b2 w2.1 w2.2 w c0 c1 c2 q6a q2b q3a q3b q5a q5b
                    | b3 :: r, h1, h4, hc =>
                      have hn4 : 4 ≤ n := by rw [← h1]; simp
                      have w3 := wf_u8 (h4 b3 (by simp))
                      have c3 : w.cell? (ad.add 3) = some (.int .u8 b3) := hc 3 (by omega)
                      by_cases q7 : b3 < 128 ∨ 191 < b3
                      · rw [show getU (b0 :: b1 :: b2 :: b3 :: r) = ⟨10, 3, 0, 0⟩ by unfold getU; dsimp only; rw [if_neg q1, if_neg q2]; (try dsimp only); rw [if_neg q3, if_neg q4, if_neg q5, if_neg q6, if_pos q7]]
                        rcases q7 with q7 | q7
                        · exact get_ill3a ad n cap hn4 h2 h3 b0 w0.1 w0.2 b1 w1.1 w1.2 b2 w2.1 w2.2 b3 w3.1 w3.2 w c0 c1 c2 c3 q6a q2b q3a q3b q5a q5b q7
                        · exact get_ill3b ad n cap hn4 h2 h3 b0 w0.1 w0.2 b1 w1.1 w1.2 b2 w2.1 w2.2 b3 w3.1 w3.2 w c0 c1 c2 c3 q6a q2b q3a q3b q5a q5b q7
                      · rw [show getU (b0 :: b1 :: b2 :: b3 :: r) = ⟨0, 4, 1, 64 * (64 * (64 * (b0 % 8) + b1 % 64) + b2 % 64) + b3 % 64⟩ by unfold getU; dsimp only; rw [if_neg q1, if_neg q2]; (try dsimp only); rw [if_neg q3, if_neg q4, if_neg q5, if_neg q6, if_neg q7]]
                        by_cases hn : n = 4
                        · subst hn; exact get_four_e ad cap h3 b0 w0.1 w0.2 b1 w1.1 w1.2 b2 w2.1 w2.2 b3 w3.1 w3.2 w c0 c1 c2 c3 q6a q2b q3a q3b q5a q5b (by omega) (by omega)
                        · exact get_four_m ad n cap (by omega) h2 h3 b0 w0.1 w0.2 b1 w1.1 w1.2 b2 w2.1 w2.2 b3 w3.1 w3.2 w c0 c1 c2 c3 q6a q2b q3a q3b q5a q5b (by omega) (by omega)
end Go.Proofs.YthafggbmomdkkaaDoor
