/- The reference's Get and the model's own decode, alike. -/
import Derived.Test.YthafggbmomdkkaaDoorTO
import Derived.Lib.DecodeNEq
namespace Go.Proofs.YthafggbmomdkkaaDoor
open Go.RowKit
/-- What Get tells beside what the model's decode tells. -/
def AlikeG (g : Got) (d : Nat × Nat) : Prop := (g.k = 1 ∧ (d.1 : Int) = g.x ∧ (d.2 : Int) = g.n) ∨ (g.k = 0 ∧ d = (65533, 1))
theorem alike_ok {e n x : Int} {a b : Nat} (h1 : (a : Int) = x) (h2 : (b : Int) = n) : AlikeG ⟨e, n, 1, x⟩ (a, b) := .inl ⟨rfl, h1, h2⟩
theorem alike_bad {e n x : Int} : AlikeG ⟨e, n, 0, x⟩ (65533, 1) := .inr ⟨rfl, rfl⟩
/-- The first bytes of a list. -/
def headOf (n : Nat) (b0 b1 b2 b3 : Nat) (t : List Int) : List Int := match n with
  | 0 => []
  | 1 => [(b0 : Int)]
  | 2 => [(b0 : Int), (b1 : Int)]
  | 3 => [(b0 : Int), (b1 : Int), (b2 : Int)]
  | _ => (b0 : Int) :: (b1 : Int) :: (b2 : Int) :: (b3 : Int) :: t
theorem bd_some (b0 : Nat) (lo hi : Int) (h : (194 ≤ b0 ∧ b0 < 224 ∧ lo = 128 ∧ hi = 191) ∨ (b0 = 224 ∧ lo = 160 ∧ hi = 191) ∨ (((225 ≤ b0 ∧ b0 < 237) ∨ (238 ≤ b0 ∧ b0 < 240)) ∧ lo = 128 ∧ hi = 191) ∨ (b0 = 237 ∧ lo = 128 ∧ hi = 159) ∨ (b0 = 240 ∧ lo = 144 ∧ hi = 191) ∨ ((241 ≤ b0 ∧ b0 < 244) ∧ lo = 128 ∧ hi = 191) ∨ (b0 = 244 ∧ lo = 128 ∧ hi = 143)) : bdL (b0 : Int) 1 = (lo, hi) := by
  unfold bdL unitN
  repeat' split
  all_goals first | (exfalso; omega) | (apply Prod.ext <;> simp only <;> omega)
set_option maxHeartbeats 4000000 in
theorem getU_slow (n b0 b1 b2 b3 : Nat) (t : List Int) (sz lo hi : Nat) (hn : 1 ≤ n) (hb : bdL (b0 : Int) 1 = ((lo : Int), (hi : Int))) (hs : (194 ≤ b0 ∧ b0 < 224 ∧ sz = 2) ∨ (224 ≤ b0 ∧ b0 < 240 ∧ sz = 3) ∨ (240 ≤ b0 ∧ b0 ≤ 244 ∧ sz = 4)) : AlikeG (getU (headOf n b0 b1 b2 b3 t)) (Lib.slowN n b0 b1 b2 b3 sz lo hi) := by
  have e : (n = 1) ∨ (n = 2) ∨ (n = 3) ∨ (∃ m, n = m + 4) := by
    rcases Nat.lt_or_ge n 4 with h | h
    · omega
    · exact .inr (.inr (.inr ⟨n - 4, by omega⟩))
  rcases e with rfl | rfl | rfl | ⟨m, rfl⟩ <;> simp only [headOf, getU, hb] <;> unfold Lib.slowN <;> (repeat' split) <;> first
    | exact alike_bad
    | (exfalso; omega)
    | exact alike_ok (by omega) (by omega)
set_option maxHeartbeats 1600000 in
theorem getU_N (n b0 b1 b2 b3 : Nat) (t : List Int) (hn : 1 ≤ n) (h0 : b0 < 256) (h1 : b1 < 256) (h2 : b2 < 256) (h3 : b3 < 256) : AlikeG (getU (headOf n b0 b1 b2 b3 t)) (Lib.decodeN n b0 b1 b2 b3) := by
  by_cases ha : Lib.firstT b0 = 240
  · rw [Lib.ascii_eq n b0 b1 b2 b3 ha]
    have hlt : b0 < 128 := by
      unfold Lib.firstT at ha
      repeat' split at ha
      all_goals omega
    have e : (n = 1) ∨ (n = 2) ∨ (n = 3) ∨ (∃ m, n = m + 4) := by
      rcases Nat.lt_or_ge n 4 with h | h
      · omega
      · exact .inr (.inr (.inr ⟨n - 4, by omega⟩))
    have hq : ((b0 : Int) < 128) := by omega
    rcases e with rfl | rfl | rfl | ⟨m, rfl⟩ <;> simp only [headOf, getU, if_pos hq] <;> exact alike_ok rfl rfl
  · by_cases hbd : Lib.firstT b0 = 241
    · rw [Lib.bad_eq n b0 b1 b2 b3 h0 hbd]
      have hlt : (128 ≤ b0 ∧ b0 < 194) ∨ 244 < b0 := by
        unfold Lib.firstT at hbd
        repeat' split at hbd
        all_goals omega
      have e : (n = 1) ∨ (n = 2) ∨ (n = 3) ∨ (∃ m, n = m + 4) := by
        rcases Nat.lt_or_ge n 4 with h | h
        · omega
        · exact .inr (.inr (.inr ⟨n - 4, by omega⟩))
      have hq : ¬ ((b0 : Int) < 128) := by omega
      have hq2 : (b0 : Int) < 194 ∨ 244 < (b0 : Int) := by omega
      rcases e with rfl | rfl | rfl | ⟨m, rfl⟩ <;> simp only [headOf, getU, if_neg hq, if_pos hq2] <;> exact alike_bad
    · have hx : Lib.firstT b0 < 240 := by
        have hc : Lib.firstT b0 = 240 ∨ Lib.firstT b0 = 241 ∨ Lib.firstT b0 < 240 := by
          unfold Lib.firstT
          repeat' split
          all_goals omega
        omega
      rcases Lib.firstT_low hx with h | h | h | h | h | h | h
      · rw [← Lib.slow_C2 n b0 b1 b2 b3 hn h1 h2 h3 h]; exact getU_slow n b0 b1 b2 b3 t 2 128 191 hn (bd_some b0 _ _ (by omega)) (by omega)
      · rw [← Lib.slow_E0 n b0 b1 b2 b3 hn h1 h2 h3 h]; exact getU_slow n b0 b1 b2 b3 t 3 160 191 hn (bd_some b0 _ _ (by omega)) (by omega)
      · rw [← Lib.slow_E1 n b0 b1 b2 b3 hn h1 h2 h3 h]; exact getU_slow n b0 b1 b2 b3 t 3 128 191 hn (bd_some b0 _ _ (by omega)) (by omega)
      · rw [← Lib.slow_ED n b0 b1 b2 b3 hn h1 h2 h3 h]; exact getU_slow n b0 b1 b2 b3 t 3 128 159 hn (bd_some b0 _ _ (by omega)) (by omega)
      · rw [← Lib.slow_F0 n b0 b1 b2 b3 hn h1 h2 h3 h]; exact getU_slow n b0 b1 b2 b3 t 4 144 191 hn (bd_some b0 _ _ (by omega)) (by omega)
      · rw [← Lib.slow_F1 n b0 b1 b2 b3 hn h1 h2 h3 h]; exact getU_slow n b0 b1 b2 b3 t 4 128 191 hn (bd_some b0 _ _ (by omega)) (by omega)
      · rw [← Lib.slow_F4 n b0 b1 b2 b3 hn h1 h2 h3 h]; exact getU_slow n b0 b1 b2 b3 t 4 128 143 hn (bd_some b0 _ _ (by omega)) (by omega)
theorem bytes_at (s : ByteArray) (i : Nat) (h : i < s.size) : (bytesL s).drop i = (((s.get! i).toNat : Nat) : Int) :: (bytesL s).drop (i + 1) := by
  have hl : i < (bytesL s).length := by rw [bytesL_len]; exact h
  rw [List.drop_eq_getElem_cons hl]
  congr 1
  have hd : i < s.data.size := h
  have e : s.get! i = s.data[i] := by
    show s.data[i]! = _
    rw [getElem!_pos s.data i hd]
  rw [e]
  simp [bytesL]
theorem bytes_head (s : ByteArray) (i : Nat) (h : i < s.size) : (bytesL s).drop i = headOf (s.size - i) (s.get! i).toNat (s.get! (i + 1)).toNat (s.get! (i + 2)).toNat (s.get! (i + 3)).toNat ((bytesL s).drop (i + 4)) := by
  have hz : ∀ j, s.size ≤ j → (bytesL s).drop j = [] := fun j hj => List.drop_eq_nil_of_le (by rw [bytesL_len]; exact hj)
  rw [bytes_at s i h]
  by_cases h1 : i + 1 < s.size
  · rw [bytes_at s (i + 1) h1]
    by_cases h2 : i + 2 < s.size
    · rw [bytes_at s (i + 2) h2]
      by_cases h3 : i + 3 < s.size
      · rw [bytes_at s (i + 3) h3]
        obtain ⟨m, hm⟩ : ∃ m, s.size - i = m + 4 := ⟨s.size - i - 4, by omega⟩
        rw [hm]
        rfl
      · rw [hz (i + 2 + 1) (by omega), show s.size - i = 3 by omega]
        rfl
    · rw [hz (i + 1 + 1) (by omega), show s.size - i = 2 by omega]
      rfl
  · rw [hz (i + 1) (by omega), show s.size - i = 1 by omega]
    rfl
theorem get_dec (s : ByteArray) (i : Nat) (h : i < s.size) : AlikeG (getU ((bytesL s).drop i)) (Utf8.decode s i) := by
  rw [bytes_head s i h, Lib.decode_at]
  exact getU_N _ _ _ _ _ _ (by omega) (UInt8.toNat_lt _) (UInt8.toNat_lt _) (UInt8.toNat_lt _) (UInt8.toNat_lt _)
theorem runes_step (s : ByteArray) (b i : Nat) (h : i < s.size) : runesF s (b + 1) i = ((Utf8.decode s i).1 : Int) :: runesF s b (i + (Utf8.decode s i).2) := by
  rw [runesF, if_pos h]
/-- Whole bytes: what Scalars tells is what a range over the text tells. -/
theorem dec_runes (s : ByteArray) : ∀ (f : Nat) (b i : Nat) (l : List Int), decU f ((bytesL s).drop i) = some l → s.size ≤ i + b → runesF s b i = l
  | 0, _, _, _, h, _ => by simp [decU] at h
  | f + 1, b, i, l, h, hb => by
    rw [decU] at h
    by_cases hi : i < s.size
    · have hne : (bytesL s).drop i ≠ [] := by rw [bytes_at s i hi]; exact List.cons_ne_nil _ _
      rw [if_neg hne] at h
      by_cases he : (getU ((bytesL s).drop i)).err = 0
      · rw [if_pos he] at h
        obtain ⟨m, h1, h2, h3, h4, h5⟩ := getU_ok he
        cases hd : decU f (((bytesL s).drop i).drop (getU ((bytesL s).drop i)).n.toNat) with
        | none => rw [hd] at h; simp at h
        | some t =>
          rw [hd] at h
          simp at h
          subst h
          rcases get_dec s i hi with ⟨k1, k2, k3⟩ | ⟨k1, _⟩
          · cases b with
            | zero => omega
            | succ b =>
              rw [runes_step s b i hi, k2]
              congr 1
              rw [List.drop_drop] at hd
              have e : (getU ((bytesL s).drop i)).n.toNat = (Utf8.decode s i).2 := by omega
              rw [e] at hd
              have hw := width_pos s i hi
              exact dec_runes s f b _ t hd (by omega)
          · omega
      · rw [if_neg he] at h; simp at h
    · have hnil : (bytesL s).drop i = [] := List.drop_eq_nil_of_le (by rw [bytesL_len]; omega)
      rw [if_pos hnil] at h
      injection h with h
      rw [← h, runesF_end hi]
theorem dec_all {s : ByteArray} {l : List Int} (h : decU ((bytesL s).length + 1) (bytesL s) = some l) : runesL s = l := dec_runes s _ s.size 0 l (by simpa using h) (by omega)
end Go.Proofs.YthafggbmomdkkaaDoor
