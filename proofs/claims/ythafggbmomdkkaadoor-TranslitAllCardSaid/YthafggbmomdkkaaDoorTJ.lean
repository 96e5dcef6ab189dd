/- The reference's low, high and marks: chains of tests (written by mktj.py). -/
import Derived.Test.YthafggbmomdkkaaDoorTI
namespace Go.Proofs.YthafggbmomdkkaaDoor
open Go.RowKit
/-- A new slice of these texts. -/
def NewPost (l : List ByteArray) (w : World) (e : Ending) (w' : World) : Prop := e = .returned (.slice (some ⟨w.heap.size, 0, none⟩) l.length l.length) ∧ w' = w.alloc (.cells (l.map Value.string).toArray 9)
def lowT : List (Int × List ByteArray) := [(160, [⟨#[32]⟩]), (161, [⟨#[33]⟩]), (162, [⟨#[99]⟩]), (163, [⟨#[71, 66, 80]⟩, ⟨#[76]⟩]), (165, [⟨#[74, 80, 89]⟩, ⟨#[89]⟩]), (166, [⟨#[33]⟩]), (168, [⟨#[34]⟩]), (169, [⟨#[40, 67, 41]⟩, ⟨#[67]⟩]), (171, [⟨#[60, 60]⟩, ⟨#[60]⟩, ⟨#[34]⟩]), (173, [⟨#[45]⟩]), (174, [⟨#[40, 82, 41]⟩, ⟨#[82]⟩]), (177, [⟨#[43, 47, 45]⟩, ⟨#[43]⟩]), (180, [⟨#[39]⟩]), (181, [⟨#[117]⟩]), (183, [⟨#[46]⟩]), (184, [⟨#[44]⟩]), (187, [⟨#[62, 62]⟩, ⟨#[62]⟩, ⟨#[34]⟩]), (188, [⟨#[49, 47, 52]⟩]), (189, [⟨#[49, 47, 50]⟩]), (190, [⟨#[51, 47, 52]⟩]), (191, [⟨#[63]⟩])]
theorem low_160 (w : World) : Calls Tryd.prog 21 #[.int .i32 160] w (NewPost [⟨#[32]⟩] w) := by
  go_enter Tryd.func21, Tryd.ntmps21
  go_wp2
  go_ret
  exact ⟨rfl, rfl⟩
theorem low_161 (w : World) : Calls Tryd.prog 21 #[.int .i32 161] w (NewPost [⟨#[33]⟩] w) := by
  go_enter Tryd.func21, Tryd.ntmps21
  go_wp2
  go_ret
  exact ⟨rfl, rfl⟩
theorem low_162 (w : World) : Calls Tryd.prog 21 #[.int .i32 162] w (NewPost [⟨#[99]⟩] w) := by
  go_enter Tryd.func21, Tryd.ntmps21
  go_wp2
  go_ret
  exact ⟨rfl, rfl⟩
theorem low_163 (w : World) : Calls Tryd.prog 21 #[.int .i32 163] w (NewPost [⟨#[71, 66, 80]⟩, ⟨#[76]⟩] w) := by
  go_enter Tryd.func21, Tryd.ntmps21
  go_wp2
  go_ret
  exact ⟨rfl, rfl⟩
theorem low_165 (w : World) : Calls Tryd.prog 21 #[.int .i32 165] w (NewPost [⟨#[74, 80, 89]⟩, ⟨#[89]⟩] w) := by
  go_enter Tryd.func21, Tryd.ntmps21
  go_wp2
  go_ret
  exact ⟨rfl, rfl⟩
theorem low_166 (w : World) : Calls Tryd.prog 21 #[.int .i32 166] w (NewPost [⟨#[33]⟩] w) := by
  go_enter Tryd.func21, Tryd.ntmps21
  go_wp2
  go_ret
  exact ⟨rfl, rfl⟩
theorem low_168 (w : World) : Calls Tryd.prog 21 #[.int .i32 168] w (NewPost [⟨#[34]⟩] w) := by
  go_enter Tryd.func21, Tryd.ntmps21
  go_wp2
  go_ret
  exact ⟨rfl, rfl⟩
theorem low_169 (w : World) : Calls Tryd.prog 21 #[.int .i32 169] w (NewPost [⟨#[40, 67, 41]⟩, ⟨#[67]⟩] w) := by
  go_enter Tryd.func21, Tryd.ntmps21
  go_wp2
  go_ret
  exact ⟨rfl, rfl⟩
theorem low_171 (w : World) : Calls Tryd.prog 21 #[.int .i32 171] w (NewPost [⟨#[60, 60]⟩, ⟨#[60]⟩, ⟨#[34]⟩] w) := by
  go_enter Tryd.func21, Tryd.ntmps21
  go_wp2
  go_ret
  exact ⟨rfl, rfl⟩
theorem low_173 (w : World) : Calls Tryd.prog 21 #[.int .i32 173] w (NewPost [⟨#[45]⟩] w) := by
  go_enter Tryd.func21, Tryd.ntmps21
  go_wp2
  go_ret
  exact ⟨rfl, rfl⟩
theorem low_174 (w : World) : Calls Tryd.prog 21 #[.int .i32 174] w (NewPost [⟨#[40, 82, 41]⟩, ⟨#[82]⟩] w) := by
  go_enter Tryd.func21, Tryd.ntmps21
  go_wp2
  go_ret
  exact ⟨rfl, rfl⟩
theorem low_177 (w : World) : Calls Tryd.prog 21 #[.int .i32 177] w (NewPost [⟨#[43, 47, 45]⟩, ⟨#[43]⟩] w) := by
  go_enter Tryd.func21, Tryd.ntmps21
  go_wp2
  go_ret
  exact ⟨rfl, rfl⟩
theorem low_180 (w : World) : Calls Tryd.prog 21 #[.int .i32 180] w (NewPost [⟨#[39]⟩] w) := by
  go_enter Tryd.func21, Tryd.ntmps21
  go_wp2
  go_ret
  exact ⟨rfl, rfl⟩
theorem low_181 (w : World) : Calls Tryd.prog 21 #[.int .i32 181] w (NewPost [⟨#[117]⟩] w) := by
  go_enter Tryd.func21, Tryd.ntmps21
  go_wp2
  go_ret
  exact ⟨rfl, rfl⟩
theorem low_183 (w : World) : Calls Tryd.prog 21 #[.int .i32 183] w (NewPost [⟨#[46]⟩] w) := by
  go_enter Tryd.func21, Tryd.ntmps21
  go_wp2
  go_ret
  exact ⟨rfl, rfl⟩
theorem low_184 (w : World) : Calls Tryd.prog 21 #[.int .i32 184] w (NewPost [⟨#[44]⟩] w) := by
  go_enter Tryd.func21, Tryd.ntmps21
  go_wp2
  go_ret
  exact ⟨rfl, rfl⟩
theorem low_187 (w : World) : Calls Tryd.prog 21 #[.int .i32 187] w (NewPost [⟨#[62, 62]⟩, ⟨#[62]⟩, ⟨#[34]⟩] w) := by
  go_enter Tryd.func21, Tryd.ntmps21
  go_wp2
  go_ret
  exact ⟨rfl, rfl⟩
theorem low_188 (w : World) : Calls Tryd.prog 21 #[.int .i32 188] w (NewPost [⟨#[49, 47, 52]⟩] w) := by
  go_enter Tryd.func21, Tryd.ntmps21
  go_wp2
  go_ret
  exact ⟨rfl, rfl⟩
theorem low_189 (w : World) : Calls Tryd.prog 21 #[.int .i32 189] w (NewPost [⟨#[49, 47, 50]⟩] w) := by
  go_enter Tryd.func21, Tryd.ntmps21
  go_wp2
  go_ret
  exact ⟨rfl, rfl⟩
theorem low_190 (w : World) : Calls Tryd.prog 21 #[.int .i32 190] w (NewPost [⟨#[51, 47, 52]⟩] w) := by
  go_enter Tryd.func21, Tryd.ntmps21
  go_wp2
  go_ret
  exact ⟨rfl, rfl⟩
theorem low_191 (w : World) : Calls Tryd.prog 21 #[.int .i32 191] w (NewPost [⟨#[63]⟩] w) := by
  go_enter Tryd.func21, Tryd.ntmps21
  go_wp2
  go_ret
  exact ⟨rfl, rfl⟩
theorem low_some (u : Int) (l : List ByteArray) (h : (u, l) ∈ lowT) (w : World) : Calls Tryd.prog 21 #[.int .i32 u] w (NewPost l w) := by
  simp only [lowT, List.mem_cons, Prod.mk.injEq, List.mem_nil_iff, or_false] at h
  rcases h with ⟨rfl, rfl⟩ | ⟨rfl, rfl⟩ | ⟨rfl, rfl⟩ | ⟨rfl, rfl⟩ | ⟨rfl, rfl⟩ | ⟨rfl, rfl⟩ | ⟨rfl, rfl⟩ | ⟨rfl, rfl⟩ | ⟨rfl, rfl⟩ | ⟨rfl, rfl⟩ | ⟨rfl, rfl⟩ | ⟨rfl, rfl⟩ | ⟨rfl, rfl⟩ | ⟨rfl, rfl⟩ | ⟨rfl, rfl⟩ | ⟨rfl, rfl⟩ | ⟨rfl, rfl⟩ | ⟨rfl, rfl⟩ | ⟨rfl, rfl⟩ | ⟨rfl, rfl⟩ | ⟨rfl, rfl⟩
  · exact low_160 w
  · exact low_161 w
  · exact low_162 w
  · exact low_163 w
  · exact low_165 w
  · exact low_166 w
  · exact low_168 w
  · exact low_169 w
  · exact low_171 w
  · exact low_173 w
  · exact low_174 w
  · exact low_177 w
  · exact low_180 w
  · exact low_181 w
  · exact low_183 w
  · exact low_184 w
  · exact low_187 w
  · exact low_188 w
  · exact low_189 w
  · exact low_190 w
  · exact low_191 w
set_option maxHeartbeats 1600000 in
theorem low_none (u : Int) (h : ∀ t ∈ lowT, t.1 ≠ u) (w : World) : Calls Tryd.prog 21 #[.int .i32 u] w fun e w' => e = .returned (.slice none 0 0) ∧ w = w' := by
  have q160 : (u == 160) = false := by have := h (160, [⟨#[32]⟩]) (by simp [lowT]); simp at this; simp; omega
  have q161 : (u == 161) = false := by have := h (161, [⟨#[33]⟩]) (by simp [lowT]); simp at this; simp; omega
  have q162 : (u == 162) = false := by have := h (162, [⟨#[99]⟩]) (by simp [lowT]); simp at this; simp; omega
  have q163 : (u == 163) = false := by have := h (163, [⟨#[71, 66, 80]⟩, ⟨#[76]⟩]) (by simp [lowT]); simp at this; simp; omega
  have q165 : (u == 165) = false := by have := h (165, [⟨#[74, 80, 89]⟩, ⟨#[89]⟩]) (by simp [lowT]); simp at this; simp; omega
  have q166 : (u == 166) = false := by have := h (166, [⟨#[33]⟩]) (by simp [lowT]); simp at this; simp; omega
  have q168 : (u == 168) = false := by have := h (168, [⟨#[34]⟩]) (by simp [lowT]); simp at this; simp; omega
  have q169 : (u == 169) = false := by have := h (169, [⟨#[40, 67, 41]⟩, ⟨#[67]⟩]) (by simp [lowT]); simp at this; simp; omega
  have q171 : (u == 171) = false := by have := h (171, [⟨#[60, 60]⟩, ⟨#[60]⟩, ⟨#[34]⟩]) (by simp [lowT]); simp at this; simp; omega
  have q173 : (u == 173) = false := by have := h (173, [⟨#[45]⟩]) (by simp [lowT]); simp at this; simp; omega
  have q174 : (u == 174) = false := by have := h (174, [⟨#[40, 82, 41]⟩, ⟨#[82]⟩]) (by simp [lowT]); simp at this; simp; omega
  have q177 : (u == 177) = false := by have := h (177, [⟨#[43, 47, 45]⟩, ⟨#[43]⟩]) (by simp [lowT]); simp at this; simp; omega
  have q180 : (u == 180) = false := by have := h (180, [⟨#[39]⟩]) (by simp [lowT]); simp at this; simp; omega
  have q181 : (u == 181) = false := by have := h (181, [⟨#[117]⟩]) (by simp [lowT]); simp at this; simp; omega
  have q183 : (u == 183) = false := by have := h (183, [⟨#[46]⟩]) (by simp [lowT]); simp at this; simp; omega
  have q184 : (u == 184) = false := by have := h (184, [⟨#[44]⟩]) (by simp [lowT]); simp at this; simp; omega
  have q187 : (u == 187) = false := by have := h (187, [⟨#[62, 62]⟩, ⟨#[62]⟩, ⟨#[34]⟩]) (by simp [lowT]); simp at this; simp; omega
  have q188 : (u == 188) = false := by have := h (188, [⟨#[49, 47, 52]⟩]) (by simp [lowT]); simp at this; simp; omega
  have q189 : (u == 189) = false := by have := h (189, [⟨#[49, 47, 50]⟩]) (by simp [lowT]); simp at this; simp; omega
  have q190 : (u == 190) = false := by have := h (190, [⟨#[51, 47, 52]⟩]) (by simp [lowT]); simp at this; simp; omega
  have q191 : (u == 191) = false := by have := h (191, [⟨#[63]⟩]) (by simp [lowT]); simp at this; simp; omega
  clear h
  go_enter Tryd.func21, Tryd.ntmps21
  go_wp2
  go_ret
  exact ⟨rfl, rfl⟩
def highT : List (Int × List ByteArray) := [(196, [⟨#[65, 101]⟩, ⟨#[65]⟩]), (197, [⟨#[65, 97]⟩, ⟨#[65]⟩]), (198, [⟨#[65, 69]⟩]), (214, [⟨#[79, 101]⟩, ⟨#[79]⟩]), (220, [⟨#[85, 101]⟩, ⟨#[85]⟩]), (222, [⟨#[84, 104]⟩]), (223, [⟨#[115, 115]⟩]), (228, [⟨#[97, 101]⟩, ⟨#[97]⟩]), (229, [⟨#[97, 97]⟩, ⟨#[97]⟩]), (230, [⟨#[97, 101]⟩]), (246, [⟨#[111, 101]⟩, ⟨#[111]⟩]), (252, [⟨#[117, 101]⟩, ⟨#[117]⟩]), (254, [⟨#[116, 104]⟩]), (272, [⟨#[68]⟩]), (273, [⟨#[100]⟩]), (305, [⟨#[105]⟩]), (321, [⟨#[76]⟩]), (322, [⟨#[108]⟩]), (338, [⟨#[79, 69]⟩]), (339, [⟨#[111, 101]⟩]), (402, [⟨#[102]⟩])]
theorem high_196 (w : World) : Calls Tryd.prog 22 #[.int .i32 196] w (NewPost [⟨#[65, 101]⟩, ⟨#[65]⟩] w) := by
  go_enter Tryd.func22, Tryd.ntmps22
  go_wp2
  go_ret
  exact ⟨rfl, rfl⟩
theorem high_197 (w : World) : Calls Tryd.prog 22 #[.int .i32 197] w (NewPost [⟨#[65, 97]⟩, ⟨#[65]⟩] w) := by
  go_enter Tryd.func22, Tryd.ntmps22
  go_wp2
  go_ret
  exact ⟨rfl, rfl⟩
theorem high_198 (w : World) : Calls Tryd.prog 22 #[.int .i32 198] w (NewPost [⟨#[65, 69]⟩] w) := by
  go_enter Tryd.func22, Tryd.ntmps22
  go_wp2
  go_ret
  exact ⟨rfl, rfl⟩
theorem high_214 (w : World) : Calls Tryd.prog 22 #[.int .i32 214] w (NewPost [⟨#[79, 101]⟩, ⟨#[79]⟩] w) := by
  go_enter Tryd.func22, Tryd.ntmps22
  go_wp2
  go_ret
  exact ⟨rfl, rfl⟩
theorem high_220 (w : World) : Calls Tryd.prog 22 #[.int .i32 220] w (NewPost [⟨#[85, 101]⟩, ⟨#[85]⟩] w) := by
  go_enter Tryd.func22, Tryd.ntmps22
  go_wp2
  go_ret
  exact ⟨rfl, rfl⟩
theorem high_222 (w : World) : Calls Tryd.prog 22 #[.int .i32 222] w (NewPost [⟨#[84, 104]⟩] w) := by
  go_enter Tryd.func22, Tryd.ntmps22
  go_wp2
  go_ret
  exact ⟨rfl, rfl⟩
theorem high_223 (w : World) : Calls Tryd.prog 22 #[.int .i32 223] w (NewPost [⟨#[115, 115]⟩] w) := by
  go_enter Tryd.func22, Tryd.ntmps22
  go_wp2
  go_ret
  exact ⟨rfl, rfl⟩
theorem high_228 (w : World) : Calls Tryd.prog 22 #[.int .i32 228] w (NewPost [⟨#[97, 101]⟩, ⟨#[97]⟩] w) := by
  go_enter Tryd.func22, Tryd.ntmps22
  go_wp2
  go_ret
  exact ⟨rfl, rfl⟩
theorem high_229 (w : World) : Calls Tryd.prog 22 #[.int .i32 229] w (NewPost [⟨#[97, 97]⟩, ⟨#[97]⟩] w) := by
  go_enter Tryd.func22, Tryd.ntmps22
  go_wp2
  go_ret
  exact ⟨rfl, rfl⟩
theorem high_230 (w : World) : Calls Tryd.prog 22 #[.int .i32 230] w (NewPost [⟨#[97, 101]⟩] w) := by
  go_enter Tryd.func22, Tryd.ntmps22
  go_wp2
  go_ret
  exact ⟨rfl, rfl⟩
theorem high_246 (w : World) : Calls Tryd.prog 22 #[.int .i32 246] w (NewPost [⟨#[111, 101]⟩, ⟨#[111]⟩] w) := by
  go_enter Tryd.func22, Tryd.ntmps22
  go_wp2
  go_ret
  exact ⟨rfl, rfl⟩
theorem high_252 (w : World) : Calls Tryd.prog 22 #[.int .i32 252] w (NewPost [⟨#[117, 101]⟩, ⟨#[117]⟩] w) := by
  go_enter Tryd.func22, Tryd.ntmps22
  go_wp2
  go_ret
  exact ⟨rfl, rfl⟩
theorem high_254 (w : World) : Calls Tryd.prog 22 #[.int .i32 254] w (NewPost [⟨#[116, 104]⟩] w) := by
  go_enter Tryd.func22, Tryd.ntmps22
  go_wp2
  go_ret
  exact ⟨rfl, rfl⟩
theorem high_272 (w : World) : Calls Tryd.prog 22 #[.int .i32 272] w (NewPost [⟨#[68]⟩] w) := by
  go_enter Tryd.func22, Tryd.ntmps22
  go_wp2
  go_ret
  exact ⟨rfl, rfl⟩
theorem high_273 (w : World) : Calls Tryd.prog 22 #[.int .i32 273] w (NewPost [⟨#[100]⟩] w) := by
  go_enter Tryd.func22, Tryd.ntmps22
  go_wp2
  go_ret
  exact ⟨rfl, rfl⟩
theorem high_305 (w : World) : Calls Tryd.prog 22 #[.int .i32 305] w (NewPost [⟨#[105]⟩] w) := by
  go_enter Tryd.func22, Tryd.ntmps22
  go_wp2
  go_ret
  exact ⟨rfl, rfl⟩
theorem high_321 (w : World) : Calls Tryd.prog 22 #[.int .i32 321] w (NewPost [⟨#[76]⟩] w) := by
  go_enter Tryd.func22, Tryd.ntmps22
  go_wp2
  go_ret
  exact ⟨rfl, rfl⟩
theorem high_322 (w : World) : Calls Tryd.prog 22 #[.int .i32 322] w (NewPost [⟨#[108]⟩] w) := by
  go_enter Tryd.func22, Tryd.ntmps22
  go_wp2
  go_ret
  exact ⟨rfl, rfl⟩
theorem high_338 (w : World) : Calls Tryd.prog 22 #[.int .i32 338] w (NewPost [⟨#[79, 69]⟩] w) := by
  go_enter Tryd.func22, Tryd.ntmps22
  go_wp2
  go_ret
  exact ⟨rfl, rfl⟩
theorem high_339 (w : World) : Calls Tryd.prog 22 #[.int .i32 339] w (NewPost [⟨#[111, 101]⟩] w) := by
  go_enter Tryd.func22, Tryd.ntmps22
  go_wp2
  go_ret
  exact ⟨rfl, rfl⟩
theorem high_402 (w : World) : Calls Tryd.prog 22 #[.int .i32 402] w (NewPost [⟨#[102]⟩] w) := by
  go_enter Tryd.func22, Tryd.ntmps22
  go_wp2
  go_ret
  exact ⟨rfl, rfl⟩
theorem high_some (u : Int) (l : List ByteArray) (h : (u, l) ∈ highT) (w : World) : Calls Tryd.prog 22 #[.int .i32 u] w (NewPost l w) := by
  simp only [highT, List.mem_cons, Prod.mk.injEq, List.mem_nil_iff, or_false] at h
  rcases h with ⟨rfl, rfl⟩ | ⟨rfl, rfl⟩ | ⟨rfl, rfl⟩ | ⟨rfl, rfl⟩ | ⟨rfl, rfl⟩ | ⟨rfl, rfl⟩ | ⟨rfl, rfl⟩ | ⟨rfl, rfl⟩ | ⟨rfl, rfl⟩ | ⟨rfl, rfl⟩ | ⟨rfl, rfl⟩ | ⟨rfl, rfl⟩ | ⟨rfl, rfl⟩ | ⟨rfl, rfl⟩ | ⟨rfl, rfl⟩ | ⟨rfl, rfl⟩ | ⟨rfl, rfl⟩ | ⟨rfl, rfl⟩ | ⟨rfl, rfl⟩ | ⟨rfl, rfl⟩ | ⟨rfl, rfl⟩
  · exact high_196 w
  · exact high_197 w
  · exact high_198 w
  · exact high_214 w
  · exact high_220 w
  · exact high_222 w
  · exact high_223 w
  · exact high_228 w
  · exact high_229 w
  · exact high_230 w
  · exact high_246 w
  · exact high_252 w
  · exact high_254 w
  · exact high_272 w
  · exact high_273 w
  · exact high_305 w
  · exact high_321 w
  · exact high_322 w
  · exact high_338 w
  · exact high_339 w
  · exact high_402 w
set_option maxHeartbeats 1600000 in
theorem high_none (u : Int) (h : ∀ t ∈ highT, t.1 ≠ u) (w : World) : Calls Tryd.prog 22 #[.int .i32 u] w fun e w' => e = .returned (.slice none 0 0) ∧ w = w' := by
  have q196 : (u == 196) = false := by have := h (196, [⟨#[65, 101]⟩, ⟨#[65]⟩]) (by simp [highT]); simp at this; simp; omega
  have q197 : (u == 197) = false := by have := h (197, [⟨#[65, 97]⟩, ⟨#[65]⟩]) (by simp [highT]); simp at this; simp; omega
  have q198 : (u == 198) = false := by have := h (198, [⟨#[65, 69]⟩]) (by simp [highT]); simp at this; simp; omega
  have q214 : (u == 214) = false := by have := h (214, [⟨#[79, 101]⟩, ⟨#[79]⟩]) (by simp [highT]); simp at this; simp; omega
  have q220 : (u == 220) = false := by have := h (220, [⟨#[85, 101]⟩, ⟨#[85]⟩]) (by simp [highT]); simp at this; simp; omega
  have q222 : (u == 222) = false := by have := h (222, [⟨#[84, 104]⟩]) (by simp [highT]); simp at this; simp; omega
  have q223 : (u == 223) = false := by have := h (223, [⟨#[115, 115]⟩]) (by simp [highT]); simp at this; simp; omega
  have q228 : (u == 228) = false := by have := h (228, [⟨#[97, 101]⟩, ⟨#[97]⟩]) (by simp [highT]); simp at this; simp; omega
  have q229 : (u == 229) = false := by have := h (229, [⟨#[97, 97]⟩, ⟨#[97]⟩]) (by simp [highT]); simp at this; simp; omega
  have q230 : (u == 230) = false := by have := h (230, [⟨#[97, 101]⟩]) (by simp [highT]); simp at this; simp; omega
  have q246 : (u == 246) = false := by have := h (246, [⟨#[111, 101]⟩, ⟨#[111]⟩]) (by simp [highT]); simp at this; simp; omega
  have q252 : (u == 252) = false := by have := h (252, [⟨#[117, 101]⟩, ⟨#[117]⟩]) (by simp [highT]); simp at this; simp; omega
  have q254 : (u == 254) = false := by have := h (254, [⟨#[116, 104]⟩]) (by simp [highT]); simp at this; simp; omega
  have q272 : (u == 272) = false := by have := h (272, [⟨#[68]⟩]) (by simp [highT]); simp at this; simp; omega
  have q273 : (u == 273) = false := by have := h (273, [⟨#[100]⟩]) (by simp [highT]); simp at this; simp; omega
  have q305 : (u == 305) = false := by have := h (305, [⟨#[105]⟩]) (by simp [highT]); simp at this; simp; omega
  have q321 : (u == 321) = false := by have := h (321, [⟨#[76]⟩]) (by simp [highT]); simp at this; simp; omega
  have q322 : (u == 322) = false := by have := h (322, [⟨#[108]⟩]) (by simp [highT]); simp at this; simp; omega
  have q338 : (u == 338) = false := by have := h (338, [⟨#[79, 69]⟩]) (by simp [highT]); simp at this; simp; omega
  have q339 : (u == 339) = false := by have := h (339, [⟨#[111, 101]⟩]) (by simp [highT]); simp at this; simp; omega
  have q402 : (u == 402) = false := by have := h (402, [⟨#[102]⟩]) (by simp [highT]); simp at this; simp; omega
  clear h
  go_enter Tryd.func22, Tryd.ntmps22
  go_wp2
  go_ret
  exact ⟨rfl, rfl⟩
def marksT : List (Int × List ByteArray) := [(8211, [⟨#[45]⟩]), (8212, [⟨#[45, 45]⟩, ⟨#[45]⟩]), (8213, [⟨#[45, 45]⟩, ⟨#[45]⟩]), (8216, [⟨#[96]⟩, ⟨#[39]⟩]), (8217, [⟨#[194, 180]⟩, ⟨#[39]⟩]), (8218, [⟨#[44]⟩]), (8220, [⟨#[194, 171]⟩, ⟨#[34]⟩]), (8221, [⟨#[194, 187]⟩, ⟨#[34]⟩]), (8222, [⟨#[44, 44]⟩, ⟨#[34]⟩]), (8224, [⟨#[43]⟩]), (8226, [⟨#[194, 183]⟩, ⟨#[111]⟩, ⟨#[42]⟩]), (8230, [⟨#[46, 46, 46]⟩, ⟨#[46]⟩]), (8240, [⟨#[111, 47, 111, 111]⟩]), (8249, [⟨#[60]⟩]), (8250, [⟨#[62]⟩]), (8361, [⟨#[87]⟩]), (8364, [⟨#[69, 85, 82]⟩, ⟨#[69]⟩]), (8482, [⟨#[84, 77]⟩, ⟨#[84]⟩]), (8722, [⟨#[45]⟩]), (8800, [⟨#[47, 61]⟩, ⟨#[33, 61]⟩]), (8804, [⟨#[60, 61]⟩, ⟨#[60]⟩]), (8805, [⟨#[62, 61]⟩, ⟨#[62]⟩]), (12288, [⟨#[32, 32]⟩, ⟨#[32]⟩]), (64257, [⟨#[102, 105]⟩]), (64258, [⟨#[102, 108]⟩])]
theorem marks_8211 (w : World) : Calls Tryd.prog 23 #[.int .i32 8211] w (NewPost [⟨#[45]⟩] w) := by
  go_enter Tryd.func23, Tryd.ntmps23
  go_wp2
  go_ret
  exact ⟨rfl, rfl⟩
theorem marks_8212 (w : World) : Calls Tryd.prog 23 #[.int .i32 8212] w (NewPost [⟨#[45, 45]⟩, ⟨#[45]⟩] w) := by
  go_enter Tryd.func23, Tryd.ntmps23
  go_wp2
  go_ret
  exact ⟨rfl, rfl⟩
theorem marks_8213 (w : World) : Calls Tryd.prog 23 #[.int .i32 8213] w (NewPost [⟨#[45, 45]⟩, ⟨#[45]⟩] w) := by
  go_enter Tryd.func23, Tryd.ntmps23
  go_wp2
  go_ret
  exact ⟨rfl, rfl⟩
theorem marks_8216 (w : World) : Calls Tryd.prog 23 #[.int .i32 8216] w (NewPost [⟨#[96]⟩, ⟨#[39]⟩] w) := by
  go_enter Tryd.func23, Tryd.ntmps23
  go_wp2
  go_ret
  exact ⟨rfl, rfl⟩
theorem marks_8217 (w : World) : Calls Tryd.prog 23 #[.int .i32 8217] w (NewPost [⟨#[194, 180]⟩, ⟨#[39]⟩] w) := by
  go_enter Tryd.func23, Tryd.ntmps23
  go_wp2
  go_ret
  exact ⟨rfl, rfl⟩
theorem marks_8218 (w : World) : Calls Tryd.prog 23 #[.int .i32 8218] w (NewPost [⟨#[44]⟩] w) := by
  go_enter Tryd.func23, Tryd.ntmps23
  go_wp2
  go_ret
  exact ⟨rfl, rfl⟩
theorem marks_8220 (w : World) : Calls Tryd.prog 23 #[.int .i32 8220] w (NewPost [⟨#[194, 171]⟩, ⟨#[34]⟩] w) := by
  go_enter Tryd.func23, Tryd.ntmps23
  go_wp2
  go_ret
  exact ⟨rfl, rfl⟩
theorem marks_8221 (w : World) : Calls Tryd.prog 23 #[.int .i32 8221] w (NewPost [⟨#[194, 187]⟩, ⟨#[34]⟩] w) := by
  go_enter Tryd.func23, Tryd.ntmps23
  go_wp2
  go_ret
  exact ⟨rfl, rfl⟩
theorem marks_8222 (w : World) : Calls Tryd.prog 23 #[.int .i32 8222] w (NewPost [⟨#[44, 44]⟩, ⟨#[34]⟩] w) := by
  go_enter Tryd.func23, Tryd.ntmps23
  go_wp2
  go_ret
  exact ⟨rfl, rfl⟩
theorem marks_8224 (w : World) : Calls Tryd.prog 23 #[.int .i32 8224] w (NewPost [⟨#[43]⟩] w) := by
  go_enter Tryd.func23, Tryd.ntmps23
  go_wp2
  go_ret
  exact ⟨rfl, rfl⟩
theorem marks_8226 (w : World) : Calls Tryd.prog 23 #[.int .i32 8226] w (NewPost [⟨#[194, 183]⟩, ⟨#[111]⟩, ⟨#[42]⟩] w) := by
  go_enter Tryd.func23, Tryd.ntmps23
  go_wp2
  go_ret
  exact ⟨rfl, rfl⟩
theorem marks_8230 (w : World) : Calls Tryd.prog 23 #[.int .i32 8230] w (NewPost [⟨#[46, 46, 46]⟩, ⟨#[46]⟩] w) := by
  go_enter Tryd.func23, Tryd.ntmps23
  go_wp2
  go_ret
  exact ⟨rfl, rfl⟩
theorem marks_8240 (w : World) : Calls Tryd.prog 23 #[.int .i32 8240] w (NewPost [⟨#[111, 47, 111, 111]⟩] w) := by
  go_enter Tryd.func23, Tryd.ntmps23
  go_wp2
  go_ret
  exact ⟨rfl, rfl⟩
theorem marks_8249 (w : World) : Calls Tryd.prog 23 #[.int .i32 8249] w (NewPost [⟨#[60]⟩] w) := by
  go_enter Tryd.func23, Tryd.ntmps23
  go_wp2
  go_ret
  exact ⟨rfl, rfl⟩
theorem marks_8250 (w : World) : Calls Tryd.prog 23 #[.int .i32 8250] w (NewPost [⟨#[62]⟩] w) := by
  go_enter Tryd.func23, Tryd.ntmps23
  go_wp2
  go_ret
  exact ⟨rfl, rfl⟩
theorem marks_8361 (w : World) : Calls Tryd.prog 23 #[.int .i32 8361] w (NewPost [⟨#[87]⟩] w) := by
  go_enter Tryd.func23, Tryd.ntmps23
  go_wp2
  go_ret
  exact ⟨rfl, rfl⟩
theorem marks_8364 (w : World) : Calls Tryd.prog 23 #[.int .i32 8364] w (NewPost [⟨#[69, 85, 82]⟩, ⟨#[69]⟩] w) := by
  go_enter Tryd.func23, Tryd.ntmps23
  go_wp2
  go_ret
  exact ⟨rfl, rfl⟩
theorem marks_8482 (w : World) : Calls Tryd.prog 23 #[.int .i32 8482] w (NewPost [⟨#[84, 77]⟩, ⟨#[84]⟩] w) := by
  go_enter Tryd.func23, Tryd.ntmps23
  go_wp2
  go_ret
  exact ⟨rfl, rfl⟩
theorem marks_8722 (w : World) : Calls Tryd.prog 23 #[.int .i32 8722] w (NewPost [⟨#[45]⟩] w) := by
  go_enter Tryd.func23, Tryd.ntmps23
  go_wp2
  go_ret
  exact ⟨rfl, rfl⟩
theorem marks_8800 (w : World) : Calls Tryd.prog 23 #[.int .i32 8800] w (NewPost [⟨#[47, 61]⟩, ⟨#[33, 61]⟩] w) := by
  go_enter Tryd.func23, Tryd.ntmps23
  go_wp2
  go_ret
  exact ⟨rfl, rfl⟩
theorem marks_8804 (w : World) : Calls Tryd.prog 23 #[.int .i32 8804] w (NewPost [⟨#[60, 61]⟩, ⟨#[60]⟩] w) := by
  go_enter Tryd.func23, Tryd.ntmps23
  go_wp2
  go_ret
  exact ⟨rfl, rfl⟩
theorem marks_8805 (w : World) : Calls Tryd.prog 23 #[.int .i32 8805] w (NewPost [⟨#[62, 61]⟩, ⟨#[62]⟩] w) := by
  go_enter Tryd.func23, Tryd.ntmps23
  go_wp2
  go_ret
  exact ⟨rfl, rfl⟩
theorem marks_12288 (w : World) : Calls Tryd.prog 23 #[.int .i32 12288] w (NewPost [⟨#[32, 32]⟩, ⟨#[32]⟩] w) := by
  go_enter Tryd.func23, Tryd.ntmps23
  go_wp2
  go_ret
  exact ⟨rfl, rfl⟩
theorem marks_64257 (w : World) : Calls Tryd.prog 23 #[.int .i32 64257] w (NewPost [⟨#[102, 105]⟩] w) := by
  go_enter Tryd.func23, Tryd.ntmps23
  go_wp2
  go_ret
  exact ⟨rfl, rfl⟩
theorem marks_64258 (w : World) : Calls Tryd.prog 23 #[.int .i32 64258] w (NewPost [⟨#[102, 108]⟩] w) := by
  go_enter Tryd.func23, Tryd.ntmps23
  go_wp2
  go_ret
  exact ⟨rfl, rfl⟩
theorem marks_some (u : Int) (l : List ByteArray) (h : (u, l) ∈ marksT) (w : World) : Calls Tryd.prog 23 #[.int .i32 u] w (NewPost l w) := by
  simp only [marksT, List.mem_cons, Prod.mk.injEq, List.mem_nil_iff, or_false] at h
  rcases h with ⟨rfl, rfl⟩ | ⟨rfl, rfl⟩ | ⟨rfl, rfl⟩ | ⟨rfl, rfl⟩ | ⟨rfl, rfl⟩ | ⟨rfl, rfl⟩ | ⟨rfl, rfl⟩ | ⟨rfl, rfl⟩ | ⟨rfl, rfl⟩ | ⟨rfl, rfl⟩ | ⟨rfl, rfl⟩ | ⟨rfl, rfl⟩ | ⟨rfl, rfl⟩ | ⟨rfl, rfl⟩ | ⟨rfl, rfl⟩ | ⟨rfl, rfl⟩ | ⟨rfl, rfl⟩ | ⟨rfl, rfl⟩ | ⟨rfl, rfl⟩ | ⟨rfl, rfl⟩ | ⟨rfl, rfl⟩ | ⟨rfl, rfl⟩ | ⟨rfl, rfl⟩ | ⟨rfl, rfl⟩ | ⟨rfl, rfl⟩
  · exact marks_8211 w
  · exact marks_8212 w
  · exact marks_8213 w
  · exact marks_8216 w
  · exact marks_8217 w
  · exact marks_8218 w
  · exact marks_8220 w
  · exact marks_8221 w
  · exact marks_8222 w
  · exact marks_8224 w
  · exact marks_8226 w
  · exact marks_8230 w
  · exact marks_8240 w
  · exact marks_8249 w
  · exact marks_8250 w
  · exact marks_8361 w
  · exact marks_8364 w
  · exact marks_8482 w
  · exact marks_8722 w
  · exact marks_8800 w
  · exact marks_8804 w
  · exact marks_8805 w
  · exact marks_12288 w
  · exact marks_64257 w
  · exact marks_64258 w
set_option maxHeartbeats 1600000 in
theorem marks_none (u : Int) (h : ∀ t ∈ marksT, t.1 ≠ u) (w : World) : Calls Tryd.prog 23 #[.int .i32 u] w fun e w' => e = .returned (.slice none 0 0) ∧ w = w' := by
  have q8211 : (u == 8211) = false := by have := h (8211, [⟨#[45]⟩]) (by simp [marksT]); simp at this; simp; omega
  have q8212 : (u == 8212) = false := by have := h (8212, [⟨#[45, 45]⟩, ⟨#[45]⟩]) (by simp [marksT]); simp at this; simp; omega
  have q8213 : (u == 8213) = false := by have := h (8213, [⟨#[45, 45]⟩, ⟨#[45]⟩]) (by simp [marksT]); simp at this; simp; omega
  have q8216 : (u == 8216) = false := by have := h (8216, [⟨#[96]⟩, ⟨#[39]⟩]) (by simp [marksT]); simp at this; simp; omega
  have q8217 : (u == 8217) = false := by have := h (8217, [⟨#[194, 180]⟩, ⟨#[39]⟩]) (by simp [marksT]); simp at this; simp; omega
  have q8218 : (u == 8218) = false := by have := h (8218, [⟨#[44]⟩]) (by simp [marksT]); simp at this; simp; omega
  have q8220 : (u == 8220) = false := by have := h (8220, [⟨#[194, 171]⟩, ⟨#[34]⟩]) (by simp [marksT]); simp at this; simp; omega
  have q8221 : (u == 8221) = false := by have := h (8221, [⟨#[194, 187]⟩, ⟨#[34]⟩]) (by simp [marksT]); simp at this; simp; omega
  have q8222 : (u == 8222) = false := by have := h (8222, [⟨#[44, 44]⟩, ⟨#[34]⟩]) (by simp [marksT]); simp at this; simp; omega
  have q8224 : (u == 8224) = false := by have := h (8224, [⟨#[43]⟩]) (by simp [marksT]); simp at this; simp; omega
  have q8226 : (u == 8226) = false := by have := h (8226, [⟨#[194, 183]⟩, ⟨#[111]⟩, ⟨#[42]⟩]) (by simp [marksT]); simp at this; simp; omega
  have q8230 : (u == 8230) = false := by have := h (8230, [⟨#[46, 46, 46]⟩, ⟨#[46]⟩]) (by simp [marksT]); simp at this; simp; omega
  have q8240 : (u == 8240) = false := by have := h (8240, [⟨#[111, 47, 111, 111]⟩]) (by simp [marksT]); simp at this; simp; omega
  have q8249 : (u == 8249) = false := by have := h (8249, [⟨#[60]⟩]) (by simp [marksT]); simp at this; simp; omega
  have q8250 : (u == 8250) = false := by have := h (8250, [⟨#[62]⟩]) (by simp [marksT]); simp at this; simp; omega
  have q8361 : (u == 8361) = false := by have := h (8361, [⟨#[87]⟩]) (by simp [marksT]); simp at this; simp; omega
  have q8364 : (u == 8364) = false := by have := h (8364, [⟨#[69, 85, 82]⟩, ⟨#[69]⟩]) (by simp [marksT]); simp at this; simp; omega
  have q8482 : (u == 8482) = false := by have := h (8482, [⟨#[84, 77]⟩, ⟨#[84]⟩]) (by simp [marksT]); simp at this; simp; omega
  have q8722 : (u == 8722) = false := by have := h (8722, [⟨#[45]⟩]) (by simp [marksT]); simp at this; simp; omega
  have q8800 : (u == 8800) = false := by have := h (8800, [⟨#[47, 61]⟩, ⟨#[33, 61]⟩]) (by simp [marksT]); simp at this; simp; omega
  have q8804 : (u == 8804) = false := by have := h (8804, [⟨#[60, 61]⟩, ⟨#[60]⟩]) (by simp [marksT]); simp at this; simp; omega
  have q8805 : (u == 8805) = false := by have := h (8805, [⟨#[62, 61]⟩, ⟨#[62]⟩]) (by simp [marksT]); simp at this; simp; omega
  have q12288 : (u == 12288) = false := by have := h (12288, [⟨#[32, 32]⟩, ⟨#[32]⟩]) (by simp [marksT]); simp at this; simp; omega
  have q64257 : (u == 64257) = false := by have := h (64257, [⟨#[102, 105]⟩]) (by simp [marksT]); simp at this; simp; omega
  have q64258 : (u == 64258) = false := by have := h (64258, [⟨#[102, 108]⟩]) (by simp [marksT]); simp at this; simp; omega
  clear h
  go_enter Tryd.func23, Tryd.ntmps23
  go_wp2
  go_ret
  exact ⟨rfl, rfl⟩
end Go.Proofs.YthafggbmomdkkaaDoor
