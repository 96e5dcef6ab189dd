/- The reference's Candidates. -/
import Derived.Test.YthafggbmomdkkaaDoorTJ
import Derived.Laws.AppendOwnNone
import Derived.BigQuiet
namespace Go.Proofs.YthafggbmomdkkaaDoor
open Go.RowKit
/-- The bytes of the letters' text. -/
def letL : List Int := [195, 128, 195, 129, 195, 130, 195, 131, 195, 135, 195, 136, 195, 137, 195, 138, 195, 139, 195, 140, 195, 141, 195, 142, 195, 143, 195, 144, 195, 145, 195, 146, 195, 147, 195, 148, 195, 149, 195, 151, 195, 152, 195, 153, 195, 154, 195, 155, 195, 157, 195, 160, 195, 161, 195, 162, 195, 163, 195, 167, 195, 168, 195, 169, 195, 170, 195, 171, 195, 172, 195, 173, 195, 174, 195, 175, 195, 176, 195, 177, 195, 178, 195, 179, 195, 180, 195, 181, 195, 183, 195, 184, 195, 185, 195, 186, 195, 187, 195, 189, 195, 191]
/-- The letters. -/
def lettersL : List Int := [192, 193, 194, 195, 199, 200, 201, 202, 203, 204, 205, 206, 207, 208, 209, 210, 211, 212, 213, 215, 216, 217, 218, 219, 221, 224, 225, 226, 227, 231, 232, 233, 234, 235, 236, 237, 238, 239, 240, 241, 242, 243, 244, 245, 247, 248, 249, 250, 251, 253, 255]
/-- What stands for them. -/
def plainS : ByteArray := ⟨#[65, 65, 65, 65, 67, 69, 69, 69, 69, 73, 73, 73, 73, 68, 78, 79, 79, 79, 79, 120, 79, 85, 85, 85, 89, 97, 97, 97, 97, 99, 101, 101, 101, 101, 105, 105, 105, 105, 100, 110, 111, 111, 111, 111, 58, 111, 117, 117, 117, 121, 121]⟩
theorem let_dec : decU (letL.length + 1) letL = some lettersL := by decide +kernel
theorem let_wf : letL.all (fun x => (Lit.int .u8 x).wf) = true := by decide +kernel
theorem letters_len : lettersL.length = 51 := rfl
theorem cand_letters : (List.range 51).all (fun k => decide (candL (lettersL.getD k 0) = [plainS.extract k (k + 1)])) = true := by decide +kernel
theorem cand_low : lowT.all (fun t => decide (candL t.1 = t.2) && !lettersL.contains t.1 && !(highT.map (·.1)).contains t.1 && !(marksT.map (·.1)).contains t.1 && !(decide (65281 ≤ t.1))) = true := by decide +kernel
theorem cand_high : highT.all (fun t => decide (candL t.1 = t.2) && !lettersL.contains t.1 && !(lowT.map (·.1)).contains t.1 && !(marksT.map (·.1)).contains t.1 && !(decide (65281 ≤ t.1))) = true := by decide +kernel
theorem cand_marks : marksT.all (fun t => decide (candL t.1 = t.2) && !lettersL.contains t.1 && !(lowT.map (·.1)).contains t.1 && !(highT.map (·.1)).contains t.1 && !(decide (65281 ≤ t.1))) = true := by decide +kernel
theorem ent_all : entT.all (fun t => lettersL.contains t.1 || (lowT.map (·.1)).contains t.1 || (highT.map (·.1)).contains t.1 || (marksT.map (·.1)).contains t.1) = true := by decide +kernel
end Go.Proofs.YthafggbmomdkkaaDoor
