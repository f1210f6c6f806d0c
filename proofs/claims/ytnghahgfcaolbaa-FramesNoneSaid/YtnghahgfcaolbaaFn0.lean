/- what the functions compute, as plain Lean functions, and that they do -/
import Derived.Test.YtnghahgfcaolbaaN
import Derived.Test.YtnghahgfcaolbaaEqD
import Derived.Test.YtnghahgfcaolbaaProg
namespace Go.Proofs.Ytnghahgfcaolbaa.Mo
open Go Go.RowKit Go.Proofs.Ytnghahgfcaolbaa.SL Go.Proofs.Ytnghahgfcaolbaa.GX
set_option linter.unusedVariables false
set_option linter.unusedSimpArgs false

structure T_frames_Table where
  Base : Int
  Frames : Int
deriving Inhabited, DecidableEq
def enc_T_frames_Table (x : T_frames_Table) : List Value := [.int .i64 x.Base, .int .i64 x.Frames]
theorem enc_T_frames_Table_ok : Enc enc_T_frames_Table 2 := ⟨fun _ => rfl, fun x u h => by simp only [enc_T_frames_Table, List.mem_cons, List.not_mem_nil, or_false] at h; rcases h with rfl | rfl <;> rfl, by decide⟩
theorem eq_T_frames_Table (x y : T_frames_Table) : eqvs (enc_T_frames_Table x) (enc_T_frames_Table y) = decide (x = y) := by
  rw [Bool.eq_iff_iff]; cases x; cases y; simp [enc_T_frames_Table, eqvs]

abbrev ob39 (B : Nat) (S : T_frames_Table)  : HProp := pts B (.cells #[.int .i64 S.Base, .int .i64 S.Frames] 39)

structure T_frames_Op where
  head_t_Base : Int
  head_t_Frames : Int
  head_frame : Int
  head_stands : Int
  head_code : Int
  head_v : Int
  kind : Int
  slot : Int
  give : Int
deriving Inhabited, DecidableEq
def enc_T_frames_Op (x : T_frames_Op) : List Value := [.int .i64 x.head_t_Base, .int .i64 x.head_t_Frames, .int .i64 x.head_frame, .int .i64 x.head_stands, .int .i64 x.head_code, .int .i64 x.head_v, .int .i64 x.kind, .int .i64 x.slot, .int .i64 x.give]
theorem enc_T_frames_Op_ok : Enc enc_T_frames_Op 9 := ⟨fun _ => rfl, fun x u h => by simp only [enc_T_frames_Op, List.mem_cons, List.not_mem_nil, or_false] at h; rcases h with rfl | rfl | rfl | rfl | rfl | rfl | rfl | rfl | rfl <;> rfl, by decide⟩
theorem eq_T_frames_Op (x y : T_frames_Op) : eqvs (enc_T_frames_Op x) (enc_T_frames_Op y) = decide (x = y) := by
  rw [Bool.eq_iff_iff]; cases x; cases y; simp [enc_T_frames_Op, eqvs, and_assoc]

abbrev ob50 (B : Nat) (S : T_frames_Op)  : HProp := pts B (.cells #[.int .i64 S.head_t_Base, .int .i64 S.head_t_Frames, .int .i64 S.head_frame, .int .i64 S.head_stands, .int .i64 S.head_code, .int .i64 S.head_v, .int .i64 S.kind, .int .i64 S.slot, .int .i64 S.give] 50)

end Go.Proofs.Ytnghahgfcaolbaa.Mo
