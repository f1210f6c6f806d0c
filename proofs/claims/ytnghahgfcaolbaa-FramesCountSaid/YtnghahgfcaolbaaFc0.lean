/- what the functions compute, as plain Lean functions, and that they do -/
import Derived.Test.YtnghahgfcaolbaaN
import Derived.Test.YtnghahgfcaolbaaEqD
import Derived.Test.YtnghahgfcaolbaaProg
namespace Go.Proofs.Ytnghahgfcaolbaa.Mo
open Go Go.RowKit Go.Proofs.Ytnghahgfcaolbaa.SL Go.Proofs.Ytnghahgfcaolbaa.GX
set_option linter.unusedVariables false
set_option linter.unusedSimpArgs false

structure T_api_Access where
  Who : Int
  Kind : Int
  Addr : Int
  A : Int
  B : Int
  OK : Bool
deriving Inhabited, DecidableEq
def enc_T_api_Access (x : T_api_Access) : List Value := [.int .i64 x.Who, .int .i64 x.Kind, .int .i64 x.Addr, .int .i64 x.A, .int .i64 x.B, .bool x.OK]
theorem enc_T_api_Access_ok : Enc enc_T_api_Access 6 := ⟨fun _ => rfl, fun x u h => by simp only [enc_T_api_Access, List.mem_cons, List.not_mem_nil, or_false] at h; rcases h with rfl | rfl | rfl | rfl | rfl | rfl <;> rfl, by decide⟩
theorem eq_T_api_Access (x y : T_api_Access) : eqvs (enc_T_api_Access x) (enc_T_api_Access y) = decide (x = y) := by
  rw [Bool.eq_iff_iff]; cases x; cases y; simp [enc_T_api_Access, eqvs, and_assoc]

structure T_cells_Arena where
  ledger_size : Int
  ledger_mark : Int
  cell : List Int
  log : List T_api_Access
  actor : Int
  watched : Bool
deriving Inhabited, DecidableEq

abbrev ob103 (B : Nat) (S : T_cells_Arena) (a2 : Option Addr) (c2 : Nat) (a3 : Option Addr) (c3 : Nat) : HProp := pts B (.cells #[.int .i64 S.ledger_size, .int .i64 S.ledger_mark, .slice a2 S.cell.length c2, .slice a3 S.log.length c3, .int .i64 S.actor, .bool S.watched] 103)

abbrev ro2 (a : Option Addr) (c : Nat) (l : List Int) : HProp := rowOf 2 1 encZ_i64 (.slice a l.length c) l

abbrev ro96 (a : Option Addr) (c : Nat) (l : List T_api_Access) : HProp := rowOf 96 6 enc_T_api_Access (.slice a l.length c) l

structure T_frames_Table where
  Base : Int
  Frames : Int
deriving Inhabited, DecidableEq
def enc_T_frames_Table (x : T_frames_Table) : List Value := [.int .i64 x.Base, .int .i64 x.Frames]
theorem enc_T_frames_Table_ok : Enc enc_T_frames_Table 2 := ⟨fun _ => rfl, fun x u h => by simp only [enc_T_frames_Table, List.mem_cons, List.not_mem_nil, or_false] at h; rcases h with rfl | rfl <;> rfl, by decide⟩
theorem eq_T_frames_Table (x y : T_frames_Table) : eqvs (enc_T_frames_Table x) (enc_T_frames_Table y) = decide (x = y) := by
  rw [Bool.eq_iff_iff]; cases x; cases y; simp [enc_T_frames_Table, eqvs]

abbrev ob39 (B : Nat) (S : T_frames_Table)  : HProp := pts B (.cells #[.int .i64 S.Base, .int .i64 S.Frames] 39)

structure T_frames_Op where
  head_t_Base : Int
  head_t_Frames : Int
  head_frame : Int
  head_stands : Int
  head_code : Int
  head_v : Int
  kind : Int
  slot : Int
  give : Int
deriving Inhabited, DecidableEq
def enc_T_frames_Op (x : T_frames_Op) : List Value := [.int .i64 x.head_t_Base, .int .i64 x.head_t_Frames, .int .i64 x.head_frame, .int .i64 x.head_stands, .int .i64 x.head_code, .int .i64 x.head_v, .int .i64 x.kind, .int .i64 x.slot, .int .i64 x.give]
theorem enc_T_frames_Op_ok : Enc enc_T_frames_Op 9 := ⟨fun _ => rfl, fun x u h => by simp only [enc_T_frames_Op, List.mem_cons, List.not_mem_nil, or_false] at h; rcases h with rfl | rfl | rfl | rfl | rfl | rfl | rfl | rfl | rfl <;> rfl, by decide⟩
theorem eq_T_frames_Op (x y : T_frames_Op) : eqvs (enc_T_frames_Op x) (enc_T_frames_Op y) = decide (x = y) := by
  rw [Bool.eq_iff_iff]; cases x; cases y; simp [enc_T_frames_Op, eqvs, and_assoc]

abbrev ob50 (B : Nat) (S : T_frames_Op)  : HProp := pts B (.cells #[.int .i64 S.head_t_Base, .int .i64 S.head_t_Frames, .int .i64 S.head_frame, .int .i64 S.head_stands, .int .i64 S.head_code, .int .i64 S.head_v, .int .i64 S.kind, .int .i64 S.slot, .int .i64 S.give] 50)

end Go.Proofs.Ytnghahgfcaolbaa.Mo
