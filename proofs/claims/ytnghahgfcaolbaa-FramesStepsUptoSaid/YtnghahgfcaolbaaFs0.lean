/- what the functions compute, as plain Lean functions, and that they do -/
import Derived.Test.YtnghahgfcaolbaaN
import Derived.Test.YtnghahgfcaolbaaEqD
import Derived.Test.YtnghahgfcaolbaaProg
namespace Go.Proofs.Ytnghahgfcaolbaa.Mo
open Go Go.RowKit Go.Proofs.Ytnghahgfcaolbaa.SL Go.Proofs.Ytnghahgfcaolbaa.GX
set_option linter.unusedVariables false
set_option linter.unusedSimpArgs false

structure T_plunderlaw8_Ask where
  Kind : Int
  Frame : Int
  Slot : Int
  V : Int
  Odd : Bool
  Base : Int
  Frames : Int
deriving Inhabited, DecidableEq
def enc_T_plunderlaw8_Ask (x : T_plunderlaw8_Ask) : List Value := [.int .i64 x.Kind, .int .i64 x.Frame, .int .i64 x.Slot, .int .i64 x.V, .bool x.Odd, .int .i64 x.Base, .int .i64 x.Frames]
theorem enc_T_plunderlaw8_Ask_ok : Enc enc_T_plunderlaw8_Ask 7 := ⟨fun _ => rfl, fun x u h => by simp only [enc_T_plunderlaw8_Ask, List.mem_cons, List.not_mem_nil, or_false] at h; rcases h with rfl | rfl | rfl | rfl | rfl | rfl | rfl <;> rfl, by decide⟩
theorem eq_T_plunderlaw8_Ask (x y : T_plunderlaw8_Ask) : eqvs (enc_T_plunderlaw8_Ask x) (enc_T_plunderlaw8_Ask y) = decide (x = y) := by
  rw [Bool.eq_iff_iff]; cases x; cases y; simp [enc_T_plunderlaw8_Ask, eqvs, and_assoc]

structure T_api_Access where
  Who : Int
  Kind : Int
  Addr : Int
  A : Int
  B : Int
  OK : Bool
deriving Inhabited, DecidableEq
def enc_T_api_Access (x : T_api_Access) : List Value := [.int .i64 x.Who, .int .i64 x.Kind, .int .i64 x.Addr, .int .i64 x.A, .int .i64 x.B, .bool x.OK]
theorem enc_T_api_Access_ok : Enc enc_T_api_Access 6 := ⟨fun _ => rfl, fun x u h => by simp only [enc_T_api_Access, List.mem_cons, List.not_mem_nil, or_false] at h; rcases h with rfl | rfl | rfl | rfl | rfl | rfl <;> rfl, by decide⟩
theorem eq_T_api_Access (x y : T_api_Access) : eqvs (enc_T_api_Access x) (enc_T_api_Access y) = decide (x = y) := by
  rw [Bool.eq_iff_iff]; cases x; cases y; simp [enc_T_api_Access, eqvs, and_assoc]

structure T_plunderref2_Arena where
  Most : Int
  Held : List Int
  On : Bool
  Actor : Int
  Book : List T_api_Access
deriving Inhabited, DecidableEq

abbrev ob34 (B : Nat) (S : T_plunderref2_Arena) (a1 : Option Addr) (c1 : Nat) (a4 : Option Addr) (c4 : Nat) : HProp := pts B (.cells #[.int .i64 S.Most, .slice a1 S.Held.length c1, .bool S.On, .int .i64 S.Actor, .slice a4 S.Book.length c4] 34)

abbrev ro2 (a : Option Addr) (c : Nat) (l : List Int) : HProp := rowOf 2 1 encZ_i64 (.slice a l.length c) l

abbrev ro96 (a : Option Addr) (c : Nat) (l : List T_api_Access) : HProp := rowOf 96 6 enc_T_api_Access (.slice a l.length c) l

structure T_cells_Arena where
  ledger_size : Int
  ledger_mark : Int
  cell : List Int
  log : List T_api_Access
  actor : Int
  watched : Bool
deriving Inhabited, DecidableEq

abbrev ob103 (B : Nat) (S : T_cells_Arena) (a2 : Option Addr) (c2 : Nat) (a3 : Option Addr) (c3 : Nat) : HProp := pts B (.cells #[.int .i64 S.ledger_size, .int .i64 S.ledger_mark, .slice a2 S.cell.length c2, .slice a3 S.log.length c3, .int .i64 S.actor, .bool S.watched] 103)

structure T_api_Act where
  Who : Int
  Kind : Int
  Addr : Int
  A : Int
  B : Int
deriving Inhabited, DecidableEq
def enc_T_api_Act (x : T_api_Act) : List Value := [.int .i64 x.Who, .int .i64 x.Kind, .int .i64 x.Addr, .int .i64 x.A, .int .i64 x.B]
theorem enc_T_api_Act_ok : Enc enc_T_api_Act 5 := ⟨fun _ => rfl, fun x u h => by simp only [enc_T_api_Act, List.mem_cons, List.not_mem_nil, or_false] at h; rcases h with rfl | rfl | rfl | rfl | rfl <;> rfl, by decide⟩
theorem eq_T_api_Act (x y : T_api_Act) : eqvs (enc_T_api_Act x) (enc_T_api_Act y) = decide (x = y) := by
  rw [Bool.eq_iff_iff]; cases x; cases y; simp [enc_T_api_Act, eqvs, and_assoc]

structure T_api_Effect where
  V : Int
  OK : Bool
  Err : Int
deriving Inhabited, DecidableEq
def enc_T_api_Effect (x : T_api_Effect) : List Value := [.int .i64 x.V, .bool x.OK, .int .i64 x.Err]
theorem enc_T_api_Effect_ok : Enc enc_T_api_Effect 3 := ⟨fun _ => rfl, fun x u h => by simp only [enc_T_api_Effect, List.mem_cons, List.not_mem_nil, or_false] at h; rcases h with rfl | rfl | rfl <;> rfl, by decide⟩
theorem eq_T_api_Effect (x y : T_api_Effect) : eqvs (enc_T_api_Effect x) (enc_T_api_Effect y) = decide (x = y) := by
  rw [Bool.eq_iff_iff]; cases x; cases y; simp [enc_T_api_Effect, eqvs, and_assoc]

abbrev ob66 (B : Nat) (S : T_api_Effect)  : HProp := pts B (.cells #[.int .i64 S.V, .bool S.OK, .int .i64 S.Err] 66)

abbrev ob69 (B : Nat) (S : T_api_Act)  : HProp := pts B (.cells #[.int .i64 S.Who, .int .i64 S.Kind, .int .i64 S.Addr, .int .i64 S.A, .int .i64 S.B] 69)

abbrev ob96 (B : Nat) (S : T_api_Access)  : HProp := pts B (.cells #[.int .i64 S.Who, .int .i64 S.Kind, .int .i64 S.Addr, .int .i64 S.A, .int .i64 S.B, .bool S.OK] 96)

structure T_plunderref8_Table where
  Base : Int
  Frames : Int
deriving Inhabited, DecidableEq
def enc_T_plunderref8_Table (x : T_plunderref8_Table) : List Value := [.int .i64 x.Base, .int .i64 x.Frames]
theorem enc_T_plunderref8_Table_ok : Enc enc_T_plunderref8_Table 2 := ⟨fun _ => rfl, fun x u h => by simp only [enc_T_plunderref8_Table, List.mem_cons, List.not_mem_nil, or_false] at h; rcases h with rfl | rfl <;> rfl, by decide⟩
theorem eq_T_plunderref8_Table (x y : T_plunderref8_Table) : eqvs (enc_T_plunderref8_Table x) (enc_T_plunderref8_Table y) = decide (x = y) := by
  rw [Bool.eq_iff_iff]; cases x; cases y; simp [enc_T_plunderref8_Table, eqvs]

abbrev ob36 (B : Nat) (S : T_plunderref8_Table)  : HProp := pts B (.cells #[.int .i64 S.Base, .int .i64 S.Frames] 36)

structure T_frames_Table where
  Base : Int
  Frames : Int
deriving Inhabited, DecidableEq
def enc_T_frames_Table (x : T_frames_Table) : List Value := [.int .i64 x.Base, .int .i64 x.Frames]
theorem enc_T_frames_Table_ok : Enc enc_T_frames_Table 2 := ⟨fun _ => rfl, fun x u h => by simp only [enc_T_frames_Table, List.mem_cons, List.not_mem_nil, or_false] at h; rcases h with rfl | rfl <;> rfl, by decide⟩
theorem eq_T_frames_Table (x y : T_frames_Table) : eqvs (enc_T_frames_Table x) (enc_T_frames_Table y) = decide (x = y) := by
  rw [Bool.eq_iff_iff]; cases x; cases y; simp [enc_T_frames_Table, eqvs]

abbrev ob39 (B : Nat) (S : T_frames_Table)  : HProp := pts B (.cells #[.int .i64 S.Base, .int .i64 S.Frames] 39)

abbrev ob76 (B : Nat) (S : T_plunderlaw8_Ask)  : HProp := pts B (.cells #[.int .i64 S.Kind, .int .i64 S.Frame, .int .i64 S.Slot, .int .i64 S.V, .bool S.Odd, .int .i64 S.Base, .int .i64 S.Frames] 76)

structure T_frames_Op where
  head_t_Base : Int
  head_t_Frames : Int
  head_frame : Int
  head_stands : Int
  head_code : Int
  head_v : Int
  kind : Int
  slot : Int
  give : Int
deriving Inhabited, DecidableEq
def enc_T_frames_Op (x : T_frames_Op) : List Value := [.int .i64 x.head_t_Base, .int .i64 x.head_t_Frames, .int .i64 x.head_frame, .int .i64 x.head_stands, .int .i64 x.head_code, .int .i64 x.head_v, .int .i64 x.kind, .int .i64 x.slot, .int .i64 x.give]
theorem enc_T_frames_Op_ok : Enc enc_T_frames_Op 9 := ⟨fun _ => rfl, fun x u h => by simp only [enc_T_frames_Op, List.mem_cons, List.not_mem_nil, or_false] at h; rcases h with rfl | rfl | rfl | rfl | rfl | rfl | rfl | rfl | rfl <;> rfl, by decide⟩
theorem eq_T_frames_Op (x y : T_frames_Op) : eqvs (enc_T_frames_Op x) (enc_T_frames_Op y) = decide (x = y) := by
  rw [Bool.eq_iff_iff]; cases x; cases y; simp [enc_T_frames_Op, eqvs, and_assoc]

abbrev ob50 (B : Nat) (S : T_frames_Op)  : HProp := pts B (.cells #[.int .i64 S.head_t_Base, .int .i64 S.head_t_Frames, .int .i64 S.head_frame, .int .i64 S.head_stands, .int .i64 S.head_code, .int .i64 S.head_v, .int .i64 S.kind, .int .i64 S.slot, .int .i64 S.give] 50)

abbrev ro50 (a : Option Addr) (c : Nat) (l : List T_frames_Op) : HProp := rowOf 50 9 enc_T_frames_Op (.slice a l.length c) l

structure T_plunderref8_Op where
  Kind : Int
  Join : Int
  Cell : Int
  V : Int
  Next : Int
  Frames : Int
  Made : Int
  Code : Int
  Came : Int
deriving Inhabited, DecidableEq
def enc_T_plunderref8_Op (x : T_plunderref8_Op) : List Value := [.int .i64 x.Kind, .int .i64 x.Join, .int .i64 x.Cell, .int .i64 x.V, .int .i64 x.Next, .int .i64 x.Frames, .int .i64 x.Made, .int .i64 x.Code, .int .i64 x.Came]
theorem enc_T_plunderref8_Op_ok : Enc enc_T_plunderref8_Op 9 := ⟨fun _ => rfl, fun x u h => by simp only [enc_T_plunderref8_Op, List.mem_cons, List.not_mem_nil, or_false] at h; rcases h with rfl | rfl | rfl | rfl | rfl | rfl | rfl | rfl | rfl <;> rfl, by decide⟩
theorem eq_T_plunderref8_Op (x y : T_plunderref8_Op) : eqvs (enc_T_plunderref8_Op x) (enc_T_plunderref8_Op y) = decide (x = y) := by
  rw [Bool.eq_iff_iff]; cases x; cases y; simp [enc_T_plunderref8_Op, eqvs, and_assoc]

abbrev ob78 (B : Nat) (S : T_plunderref8_Op)  : HProp := pts B (.cells #[.int .i64 S.Kind, .int .i64 S.Join, .int .i64 S.Cell, .int .i64 S.V, .int .i64 S.Next, .int .i64 S.Frames, .int .i64 S.Made, .int .i64 S.Code, .int .i64 S.Came] 78)

abbrev ro78 (a : Option Addr) (c : Nat) (l : List T_plunderref8_Op) : HProp := rowOf 78 9 enc_T_plunderref8_Op (.slice a l.length c) l

end Go.Proofs.Ytnghahgfcaolbaa.Mo
