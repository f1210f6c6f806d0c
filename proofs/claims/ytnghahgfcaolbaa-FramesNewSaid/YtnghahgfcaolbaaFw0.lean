/- what the functions compute, as plain Lean functions, and that they do -/
import Derived.Test.YtnghahgfcaolbaaN
import Derived.Test.YtnghahgfcaolbaaEqD
import Derived.Test.YtnghahgfcaolbaaProg
namespace Go.Proofs.Ytnghahgfcaolbaa.Mo
open Go Go.RowKit Go.Proofs.Ytnghahgfcaolbaa.SL Go.Proofs.Ytnghahgfcaolbaa.GX
set_option linter.unusedVariables false
set_option linter.unusedSimpArgs false

structure T_api_Access where
  Who : Int
  Kind : Int
  Addr : Int
  A : Int
  B : Int
  OK : Bool
deriving Inhabited, DecidableEq
def enc_T_api_Access (x : T_api_Access) : List Value := [.int .i64 x.Who, .int .i64 x.Kind, .int .i64 x.Addr, .int .i64 x.A, .int .i64 x.B, .bool x.OK]
theorem enc_T_api_Access_ok : Enc enc_T_api_Access 6 := ⟨fun _ => rfl, fun x u h => by simp only [enc_T_api_Access, List.mem_cons, List.not_mem_nil, or_false] at h; rcases h with rfl | rfl | rfl | rfl | rfl | rfl <;> rfl, by decide⟩
theorem eq_T_api_Access (x y : T_api_Access) : eqvs (enc_T_api_Access x) (enc_T_api_Access y) = decide (x = y) := by
  rw [Bool.eq_iff_iff]; cases x; cases y; simp [enc_T_api_Access, eqvs, and_assoc]

structure T_plunderref2_Arena where
  Most : Int
  Held : List Int
  On : Bool
  Actor : Int
  Book : List T_api_Access
deriving Inhabited, DecidableEq

abbrev ob34 (B : Nat) (S : T_plunderref2_Arena) (a1 : Option Addr) (c1 : Nat) (a4 : Option Addr) (c4 : Nat) : HProp := pts B (.cells #[.int .i64 S.Most, .slice a1 S.Held.length c1, .bool S.On, .int .i64 S.Actor, .slice a4 S.Book.length c4] 34)

abbrev ro2 (a : Option Addr) (c : Nat) (l : List Int) : HProp := rowOf 2 1 encZ_i64 (.slice a l.length c) l

abbrev ro96 (a : Option Addr) (c : Nat) (l : List T_api_Access) : HProp := rowOf 96 6 enc_T_api_Access (.slice a l.length c) l

structure T_cells_Arena where
  ledger_size : Int
  ledger_mark : Int
  cell : List Int
  log : List T_api_Access
  actor : Int
  watched : Bool
deriving Inhabited, DecidableEq

abbrev ob103 (B : Nat) (S : T_cells_Arena) (a2 : Option Addr) (c2 : Nat) (a3 : Option Addr) (c3 : Nat) : HProp := pts B (.cells #[.int .i64 S.ledger_size, .int .i64 S.ledger_mark, .slice a2 S.cell.length c2, .slice a3 S.log.length c3, .int .i64 S.actor, .bool S.watched] 103)

structure T_api_Act where
  Who : Int
  Kind : Int
  Addr : Int
  A : Int
  B : Int
deriving Inhabited, DecidableEq
def enc_T_api_Act (x : T_api_Act) : List Value := [.int .i64 x.Who, .int .i64 x.Kind, .int .i64 x.Addr, .int .i64 x.A, .int .i64 x.B]
theorem enc_T_api_Act_ok : Enc enc_T_api_Act 5 := ⟨fun _ => rfl, fun x u h => by simp only [enc_T_api_Act, List.mem_cons, List.not_mem_nil, or_false] at h; rcases h with rfl | rfl | rfl | rfl | rfl <;> rfl, by decide⟩
theorem eq_T_api_Act (x y : T_api_Act) : eqvs (enc_T_api_Act x) (enc_T_api_Act y) = decide (x = y) := by
  rw [Bool.eq_iff_iff]; cases x; cases y; simp [enc_T_api_Act, eqvs, and_assoc]

structure T_api_Effect where
  V : Int
  OK : Bool
  Err : Int
deriving Inhabited, DecidableEq
def enc_T_api_Effect (x : T_api_Effect) : List Value := [.int .i64 x.V, .bool x.OK, .int .i64 x.Err]
theorem enc_T_api_Effect_ok : Enc enc_T_api_Effect 3 := ⟨fun _ => rfl, fun x u h => by simp only [enc_T_api_Effect, List.mem_cons, List.not_mem_nil, or_false] at h; rcases h with rfl | rfl | rfl <;> rfl, by decide⟩
theorem eq_T_api_Effect (x y : T_api_Effect) : eqvs (enc_T_api_Effect x) (enc_T_api_Effect y) = decide (x = y) := by
  rw [Bool.eq_iff_iff]; cases x; cases y; simp [enc_T_api_Effect, eqvs, and_assoc]

abbrev ob66 (B : Nat) (S : T_api_Effect)  : HProp := pts B (.cells #[.int .i64 S.V, .bool S.OK, .int .i64 S.Err] 66)

abbrev ob69 (B : Nat) (S : T_api_Act)  : HProp := pts B (.cells #[.int .i64 S.Who, .int .i64 S.Kind, .int .i64 S.Addr, .int .i64 S.A, .int .i64 S.B] 69)

abbrev ob96 (B : Nat) (S : T_api_Access)  : HProp := pts B (.cells #[.int .i64 S.Who, .int .i64 S.Kind, .int .i64 S.Addr, .int .i64 S.A, .int .i64 S.B, .bool S.OK] 96)

structure T_plunderref8_Table where
  Base : Int
  Frames : Int
deriving Inhabited, DecidableEq
def enc_T_plunderref8_Table (x : T_plunderref8_Table) : List Value := [.int .i64 x.Base, .int .i64 x.Frames]
theorem enc_T_plunderref8_Table_ok : Enc enc_T_plunderref8_Table 2 := ⟨fun _ => rfl, fun x u h => by simp only [enc_T_plunderref8_Table, List.mem_cons, List.not_mem_nil, or_false] at h; rcases h with rfl | rfl <;> rfl, by decide⟩
theorem eq_T_plunderref8_Table (x y : T_plunderref8_Table) : eqvs (enc_T_plunderref8_Table x) (enc_T_plunderref8_Table y) = decide (x = y) := by
  rw [Bool.eq_iff_iff]; cases x; cases y; simp [enc_T_plunderref8_Table, eqvs]

abbrev ob36 (B : Nat) (S : T_plunderref8_Table)  : HProp := pts B (.cells #[.int .i64 S.Base, .int .i64 S.Frames] 36)

structure T_frames_Table where
  Base : Int
  Frames : Int
deriving Inhabited, DecidableEq
def enc_T_frames_Table (x : T_frames_Table) : List Value := [.int .i64 x.Base, .int .i64 x.Frames]
theorem enc_T_frames_Table_ok : Enc enc_T_frames_Table 2 := ⟨fun _ => rfl, fun x u h => by simp only [enc_T_frames_Table, List.mem_cons, List.not_mem_nil, or_false] at h; rcases h with rfl | rfl <;> rfl, by decide⟩
theorem eq_T_frames_Table (x y : T_frames_Table) : eqvs (enc_T_frames_Table x) (enc_T_frames_Table y) = decide (x = y) := by
  rw [Bool.eq_iff_iff]; cases x; cases y; simp [enc_T_frames_Table, eqvs]

abbrev ob39 (B : Nat) (S : T_frames_Table)  : HProp := pts B (.cells #[.int .i64 S.Base, .int .i64 S.Frames] 39)

end Go.Proofs.Ytnghahgfcaolbaa.Mo
