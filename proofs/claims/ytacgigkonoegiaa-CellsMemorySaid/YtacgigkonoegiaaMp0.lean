/- what the functions compute, as plain Lean functions, and that they do -/
import Derived.Test.YtacgigkonoegiaaN
import Derived.Test.YtacgigkonoegiaaProg
namespace Go.Proofs.Ytacgigkonoegiaa.Mo
open Go Go.RowKit Go.Proofs.Ytacgigkonoegiaa.SL Go.Proofs.Ytacgigkonoegiaa.GX
set_option linter.unusedVariables false
set_option linter.unusedSimpArgs false

structure T_api_Act where
  Who : Int
  Kind : Int
  Addr : Int
  A : Int
  B : Int
deriving Inhabited, DecidableEq
def enc_T_api_Act (x : T_api_Act) : List Value := [.int .i64 x.Who, .int .i64 x.Kind, .int .i64 x.Addr, .int .i64 x.A, .int .i64 x.B]
theorem enc_T_api_Act_ok : Enc enc_T_api_Act 5 := ⟨fun _ => rfl, fun x u h => by simp only [enc_T_api_Act, List.mem_cons, List.not_mem_nil, or_false] at h; rcases h with rfl | rfl | rfl | rfl | rfl <;> rfl, by decide⟩
theorem eq_T_api_Act (x y : T_api_Act) : eqvs (enc_T_api_Act x) (enc_T_api_Act y) = decide (x = y) := by
  rw [Bool.eq_iff_iff]; cases x; cases y; simp [enc_T_api_Act, eqvs, and_assoc]

abbrev ob57 (B : Nat) (S : T_api_Act)  : HProp := pts B (.cells #[.int .i64 S.Who, .int .i64 S.Kind, .int .i64 S.Addr, .int .i64 S.A, .int .i64 S.B] 57)

abbrev ro57 (a : Option Addr) (c : Nat) (l : List T_api_Act) : HProp := rowOf 57 5 enc_T_api_Act (.slice a l.length c) l

structure T_api_Access where
  Who : Int
  Kind : Int
  Addr : Int
  A : Int
  B : Int
  OK : Bool
deriving Inhabited, DecidableEq
def enc_T_api_Access (x : T_api_Access) : List Value := [.int .i64 x.Who, .int .i64 x.Kind, .int .i64 x.Addr, .int .i64 x.A, .int .i64 x.B, .bool x.OK]
theorem enc_T_api_Access_ok : Enc enc_T_api_Access 6 := ⟨fun _ => rfl, fun x u h => by simp only [enc_T_api_Access, List.mem_cons, List.not_mem_nil, or_false] at h; rcases h with rfl | rfl | rfl | rfl | rfl | rfl <;> rfl, by decide⟩
theorem eq_T_api_Access (x y : T_api_Access) : eqvs (enc_T_api_Access x) (enc_T_api_Access y) = decide (x = y) := by
  rw [Bool.eq_iff_iff]; cases x; cases y; simp [enc_T_api_Access, eqvs, and_assoc]

structure T_cells_Arena where
  ledger_size : Int
  ledger_mark : Int
  cell : List Int
  log : List T_api_Access
  actor : Int
  watched : Bool
deriving Inhabited, DecidableEq

abbrev ob96 (B : Nat) (S : T_cells_Arena) (a2 : Option Addr) (c2 : Nat) (a3 : Option Addr) (c3 : Nat) : HProp := pts B (.cells #[.int .i64 S.ledger_size, .int .i64 S.ledger_mark, .slice a2 S.cell.length c2, .slice a3 S.log.length c3, .int .i64 S.actor, .bool S.watched] 96)

abbrev ro2 (a : Option Addr) (c : Nat) (l : List Int) : HProp := rowOf 2 1 encZ_i64 (.slice a l.length c) l

abbrev ro90 (a : Option Addr) (c : Nat) (l : List T_api_Access) : HProp := rowOf 90 6 enc_T_api_Access (.slice a l.length c) l

structure T_api_Effect where
  V : Int
  OK : Bool
  Err : Int
deriving Inhabited, DecidableEq
def enc_T_api_Effect (x : T_api_Effect) : List Value := [.int .i64 x.V, .bool x.OK, .int .i64 x.Err]
theorem enc_T_api_Effect_ok : Enc enc_T_api_Effect 3 := ⟨fun _ => rfl, fun x u h => by simp only [enc_T_api_Effect, List.mem_cons, List.not_mem_nil, or_false] at h; rcases h with rfl | rfl | rfl <;> rfl, by decide⟩
theorem eq_T_api_Effect (x y : T_api_Effect) : eqvs (enc_T_api_Effect x) (enc_T_api_Effect y) = decide (x = y) := by
  rw [Bool.eq_iff_iff]; cases x; cases y; simp [enc_T_api_Effect, eqvs, and_assoc]

abbrev ob39 (B : Nat) (S : T_api_Effect)  : HProp := pts B (.cells #[.int .i64 S.V, .bool S.OK, .int .i64 S.Err] 39)

abbrev ro39 (a : Option Addr) (c : Nat) (l : List T_api_Effect) : HProp := rowOf 39 3 enc_T_api_Effect (.slice a l.length c) l

structure T_api_CellRun where
  Effects : List T_api_Effect
  Cells : List Int
  Log : List T_api_Access
deriving Inhabited, DecidableEq

abbrev ob70 (B : Nat) (S : T_api_CellRun) (a0 : Option Addr) (c0 : Nat) (a1 : Option Addr) (c1 : Nat) (a2 : Option Addr) (c2 : Nat) : HProp := pts B (.cells #[.slice a0 S.Effects.length c0, .slice a1 S.Cells.length c1, .slice a2 S.Log.length c2] 70)

abbrev ob90 (B : Nat) (S : T_api_Access)  : HProp := pts B (.cells #[.int .i64 S.Who, .int .i64 S.Kind, .int .i64 S.Addr, .int .i64 S.A, .int .i64 S.B, .bool S.OK] 90)

end Go.Proofs.Ytacgigkonoegiaa.Mo
