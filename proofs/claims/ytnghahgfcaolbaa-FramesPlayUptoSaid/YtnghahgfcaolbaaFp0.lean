/- what the functions compute, as plain Lean functions, and that they do -/
import Derived.Test.YtnghahgfcaolbaaOff
import Derived.Test.YtnghahgfcaolbaaTw
import Derived.Test.YtnghahgfcaolbaaC
import Derived.Test.YtnghahgfcaolbaaH
import Derived.Test.YtnghahgfcaolbaaS
import Derived.Test.YtnghahgfcaolbaaEqD
import Derived.Test.YtnghahgfcaolbaaProg
namespace Go.Proofs.Ytnghahgfcaolbaa.Mo
open Go Go.RowKit Go.Proofs.Ytnghahgfcaolbaa.SL Go.Proofs.Ytnghahgfcaolbaa.GX
set_option linter.unusedVariables false
set_option linter.unusedSimpArgs false
set_option maxRecDepth 100000
set_option maxHeartbeats 4000000

structure T_api_Access where
  Who : Int
  Kind : Int
  Addr : Int
  A : Int
  B : Int
  OK : Bool
deriving Inhabited, DecidableEq
def enc_T_api_Access (x : T_api_Access) : List Value := [vI x.Who, vI x.Kind, vI x.Addr, vI x.A, vI x.B, vB x.OK]
abbrev cl_T_api_Access (x : T_api_Access) : List Value := [vI x.Who, vI x.Kind, vI x.Addr, vI x.A, vI x.B, vB x.OK]
abbrev ca_T_api_Access (x : T_api_Access) : Array Value := #[vI x.Who, vI x.Kind, vI x.Addr, vI x.A, vI x.B, vB x.OK]
abbrev ag_T_api_Access (x : T_api_Access) : Value := .agg #[vI x.Who, vI x.Kind, vI x.Addr, vI x.A, vI x.B, vB x.OK]
theorem enc_T_api_Access_ok : Enc enc_T_api_Access 6 := ⟨fun _ => rfl, fun x u h => by simp only [enc_T_api_Access, List.mem_cons, List.not_mem_nil, or_false] at h; rcases h with rfl | rfl | rfl | rfl | rfl | rfl <;> rfl, by decide⟩
theorem eq_T_api_Access (x y : T_api_Access) : eqvs (enc_T_api_Access x) (enc_T_api_Access y) = decide (x = y) := by
  rw [Bool.eq_iff_iff]; cases x; cases y; simp [enc_T_api_Access, eqvs, and_assoc]

structure T_api_JoinRun where
  Done : Bool
  Steps : Int
  Holders : List Int
  Reads : List (List Int)
  Marks : List Int
  Log : List T_api_Access
deriving Inhabited, DecidableEq

structure T_plunderref8_Actor where
  Does : Int
  Frame : Int
  Slot : Int
  V : Int
deriving Inhabited, DecidableEq
def enc_T_plunderref8_Actor (x : T_plunderref8_Actor) : List Value := [vI x.Does, vI x.Frame, vI x.Slot, vI x.V]
abbrev cl_T_plunderref8_Actor (x : T_plunderref8_Actor) : List Value := [vI x.Does, vI x.Frame, vI x.Slot, vI x.V]
abbrev ca_T_plunderref8_Actor (x : T_plunderref8_Actor) : Array Value := #[vI x.Does, vI x.Frame, vI x.Slot, vI x.V]
abbrev ag_T_plunderref8_Actor (x : T_plunderref8_Actor) : Value := .agg #[vI x.Does, vI x.Frame, vI x.Slot, vI x.V]
theorem enc_T_plunderref8_Actor_ok : Enc enc_T_plunderref8_Actor 4 := ⟨fun _ => rfl, fun x u h => by simp only [enc_T_plunderref8_Actor, List.mem_cons, List.not_mem_nil, or_false] at h; rcases h with rfl | rfl | rfl | rfl <;> rfl, by decide⟩
theorem eq_T_plunderref8_Actor (x y : T_plunderref8_Actor) : eqvs (enc_T_plunderref8_Actor x) (enc_T_plunderref8_Actor y) = decide (x = y) := by
  rw [Bool.eq_iff_iff]; cases x; cases y; simp [enc_T_plunderref8_Actor, eqvs, and_assoc]

abbrev ro2 (a : Option Addr) (c : Nat) (l : List Int) : HProp := rowOf 2 1 encZ_i64 (.slice a l.length c) l

structure T_plunderref8_Scene where
  Round : Int
  Forked : Int
  Fetched : Int
  Join : Int
  Slots_0 : Int
  Slots_1 : Int
  Slots_2 : Int
  Slots_3 : Int
  Slots_4 : Int
  Slots_5 : Int
  Slots_6 : Int
  Slots_7 : Int
  Marks : List Int
  Taken : Int
  Actors : List T_plunderref8_Actor
  Run_Done : Bool
  Run_Steps : Int
  Run_Holders : List Int
  Run_Reads : List (List Int)
  Run_Marks : List Int
  Run_Log : List T_api_Access
deriving Inhabited, DecidableEq

def own_sl31 (x : List Int) (cs : List Value) : HProp := exs fun ca_1 : Option Addr => exs fun cc_2 : Nat => sepL [pur (cs = [.slice ca_1 x.length cc_2]), ro2 ca_1 cc_2 x]
theorem own_sl31_op {z w : World} {L : List HProp} {x : List Int} {cs : List Value} (h : Fit z (sepL (own_sl31 x cs :: L)) w) : ∃ ca_1 : Option Addr, ∃ cc_2 : Nat, cs = [.slice ca_1 x.length cc_2] ∧ Fit z (sepL (ro2 ca_1 cc_2 x :: L)) w := by
  unfold own_sl31 at h
  obtain ⟨ca_1, h⟩ := h.open_exs
  obtain ⟨cc_2, h⟩ := h.open_exs
  have h := h.open_sepL
  obtain ⟨e, h⟩ := h.open_pur
  exact ⟨ca_1, cc_2, e, h⟩
theorem own_sl31_sh {z w : World} {L : List HProp} {x : List Int} {ca_1 : Option Addr} {cc_2 : Nat} (h : Fit z (sepL (ro2 ca_1 cc_2 x :: L)) w) : Fit z (sepL (own_sl31 x [.slice ca_1 x.length cc_2] :: L)) w := by
  unfold own_sl31
  refine Fit.shut_exs ca_1 ?_
  refine Fit.shut_exs cc_2 ?_
  refine Fit.shut_sepL (pur (([.slice ca_1 x.length cc_2] : List Value) = [.slice ca_1 x.length cc_2]) :: ro2 ca_1 cc_2 x :: []) L ?_
  exact h.shut_pur rfl

abbrev ob128 (B : Nat) (S : T_plunderref8_Scene) (k0 : Value) (a13 : Option Addr) (c13 : Nat) (a15 : Option Addr) (c15 : Nat) (a18 : Option Addr) (c18 : Nat) (a19 : Option Addr) (c19 : Nat) (a20 : Option Addr) (c20 : Nat) (a21 : Option Addr) (c21 : Nat) : HProp := pts B (.cells #[k0, vI S.Round, vI S.Forked, vI S.Fetched, vI S.Join, vI S.Slots_0, vI S.Slots_1, vI S.Slots_2, vI S.Slots_3, vI S.Slots_4, vI S.Slots_5, vI S.Slots_6, vI S.Slots_7, .slice a13 S.Marks.length c13, vI S.Taken, .slice a15 S.Actors.length c15, vB S.Run_Done, vI S.Run_Steps, .slice a18 S.Run_Holders.length c18, .slice a19 S.Run_Reads.length c19, .slice a20 S.Run_Marks.length c20, .slice a21 S.Run_Log.length c21] 128)

abbrev ro125 (a : Option Addr) (c : Nat) (l : List T_plunderref8_Actor) : HProp := rowOf 125 4 enc_T_plunderref8_Actor (.slice a l.length c) l

abbrev ro3 (a : Option Addr) (c : Nat) (l : List Int) : HProp := rowOf 3 1 encZ_i64 (.slice a l.length c) l

abbrev rn31 (a : Option Addr) (c : Nat) (l : List (List Int)) : HProp := rowN 31 1 own_sl31 (.slice a l.length c) l

abbrev ro96 (a : Option Addr) (c : Nat) (l : List T_api_Access) : HProp := rowOf 96 6 enc_T_api_Access (.slice a l.length c) l

abbrev ob125 (B : Nat) (S : T_plunderref8_Actor)  : HProp := pts B (.cells #[vI S.Does, vI S.Frame, vI S.Slot, vI S.V] 125)

abbrev ob86 (B : Nat) (S : T_api_JoinRun) (a2 : Option Addr) (c2 : Nat) (a3 : Option Addr) (c3 : Nat) (a4 : Option Addr) (c4 : Nat) (a5 : Option Addr) (c5 : Nat) : HProp := pts B (.cells #[vB S.Done, vI S.Steps, .slice a2 S.Holders.length c2, .slice a3 S.Reads.length c3, .slice a4 S.Marks.length c4, .slice a5 S.Log.length c5] 86)

structure T_cells_Arena where
  ledger_size : Int
  ledger_mark : Int
  cell : List Int
  log : List T_api_Access
  actor : Int
  watched : Bool
deriving Inhabited, DecidableEq

abbrev ob103 (B : Nat) (S : T_cells_Arena) (a2 : Option Addr) (c2 : Nat) (a3 : Option Addr) (c3 : Nat) : HProp := pts B (.cells #[vI S.ledger_size, vI S.ledger_mark, .slice a2 S.cell.length c2, .slice a3 S.log.length c3, vI S.actor, vB S.watched] 103)

structure T_frames_Table where
  Base : Int
  Frames : Int
deriving Inhabited, DecidableEq
def enc_T_frames_Table (x : T_frames_Table) : List Value := [vI x.Base, vI x.Frames]
abbrev cl_T_frames_Table (x : T_frames_Table) : List Value := [vI x.Base, vI x.Frames]
abbrev ca_T_frames_Table (x : T_frames_Table) : Array Value := #[vI x.Base, vI x.Frames]
abbrev ag_T_frames_Table (x : T_frames_Table) : Value := .agg #[vI x.Base, vI x.Frames]
theorem enc_T_frames_Table_ok : Enc enc_T_frames_Table 2 := ⟨fun _ => rfl, fun x u h => by simp only [enc_T_frames_Table, List.mem_cons, List.not_mem_nil, or_false] at h; rcases h with rfl | rfl <;> rfl, by decide⟩
theorem eq_T_frames_Table (x y : T_frames_Table) : eqvs (enc_T_frames_Table x) (enc_T_frames_Table y) = decide (x = y) := by
  rw [Bool.eq_iff_iff]; cases x; cases y; simp [enc_T_frames_Table, eqvs]

structure T_frames_actor where
  number : Int
  about : Int
  op_head_t_Base : Int
  op_head_t_Frames : Int
  op_head_frame : Int
  op_head_stands : Int
  op_head_code : Int
  op_head_v : Int
  op_kind : Int
  op_slot : Int
  op_give : Int
  inOp : Bool
  frame : Int
  slot : Int
  value : Int
  at_ : Int
  child : Bool
deriving Inhabited, DecidableEq
def enc_T_frames_actor (x : T_frames_actor) : List Value := [vI x.number, vI x.about, vI x.op_head_t_Base, vI x.op_head_t_Frames, vI x.op_head_frame, vI x.op_head_stands, vI x.op_head_code, vI x.op_head_v, vI x.op_kind, vI x.op_slot, vI x.op_give, vB x.inOp, vI x.frame, vI x.slot, vI x.value, vI x.at_, vB x.child]
abbrev cl_T_frames_actor (x : T_frames_actor) : List Value := [vI x.number, vI x.about, vI x.op_head_t_Base, vI x.op_head_t_Frames, vI x.op_head_frame, vI x.op_head_stands, vI x.op_head_code, vI x.op_head_v, vI x.op_kind, vI x.op_slot, vI x.op_give, vB x.inOp, vI x.frame, vI x.slot, vI x.value, vI x.at_, vB x.child]
abbrev ca_T_frames_actor (x : T_frames_actor) : Array Value := #[vI x.number, vI x.about, vI x.op_head_t_Base, vI x.op_head_t_Frames, vI x.op_head_frame, vI x.op_head_stands, vI x.op_head_code, vI x.op_head_v, vI x.op_kind, vI x.op_slot, vI x.op_give, vB x.inOp, vI x.frame, vI x.slot, vI x.value, vI x.at_, vB x.child]
abbrev ag_T_frames_actor (x : T_frames_actor) : Value := .agg #[vI x.number, vI x.about, vI x.op_head_t_Base, vI x.op_head_t_Frames, vI x.op_head_frame, vI x.op_head_stands, vI x.op_head_code, vI x.op_head_v, vI x.op_kind, vI x.op_slot, vI x.op_give, vB x.inOp, vI x.frame, vI x.slot, vI x.value, vI x.at_, vB x.child]
theorem enc_T_frames_actor_ok : Enc enc_T_frames_actor 17 := ⟨fun _ => rfl, fun x u h => by simp only [enc_T_frames_actor, List.mem_cons, List.not_mem_nil, or_false] at h; rcases h with rfl | rfl | rfl | rfl | rfl | rfl | rfl | rfl | rfl | rfl | rfl | rfl | rfl | rfl | rfl | rfl | rfl <;> rfl, by decide⟩
theorem eq_T_frames_actor (x y : T_frames_actor) : eqvs (enc_T_frames_actor x) (enc_T_frames_actor y) = decide (x = y) := by
  rw [Bool.eq_iff_iff]; cases x; cases y; simp [enc_T_frames_actor, eqvs, and_assoc]

structure T_frames_join where
  table_Base : Int
  table_Frames : Int
  round : Int
  live : List T_frames_actor
  made : Int
  got : Int
  run_Done : Bool
  run_Steps : Int
  run_Holders : List Int
  run_Reads : List (List Int)
  run_Marks : List Int
  run_Log : List T_api_Access
deriving Inhabited, DecidableEq

abbrev ob137 (B : Nat) (S : T_frames_actor)  : HProp := pts B (.cells #[vI S.number, vI S.about, vI S.op_head_t_Base, vI S.op_head_t_Frames, vI S.op_head_frame, vI S.op_head_stands, vI S.op_head_code, vI S.op_head_v, vI S.op_kind, vI S.op_slot, vI S.op_give, vB S.inOp, vI S.frame, vI S.slot, vI S.value, vI S.at_, vB S.child] 137)

def own_ptr135 (x : T_frames_actor) (cs : List Value) : HProp := exs fun b_1 : Nat => sepL [pur (cs = [pA b_1 0]), ob137 b_1 x]
theorem own_ptr135_op {z w : World} {L : List HProp} {x : T_frames_actor} {cs : List Value} (h : Fit z (sepL (own_ptr135 x cs :: L)) w) : ∃ b_1 : Nat, cs = [pA b_1 0] ∧ Fit z (sepL (ob137 b_1 x :: L)) w := by
  unfold own_ptr135 at h
  obtain ⟨b_1, h⟩ := h.open_exs
  have h := h.open_sepL
  obtain ⟨e, h⟩ := h.open_pur
  exact ⟨b_1, e, h⟩
theorem own_ptr135_sh {z w : World} {L : List HProp} {x : T_frames_actor} {b_1 : Nat} (h : Fit z (sepL (ob137 b_1 x :: L)) w) : Fit z (sepL (own_ptr135 x [pA b_1 0] :: L)) w := by
  unfold own_ptr135
  refine Fit.shut_exs b_1 ?_
  refine Fit.shut_sepL (pur (([pA b_1 0] : List Value) = [pA b_1 0]) :: ob137 b_1 x :: []) L ?_
  exact h.shut_pur rfl

abbrev ob133 (B : Nat) (S : T_frames_join) (k0 : Value) (k3 : Value) (a5 : Option Addr) (c5 : Nat) (a10 : Option Addr) (c10 : Nat) (a11 : Option Addr) (c11 : Nat) (a12 : Option Addr) (c12 : Nat) (a13 : Option Addr) (c13 : Nat) : HProp := pts B (.cells #[k0, vI S.table_Base, vI S.table_Frames, k3, vI S.round, .slice a5 S.live.length c5, vI S.made, vI S.got, vB S.run_Done, vI S.run_Steps, .slice a10 S.run_Holders.length c10, .slice a11 S.run_Reads.length c11, .slice a12 S.run_Marks.length c12, .slice a13 S.run_Log.length c13] 133)

abbrev rn135 (a : Option Addr) (c : Nat) (l : List T_frames_actor) : HProp := rowN 135 1 own_ptr135 (.slice a l.length c) l

structure T_frames_Op where
  head_t_Base : Int
  head_t_Frames : Int
  head_frame : Int
  head_stands : Int
  head_code : Int
  head_v : Int
  kind : Int
  slot : Int
  give : Int
deriving Inhabited, DecidableEq
def enc_T_frames_Op (x : T_frames_Op) : List Value := [vI x.head_t_Base, vI x.head_t_Frames, vI x.head_frame, vI x.head_stands, vI x.head_code, vI x.head_v, vI x.kind, vI x.slot, vI x.give]
abbrev cl_T_frames_Op (x : T_frames_Op) : List Value := [vI x.head_t_Base, vI x.head_t_Frames, vI x.head_frame, vI x.head_stands, vI x.head_code, vI x.head_v, vI x.kind, vI x.slot, vI x.give]
abbrev ca_T_frames_Op (x : T_frames_Op) : Array Value := #[vI x.head_t_Base, vI x.head_t_Frames, vI x.head_frame, vI x.head_stands, vI x.head_code, vI x.head_v, vI x.kind, vI x.slot, vI x.give]
abbrev ag_T_frames_Op (x : T_frames_Op) : Value := .agg #[vI x.head_t_Base, vI x.head_t_Frames, vI x.head_frame, vI x.head_stands, vI x.head_code, vI x.head_v, vI x.kind, vI x.slot, vI x.give]
theorem enc_T_frames_Op_ok : Enc enc_T_frames_Op 9 := ⟨fun _ => rfl, fun x u h => by simp only [enc_T_frames_Op, List.mem_cons, List.not_mem_nil, or_false] at h; rcases h with rfl | rfl | rfl | rfl | rfl | rfl | rfl | rfl | rfl <;> rfl, by decide⟩
theorem eq_T_frames_Op (x y : T_frames_Op) : eqvs (enc_T_frames_Op x) (enc_T_frames_Op y) = decide (x = y) := by
  rw [Bool.eq_iff_iff]; cases x; cases y; simp [enc_T_frames_Op, eqvs, and_assoc]

abbrev ob50 (B : Nat) (S : T_frames_Op)  : HProp := pts B (.cells #[vI S.head_t_Base, vI S.head_t_Frames, vI S.head_frame, vI S.head_stands, vI S.head_code, vI S.head_v, vI S.kind, vI S.slot, vI S.give] 50)

end Go.Proofs.Ytnghahgfcaolbaa.Mo
