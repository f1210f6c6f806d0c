/- what the functions compute, as plain Lean functions, and that they do -/
import Derived.Test.YtpikpffbcjpmcaaGreatDoorDrw
import Derived.Test.YtpikpffbcjpmcaaGreatDoorChk
import Derived.Test.YtpikpffbcjpmcaaGreatDoorQ
import Derived.Test.YtpikpffbcjpmcaaGreatDoorTl
import Derived.Test.YtpikpffbcjpmcaaGreatDoorPa
import Derived.Test.YtpikpffbcjpmcaaGreatDoorSc
import Derived.Test.YtpikpffbcjpmcaaGreatDoorSg
import Derived.Test.YtpikpffbcjpmcaaGreatDoorRn
import Derived.Test.YtpikpffbcjpmcaaGreatDoorS
import Derived.Test.YtpikpffbcjpmcaaGreatDoorEqD
import Derived.Test.YtpikpffbcjpmcaaGreatDoorProg
namespace Go.Proofs.YtpikpffbcjpmcaaGreatDoor.Mo
open Go Go.RowKit Go.Proofs.YtpikpffbcjpmcaaGreatDoor.SL Go.Proofs.YtpikpffbcjpmcaaGreatDoor.GX
set_option linter.unusedVariables false
set_option linter.unusedSimpArgs false
set_option maxRecDepth 100000
set_option maxHeartbeats 4000000
noncomputable section
variable {z w : World} {L : List HProp}
structure T_api_Instr where
  Kind:Int
  A:Int
  B:Int
  C:Int
  K:Int
deriving Inhabited, DecidableEq
def enc_T_api_Instr (x:T_api_Instr):List Value:=[vI x.Kind,vI x.A,vI x.B,vI x.C,vI x.K]
abbrev cl_T_api_Instr (x:T_api_Instr):List Value:=[vI x.Kind,vI x.A,vI x.B,vI x.C,vI x.K]
abbrev ca_T_api_Instr (x:T_api_Instr):Array Value:=#[vI x.Kind,vI x.A,vI x.B,vI x.C,vI x.K]
abbrev ag_T_api_Instr (x:T_api_Instr):Value:=.agg #[vI x.Kind,vI x.A,vI x.B,vI x.C,vI x.K]
theorem enc_T_api_Instr_ok:Enc enc_T_api_Instr 5:=⟨fun _=>rfl,fun x u h=>by simp only [enc_T_api_Instr,List.mem_cons,List.not_mem_nil,or_false] at h;rcases h with rfl | rfl | rfl | rfl | rfl <;> rfl,by decide⟩
theorem eq_T_api_Instr (x y:T_api_Instr):eqvs (enc_T_api_Instr x) (enc_T_api_Instr y)=decide (x=y):=by
 rw [Bool.eq_iff_iff];cases x;cases y;simp [enc_T_api_Instr,eqvs,and_assoc]
structure T_api_Func where
  Params:Int
  Regs:Int
  Slots:Int
  Code:List T_api_Instr
deriving Inhabited, DecidableEq
structure T_plunderlaw11_Case where
  P_Funcs:List T_api_Func
  Args:List Int
  Workers:Int
  Lim_Frames:Int
  Lim_First:Int
  Lim_Most:Int
  S_Picks:List Int
  S_Draws:List Int
deriving Inhabited, DecidableEq
def cn99 (a:Option Addr) (c:Nat) (x:T_api_Func):List Value:=[vI x.Params,vI x.Regs,vI x.Slots,.slice a x.Code.length c]
abbrev Rd99 (L:List HProp) (va:Option Addr) (hs:Nat→Option Addr × Nat) (l:List T_api_Func):Prop:=RdN L 4 5 cn99 enc_T_api_Instr T_api_Func.Code va hs l
structure T_api_Event where
  At:Int
  Who:Int
  Kind:Int
  Frame:Int
  X:Int
  V:Int
deriving Inhabited, DecidableEq
def enc_T_api_Event (x:T_api_Event):List Value:=[vI x.At,vI x.Who,vI x.Kind,vI x.Frame,vI x.X,vI x.V]
abbrev cl_T_api_Event (x:T_api_Event):List Value:=[vI x.At,vI x.Who,vI x.Kind,vI x.Frame,vI x.X,vI x.V]
abbrev ca_T_api_Event (x:T_api_Event):Array Value:=#[vI x.At,vI x.Who,vI x.Kind,vI x.Frame,vI x.X,vI x.V]
abbrev ag_T_api_Event (x:T_api_Event):Value:=.agg #[vI x.At,vI x.Who,vI x.Kind,vI x.Frame,vI x.X,vI x.V]
theorem enc_T_api_Event_ok:Enc enc_T_api_Event 6:=⟨fun _=>rfl,fun x u h=>by simp only [enc_T_api_Event,List.mem_cons,List.not_mem_nil,or_false] at h;rcases h with rfl | rfl | rfl | rfl | rfl | rfl <;> rfl,by decide⟩
theorem eq_T_api_Event (x y:T_api_Event):eqvs (enc_T_api_Event x) (enc_T_api_Event y)=decide (x=y):=by
 rw [Bool.eq_iff_iff];cases x;cases y;simp [enc_T_api_Event,eqvs,and_assoc]
abbrev ob47 (B:Nat) (S:T_api_Event)  : HProp:=pts B (.cells #[vI S.At,vI S.Who,vI S.Kind,vI S.Frame,vI S.X,vI S.V] 47)
abbrev ob32 (B:Nat) (S:T_plunderlaw11_Case) (a0:Option Addr) (c0:Nat) (a1:Option Addr) (c1:Nat) (a6:Option Addr) (c6:Nat) (a7:Option Addr) (c7:Nat):HProp:=pts B (.cells #[.slice a0 S.P_Funcs.length c0,.slice a1 S.Args.length c1,vI S.Workers,vI S.Lim_Frames,vI S.Lim_First,vI S.Lim_Most,.slice a6 S.S_Picks.length c6,.slice a7 S.S_Draws.length c7] 32)
structure T_api_Program where
  Funcs:List T_api_Func
deriving Inhabited, DecidableEq
structure T_api_Limits where
  Frames:Int
  First:Int
  Most:Int
deriving Inhabited, DecidableEq
def enc_T_api_Limits (x:T_api_Limits):List Value:=[vI x.Frames,vI x.First,vI x.Most]
abbrev cl_T_api_Limits (x:T_api_Limits):List Value:=[vI x.Frames,vI x.First,vI x.Most]
abbrev ca_T_api_Limits (x:T_api_Limits):Array Value:=#[vI x.Frames,vI x.First,vI x.Most]
abbrev ag_T_api_Limits (x:T_api_Limits):Value:=.agg #[vI x.Frames,vI x.First,vI x.Most]
theorem enc_T_api_Limits_ok:Enc enc_T_api_Limits 3:=⟨fun _=>rfl,fun x u h=>by simp only [enc_T_api_Limits,List.mem_cons,List.not_mem_nil,or_false] at h;rcases h with rfl | rfl | rfl <;> rfl,by decide⟩
theorem eq_T_api_Limits (x y:T_api_Limits):eqvs (enc_T_api_Limits x) (enc_T_api_Limits y)=decide (x=y):=by
 rw [Bool.eq_iff_iff];cases x;cases y;simp [enc_T_api_Limits,eqvs,and_assoc]
abbrev ob99 (B:Nat) (S:T_api_Func) (a3:Option Addr) (c3:Nat):HProp:=pts B (.cells #[vI S.Params,vI S.Regs,vI S.Slots,.slice a3 S.Code.length c3] 99)
structure T_api_Fault where
  Err:Int
  Func:Int
  At:Int
deriving Inhabited, DecidableEq
def enc_T_api_Fault (x:T_api_Fault):List Value:=[vI x.Err,vI x.Func,vI x.At]
abbrev cl_T_api_Fault (x:T_api_Fault):List Value:=[vI x.Err,vI x.Func,vI x.At]
abbrev ca_T_api_Fault (x:T_api_Fault):Array Value:=#[vI x.Err,vI x.Func,vI x.At]
abbrev ag_T_api_Fault (x:T_api_Fault):Value:=.agg #[vI x.Err,vI x.Func,vI x.At]
theorem enc_T_api_Fault_ok:Enc enc_T_api_Fault 3:=⟨fun _=>rfl,fun x u h=>by simp only [enc_T_api_Fault,List.mem_cons,List.not_mem_nil,or_false] at h;rcases h with rfl | rfl | rfl <;> rfl,by decide⟩
theorem eq_T_api_Fault (x y:T_api_Fault):eqvs (enc_T_api_Fault x) (enc_T_api_Fault y)=decide (x=y):=by
 rw [Bool.eq_iff_iff];cases x;cases y;simp [enc_T_api_Fault,eqvs,and_assoc]
abbrev ob146 (B:Nat) (S:T_api_Instr)  : HProp:=pts B (.cells #[vI S.Kind,vI S.A,vI S.B,vI S.C,vI S.K] 146)
abbrev ro3 (a:Option Addr) (c:Nat) (l:List Int):HProp:=rowOf 3 1 encZ_i64 (.slice a l.length c) l
def own_sl28 (x:List Int) (cs:List Value):HProp:=exs fun ca_1:Option Addr=>exs fun cc_2:Nat=>sepL [pur (cs=[.slice ca_1 x.length cc_2]),ro3 ca_1 cc_2 x]
theorem own_sl28_op {x:List Int} {cs:List Value} (h:Fit z (sepL (own_sl28 x cs::L)) w) : ∃ ca_1:Option Addr,∃ cc_2:Nat,cs=[.slice ca_1 x.length cc_2]∧Fit z (sepL (ro3 ca_1 cc_2 x::L)) w:=by
 unfold own_sl28 at h;obtain ⟨ca_1,h⟩:=h.open_exs;obtain ⟨cc_2,h⟩:=h.open_exs;have h:=h.open_sepL;obtain ⟨e,h⟩:=h.open_pur;exact ⟨ca_1,cc_2,e,h⟩
theorem own_sl28_sh {x:List Int} {ca_1:Option Addr} {cc_2:Nat} (h:Fit z (sepL (ro3 ca_1 cc_2 x::L)) w):Fit z (sepL (own_sl28 x [.slice ca_1 x.length cc_2]::L)) w:=by
 unfold own_sl28;refine Fit.shut_exs ca_1<|Fit.shut_exs cc_2<|Fit.shut_sepL (pur (([.slice ca_1 x.length cc_2] : List Value)=[.slice ca_1 x.length cc_2])::ro3 ca_1 cc_2 x::[]) L<|?_;exact h.shut_pur rfl
abbrev rn28 (a:Option Addr) (c:Nat) (l:List (List Int)):HProp:=rowN 28 1 own_sl28 (.slice a l.length c) l
abbrev ob95 (B:Nat) (S:T_api_Fault)  : HProp:=pts B (.cells #[vI S.Err,vI S.Func,vI S.At] 95)
abbrev ob27 (B:Nat) (S:T_api_Limits)  : HProp:=pts B (.cells #[vI S.Frames,vI S.First,vI S.Most] 27)
structure T_api_Access where
  Who:Int
  Kind:Int
  Addr:Int
  A:Int
  B:Int
  OK:Bool
deriving Inhabited, DecidableEq
def enc_T_api_Access (x:T_api_Access):List Value:=[vI x.Who,vI x.Kind,vI x.Addr,vI x.A,vI x.B,vB x.OK]
abbrev cl_T_api_Access (x:T_api_Access):List Value:=[vI x.Who,vI x.Kind,vI x.Addr,vI x.A,vI x.B,vB x.OK]
abbrev ca_T_api_Access (x:T_api_Access):Array Value:=#[vI x.Who,vI x.Kind,vI x.Addr,vI x.A,vI x.B,vB x.OK]
abbrev ag_T_api_Access (x:T_api_Access):Value:=.agg #[vI x.Who,vI x.Kind,vI x.Addr,vI x.A,vI x.B,vB x.OK]
theorem enc_T_api_Access_ok:Enc enc_T_api_Access 6:=⟨fun _=>rfl,fun x u h=>by simp only [enc_T_api_Access,List.mem_cons,List.not_mem_nil,or_false] at h;rcases h with rfl | rfl | rfl | rfl | rfl | rfl <;> rfl,by decide⟩
theorem eq_T_api_Access (x y:T_api_Access):eqvs (enc_T_api_Access x) (enc_T_api_Access y)=decide (x=y):=by
 rw [Bool.eq_iff_iff];cases x;cases y;simp [enc_T_api_Access,eqvs,and_assoc]
structure T_cells_Arena where
  ledger_size:Int
  ledger_mark:Int
  cell:List Int
  log:List T_api_Access
  actor:Int
  watched:Bool
deriving Inhabited, DecidableEq
abbrev ob92 (B:Nat) (S:T_cells_Arena) (a2:Option Addr) (c2:Nat) (a3:Option Addr) (c3:Nat):HProp:=pts B (.cells #[vI S.ledger_size,vI S.ledger_mark,.slice a2 S.cell.length c2,.slice a3 S.log.length c3,vI S.actor,vB S.watched] 92)
abbrev ro2 (a:Option Addr) (c:Nat) (l:List Int):HProp:=rowOf 2 1 encZ_i64 (.slice a l.length c) l
abbrev ro159 (a:Option Addr) (c:Nat) (l:List T_api_Access):HProp:=rowOf 159 6 enc_T_api_Access (.slice a l.length c) l
structure T_anon249 where
  a:Int
  b:Int
  c:Int
  k:Int
  next:Bool
deriving Inhabited, DecidableEq
def enc_T_anon249 (x:T_anon249):List Value:=[vI x.a,vI x.b,vI x.c,vI x.k,vB x.next]
abbrev cl_T_anon249 (x:T_anon249):List Value:=[vI x.a,vI x.b,vI x.c,vI x.k,vB x.next]
abbrev ca_T_anon249 (x:T_anon249):Array Value:=#[vI x.a,vI x.b,vI x.c,vI x.k,vB x.next]
abbrev ag_T_anon249 (x:T_anon249):Value:=.agg #[vI x.a,vI x.b,vI x.c,vI x.k,vB x.next]
theorem enc_T_anon249_ok:Enc enc_T_anon249 5:=⟨fun _=>rfl,fun x u h=>by simp only [enc_T_anon249,List.mem_cons,List.not_mem_nil,or_false] at h;rcases h with rfl | rfl | rfl | rfl | rfl <;> rfl,by decide⟩
theorem eq_T_anon249 (x y:T_anon249):eqvs (enc_T_anon249 x) (enc_T_anon249 y)=decide (x=y):=by
 rw [Bool.eq_iff_iff];cases x;cases y;simp [enc_T_anon249,eqvs,and_assoc]
def gl1:List T_anon249:=[⟨1,0,0,0,true⟩,⟨1,1,0,0,true⟩,⟨1,1,1,5,true⟩,⟨3,0,0,0,false⟩,⟨1,3,0,0,true⟩,⟨2,4,0,0,true⟩,⟨0,0,0,0,true⟩,⟨1,2,0,0,true⟩,⟨1,0,0,0,true⟩,⟨1,0,0,0,false⟩]
abbrev ob249 (B:Nat) (S:T_anon249)  : HProp:=pts B (.cells #[vI S.a,vI S.b,vI S.c,vI S.k,vB S.next] 249)
structure T_prog_wrong where
  fault_Err:Int
  fault_Func:Int
  fault_At:Int
deriving Inhabited, DecidableEq
def enc_T_prog_wrong (x:T_prog_wrong):List Value:=[vI x.fault_Err,vI x.fault_Func,vI x.fault_At]
abbrev cl_T_prog_wrong (x:T_prog_wrong):List Value:=[vI x.fault_Err,vI x.fault_Func,vI x.fault_At]
abbrev ca_T_prog_wrong (x:T_prog_wrong):Array Value:=#[vI x.fault_Err,vI x.fault_Func,vI x.fault_At]
abbrev ag_T_prog_wrong (x:T_prog_wrong):Value:=.agg #[vI x.fault_Err,vI x.fault_Func,vI x.fault_At]
theorem enc_T_prog_wrong_ok:Enc enc_T_prog_wrong 3:=⟨fun _=>rfl,fun x u h=>by simp only [enc_T_prog_wrong,List.mem_cons,List.not_mem_nil,or_false] at h;rcases h with rfl | rfl | rfl <;> rfl,by decide⟩
theorem eq_T_prog_wrong (x y:T_prog_wrong):eqvs (enc_T_prog_wrong x) (enc_T_prog_wrong y)=decide (x=y):=by
 rw [Bool.eq_iff_iff];cases x;cases y;simp [enc_T_prog_wrong,eqvs,and_assoc]
structure T_prog_point where
  at_:Int
  state:Int
deriving Inhabited, DecidableEq
def enc_T_prog_point (x:T_prog_point):List Value:=[vI x.at_,vI x.state]
abbrev cl_T_prog_point (x:T_prog_point):List Value:=[vI x.at_,vI x.state]
abbrev ca_T_prog_point (x:T_prog_point):Array Value:=#[vI x.at_,vI x.state]
abbrev ag_T_prog_point (x:T_prog_point):Value:=.agg #[vI x.at_,vI x.state]
theorem enc_T_prog_point_ok:Enc enc_T_prog_point 2:=⟨fun _=>rfl,fun x u h=>by simp only [enc_T_prog_point,List.mem_cons,List.not_mem_nil,or_false] at h;rcases h with rfl | rfl <;> rfl,by decide⟩
theorem eq_T_prog_point (x y:T_prog_point):eqvs (enc_T_prog_point x) (enc_T_prog_point y)=decide (x=y):=by
 rw [Bool.eq_iff_iff];cases x;cases y;simp [enc_T_prog_point,eqvs]
theorem key_255:KeyOK Tryz.prog 255 enc_T_prog_point:=⟨by kernel_rfl,by kernel_rfl,fun x y=>by kernel_rfl,eq_T_prog_point⟩
abbrev ob255 (B:Nat) (S:T_prog_point)  : HProp:=pts B (.cells #[vI S.at_,vI S.state] 255)
structure T_worker_task where
  fn:Int
  at_:Int
  parent:Int
  slot:Int
  kids:Int
  ped:Int
  regs:List Int
deriving Inhabited, DecidableEq
def enc_T_worker_task (x:T_worker_task):List Value:=[vI x.fn,vI x.at_,vI x.parent,vI x.slot,vI x.kids,vI x.ped]++encA 16 encZ_i64 x.regs
abbrev cl_T_worker_task (x:T_worker_task):List Value:=[vI x.fn,vI x.at_,vI x.parent,vI x.slot,vI x.kids,vI x.ped]++encA 16 encZ_i64 x.regs
abbrev ca_T_worker_task (x:T_worker_task):Array Value:=([vI x.fn,vI x.at_,vI x.parent,vI x.slot,vI x.kids,vI x.ped]++encA 16 encZ_i64 x.regs).toArray
abbrev ag_T_worker_task (x:T_worker_task):Value:=.agg ([vI x.fn,vI x.at_,vI x.parent,vI x.slot,vI x.kids,vI x.ped]++encA 16 encZ_i64 x.regs).toArray
theorem enc_T_worker_task_ok:Enc (enc_T_worker_task) 22:=EncP.enc (N:=6+16*1) (fun x=>(show EncP (enc_T_worker_task x) (6+16*1) from ((EncP.lit 6 (by rfl)).app (encA_ok 16 encZ_i64_ok _)))) (by decide) (by rfl)
abbrev ro114 (a:Option Addr) (c:Nat) (l:List T_worker_task):HProp:=rowOf 114 22 enc_T_worker_task (.slice a l.length c) l
abbrev ro146 (a:Option Addr) (c:Nat) (l:List T_api_Instr):HProp:=rowOf 146 5 enc_T_api_Instr (.slice a l.length c) l
def own_T_api_Func (x:T_api_Func) (cs:List Value):HProp:=exs fun ca_1:Option Addr=>exs fun cc_2:Nat=>sepL [pur (cs=[vI x.Params,vI x.Regs,vI x.Slots,.slice ca_1 x.Code.length cc_2]),ro146 ca_1 cc_2 x.Code]
theorem own_T_api_Func_op {x:T_api_Func} {cs:List Value} (h:Fit z (sepL (own_T_api_Func x cs::L)) w) : ∃ ca_1:Option Addr,∃ cc_2:Nat,cs=[vI x.Params,vI x.Regs,vI x.Slots,.slice ca_1 x.Code.length cc_2]∧Fit z (sepL (ro146 ca_1 cc_2 x.Code::L)) w:=by
 unfold own_T_api_Func at h;obtain ⟨ca_1,h⟩:=h.open_exs;obtain ⟨cc_2,h⟩:=h.open_exs;have h:=h.open_sepL;obtain ⟨e,h⟩:=h.open_pur;exact ⟨ca_1,cc_2,e,h⟩
theorem own_T_api_Func_sh {x:T_api_Func} {ca_1:Option Addr} {cc_2:Nat} (h:Fit z (sepL (ro146 ca_1 cc_2 x.Code::L)) w):Fit z (sepL (own_T_api_Func x [vI x.Params,vI x.Regs,vI x.Slots,.slice ca_1 x.Code.length cc_2]::L)) w:=by
 unfold own_T_api_Func;refine Fit.shut_exs ca_1<|Fit.shut_exs cc_2<|Fit.shut_sepL (pur (([vI x.Params,vI x.Regs,vI x.Slots,.slice ca_1 x.Code.length cc_2] : List Value)=[vI x.Params,vI x.Regs,vI x.Slots,.slice ca_1 x.Code.length cc_2])::ro146 ca_1 cc_2 x.Code::[]) L<|?_;exact h.shut_pur rfl
abbrev rn99 (a:Option Addr) (c:Nat) (l:List T_api_Func):HProp:=rowN 99 4 own_T_api_Func (.slice a l.length c) l
structure T_deque_Deque where
  Base:Int
  Most:Int
deriving Inhabited, DecidableEq
def enc_T_deque_Deque (x:T_deque_Deque):List Value:=[vI x.Base,vI x.Most]
abbrev cl_T_deque_Deque (x:T_deque_Deque):List Value:=[vI x.Base,vI x.Most]
abbrev ca_T_deque_Deque (x:T_deque_Deque):Array Value:=#[vI x.Base,vI x.Most]
abbrev ag_T_deque_Deque (x:T_deque_Deque):Value:=.agg #[vI x.Base,vI x.Most]
theorem enc_T_deque_Deque_ok:Enc enc_T_deque_Deque 2:=⟨fun _=>rfl,fun x u h=>by simp only [enc_T_deque_Deque,List.mem_cons,List.not_mem_nil,or_false] at h;rcases h with rfl | rfl <;> rfl,by decide⟩
theorem eq_T_deque_Deque (x y:T_deque_Deque):eqvs (enc_T_deque_Deque x) (enc_T_deque_Deque y)=decide (x=y):=by
 rw [Bool.eq_iff_iff];cases x;cases y;simp [enc_T_deque_Deque,eqvs]
structure T_deque_Op where
  kind:Int
  at_:Int
  d_Base:Int
  d_Most:Int
  v:Int
  t:Int
  b:Int
  a:Int
  c:Int
  a2:Int
  c2:Int
  i:Int
  x:Int
  won:Bool
  code:Int
  value:Int
deriving Inhabited, DecidableEq
def enc_T_deque_Op (x:T_deque_Op):List Value:=[vI x.kind,vI x.at_,vI x.d_Base,vI x.d_Most,vI x.v,vI x.t,vI x.b,vI x.a,vI x.c,vI x.a2,vI x.c2,vI x.i,vI x.x,vB x.won,vI x.code,vI x.value]
abbrev cl_T_deque_Op (x:T_deque_Op):List Value:=[vI x.kind,vI x.at_,vI x.d_Base,vI x.d_Most,vI x.v,vI x.t,vI x.b,vI x.a,vI x.c,vI x.a2,vI x.c2,vI x.i,vI x.x,vB x.won,vI x.code,vI x.value]
abbrev ca_T_deque_Op (x:T_deque_Op):Array Value:=#[vI x.kind,vI x.at_,vI x.d_Base,vI x.d_Most,vI x.v,vI x.t,vI x.b,vI x.a,vI x.c,vI x.a2,vI x.c2,vI x.i,vI x.x,vB x.won,vI x.code,vI x.value]
abbrev ag_T_deque_Op (x:T_deque_Op):Value:=.agg #[vI x.kind,vI x.at_,vI x.d_Base,vI x.d_Most,vI x.v,vI x.t,vI x.b,vI x.a,vI x.c,vI x.a2,vI x.c2,vI x.i,vI x.x,vB x.won,vI x.code,vI x.value]
theorem enc_T_deque_Op_ok:Enc enc_T_deque_Op 16:=⟨fun _=>rfl,fun x u h=>by simp only [enc_T_deque_Op,List.mem_cons,List.not_mem_nil,or_false] at h;rcases h with rfl | rfl | rfl | rfl | rfl | rfl | rfl | rfl | rfl | rfl | rfl | rfl | rfl | rfl | rfl | rfl <;> rfl,by decide⟩
theorem eq_T_deque_Op (x y:T_deque_Op):eqvs (enc_T_deque_Op x) (enc_T_deque_Op y)=decide (x=y):=by
 rw [Bool.eq_iff_iff];cases x;cases y;simp [enc_T_deque_Op,eqvs,and_assoc]
structure T_frames_Op where
  head_t_Base:Int
  head_t_Frames:Int
  head_frame:Int
  head_stands:Int
  head_code:Int
  head_v:Int
  kind:Int
  slot:Int
  give:Int
deriving Inhabited, DecidableEq
def enc_T_frames_Op (x:T_frames_Op):List Value:=[vI x.head_t_Base,vI x.head_t_Frames,vI x.head_frame,vI x.head_stands,vI x.head_code,vI x.head_v,vI x.kind,vI x.slot,vI x.give]
abbrev cl_T_frames_Op (x:T_frames_Op):List Value:=[vI x.head_t_Base,vI x.head_t_Frames,vI x.head_frame,vI x.head_stands,vI x.head_code,vI x.head_v,vI x.kind,vI x.slot,vI x.give]
abbrev ca_T_frames_Op (x:T_frames_Op):Array Value:=#[vI x.head_t_Base,vI x.head_t_Frames,vI x.head_frame,vI x.head_stands,vI x.head_code,vI x.head_v,vI x.kind,vI x.slot,vI x.give]
abbrev ag_T_frames_Op (x:T_frames_Op):Value:=.agg #[vI x.head_t_Base,vI x.head_t_Frames,vI x.head_frame,vI x.head_stands,vI x.head_code,vI x.head_v,vI x.kind,vI x.slot,vI x.give]
theorem enc_T_frames_Op_ok:Enc enc_T_frames_Op 9:=⟨fun _=>rfl,fun x u h=>by simp only [enc_T_frames_Op,List.mem_cons,List.not_mem_nil,or_false] at h;rcases h with rfl | rfl | rfl | rfl | rfl | rfl | rfl | rfl | rfl <;> rfl,by decide⟩
theorem eq_T_frames_Op (x y:T_frames_Op):eqvs (enc_T_frames_Op x) (enc_T_frames_Op y)=decide (x=y):=by
 rw [Bool.eq_iff_iff];cases x;cases y;simp [enc_T_frames_Op,eqvs,and_assoc]
structure T_park_Op where
  state_lot_Base:Int
  state_lot_Workers:Int
  state_self:Int
  state_kind:Int
  state_at:Int
  state_k:Int
  state_then:Int
  state_code:Int
  state_value:Int
  deques:List T_deque_Deque
  look:T_deque_Op
deriving Inhabited, DecidableEq
def enc_T_park_Op (x:T_park_Op):List Value:=[vI x.state_lot_Base,vI x.state_lot_Workers,vI x.state_self,vI x.state_kind,vI x.state_at,vI x.state_k,vI x.state_then,vI x.state_code,vI x.state_value]++encA 64 enc_T_deque_Deque x.deques++enc_T_deque_Op x.look
abbrev cl_T_park_Op (x:T_park_Op):List Value:=[vI x.state_lot_Base,vI x.state_lot_Workers,vI x.state_self,vI x.state_kind,vI x.state_at,vI x.state_k,vI x.state_then,vI x.state_code,vI x.state_value]++encA 64 enc_T_deque_Deque x.deques++enc_T_deque_Op x.look
abbrev ca_T_park_Op (x:T_park_Op):Array Value:=([vI x.state_lot_Base,vI x.state_lot_Workers,vI x.state_self,vI x.state_kind,vI x.state_at,vI x.state_k,vI x.state_then,vI x.state_code,vI x.state_value]++encA 64 enc_T_deque_Deque x.deques++enc_T_deque_Op x.look).toArray
abbrev ag_T_park_Op (x:T_park_Op):Value:=.agg ([vI x.state_lot_Base,vI x.state_lot_Workers,vI x.state_self,vI x.state_kind,vI x.state_at,vI x.state_k,vI x.state_then,vI x.state_code,vI x.state_value]++encA 64 enc_T_deque_Deque x.deques++enc_T_deque_Op x.look).toArray
theorem enc_T_park_Op_ok:Enc (enc_T_park_Op) 153:=EncP.enc (N:=9+64*2+16) (fun x=>(show EncP (enc_T_park_Op x) (9+64*2+16) from (((EncP.lit 9 (by rfl)).app (encA_ok 64 enc_T_deque_Deque_ok _)).app (enc_T_deque_Op_ok.p _)))) (by decide) (by rfl)
structure T_worker_actor where
  place_self:Int
  about:Int
  frame:Int
  from_:Int
  child:Int
  done:Int
  tries:Int
  victim:Int
  onDeq:T_deque_Op
  onTab:T_frames_Op
  onLot:T_park_Op
  parked:Bool
deriving Inhabited, DecidableEq
def enc_T_worker_actor (B:Nat) (x:T_worker_actor):List Value:=[pA B 0,vI x.place_self,vI x.about,vI x.frame,vI x.from_,vI x.child,vI x.done,vI x.tries,vI x.victim]++enc_T_deque_Op x.onDeq++enc_T_frames_Op x.onTab++enc_T_park_Op x.onLot++[vB x.parked]
abbrev cl_T_worker_actor (B:Nat) (x:T_worker_actor):List Value:=[pA B 0,vI x.place_self,vI x.about,vI x.frame,vI x.from_,vI x.child,vI x.done,vI x.tries,vI x.victim]++enc_T_deque_Op x.onDeq++enc_T_frames_Op x.onTab++enc_T_park_Op x.onLot++[vB x.parked]
abbrev ca_T_worker_actor (B:Nat) (x:T_worker_actor):Array Value:=([pA B 0,vI x.place_self,vI x.about,vI x.frame,vI x.from_,vI x.child,vI x.done,vI x.tries,vI x.victim]++enc_T_deque_Op x.onDeq++enc_T_frames_Op x.onTab++enc_T_park_Op x.onLot++[vB x.parked]).toArray
abbrev ag_T_worker_actor (B:Nat) (x:T_worker_actor):Value:=.agg ([pA B 0,vI x.place_self,vI x.about,vI x.frame,vI x.from_,vI x.child,vI x.done,vI x.tries,vI x.victim]++enc_T_deque_Op x.onDeq++enc_T_frames_Op x.onTab++enc_T_park_Op x.onLot++[vB x.parked]).toArray
theorem enc_T_worker_actor_ok (B:Nat):Enc (enc_T_worker_actor B) 188:=EncP.enc (N:=9+16+9+153+1) (fun x=>(show EncP (enc_T_worker_actor B x) (9+16+9+153+1) from (((((EncP.lit 9 (by rfl)).app (enc_T_deque_Op_ok.p _)).app (enc_T_frames_Op_ok.p _)).app (enc_T_park_Op_ok.p _)).app (EncP.lit 1 (by rfl))))) (by decide) (by rfl)
structure T_worker_World where
  code:List T_api_Func
  result:Int
  table_Base:Int
  table_Frames:Int
  lot_Base:Int
  lot_Workers:Int
  deques:List T_deque_Deque
  tasks:List T_worker_task
  workers:List T_worker_actor
  value:Int
  left:Bool
deriving Inhabited, DecidableEq
structure T_frames_Table where
  Base:Int
  Frames:Int
deriving Inhabited, DecidableEq
def enc_T_frames_Table (x:T_frames_Table):List Value:=[vI x.Base,vI x.Frames]
abbrev cl_T_frames_Table (x:T_frames_Table):List Value:=[vI x.Base,vI x.Frames]
abbrev ca_T_frames_Table (x:T_frames_Table):Array Value:=#[vI x.Base,vI x.Frames]
abbrev ag_T_frames_Table (x:T_frames_Table):Value:=.agg #[vI x.Base,vI x.Frames]
theorem enc_T_frames_Table_ok:Enc enc_T_frames_Table 2:=⟨fun _=>rfl,fun x u h=>by simp only [enc_T_frames_Table,List.mem_cons,List.not_mem_nil,or_false] at h;rcases h with rfl | rfl <;> rfl,by decide⟩
theorem eq_T_frames_Table (x y:T_frames_Table):eqvs (enc_T_frames_Table x) (enc_T_frames_Table y)=decide (x=y):=by
 rw [Bool.eq_iff_iff];cases x;cases y;simp [enc_T_frames_Table,eqvs]
structure T_park_Lot where
  Base:Int
  Workers:Int
deriving Inhabited, DecidableEq
def enc_T_park_Lot (x:T_park_Lot):List Value:=[vI x.Base,vI x.Workers]
abbrev cl_T_park_Lot (x:T_park_Lot):List Value:=[vI x.Base,vI x.Workers]
abbrev ca_T_park_Lot (x:T_park_Lot):Array Value:=#[vI x.Base,vI x.Workers]
abbrev ag_T_park_Lot (x:T_park_Lot):Value:=.agg #[vI x.Base,vI x.Workers]
theorem enc_T_park_Lot_ok:Enc enc_T_park_Lot 2:=⟨fun _=>rfl,fun x u h=>by simp only [enc_T_park_Lot,List.mem_cons,List.not_mem_nil,or_false] at h;rcases h with rfl | rfl <;> rfl,by decide⟩
theorem eq_T_park_Lot (x y:T_park_Lot):eqvs (enc_T_park_Lot x) (enc_T_park_Lot y)=decide (x=y):=by
 rw [Bool.eq_iff_iff];cases x;cases y;simp [enc_T_park_Lot,eqvs]
abbrev ro118 (a:Option Addr) (c:Nat) (l:List T_deque_Deque):HProp:=rowOf 118 2 enc_T_deque_Deque (.slice a l.length c) l
abbrev ro131 (B:Nat) (a:Option Addr) (c:Nat) (l:List T_worker_actor):HProp:=rowOf 131 188 (enc_T_worker_actor B) (.slice a l.length c) l
abbrev ob118 (B:Nat) (S:T_deque_Deque)  : HProp:=pts B (.cells #[vI S.Base,vI S.Most] 118)
abbrev ob124 (B:Nat) (S:T_frames_Op)  : HProp:=pts B (.cells #[vI S.head_t_Base,vI S.head_t_Frames,vI S.head_frame,vI S.head_stands,vI S.head_code,vI S.head_v,vI S.kind,vI S.slot,vI S.give] 124)
abbrev ob110 (B:Nat) (S:T_worker_World) (k0:Value) (a1:Option Addr) (c1:Nat) (a7:Option Addr) (c7:Nat) (a8:Option Addr) (c8:Nat) (a9:Option Addr) (c9:Nat):HProp:=pts B (.cells #[k0,.slice a1 S.code.length c1,vI S.result,vI S.table_Base,vI S.table_Frames,vI S.lot_Base,vI S.lot_Workers,.slice a7 S.deques.length c7,.slice a8 S.tasks.length c8,.slice a9 S.workers.length c9,vI S.value,vB S.left] 110)
structure T_plunderref11_Frame where
  Func:Int
  At:Int
  Parent:Int
  Slot:Int
  Kids:Int
  Ped:Int
  Regs:List Int
deriving Inhabited, DecidableEq
structure T_plunderref11_Worker where
  Now_K:Int
  Now_A:Int
  Now_B:Int
  Now_C:Int
  Frame:Int
  Tries:Int
  B:Int
  T:Int
  C:Int
  X:Int
  Buf:Int
  Old:Int
  OldC:Int
  Victim:Int
deriving Inhabited, DecidableEq
def enc_T_plunderref11_Worker (x:T_plunderref11_Worker):List Value:=[vI x.Now_K,vI x.Now_A,vI x.Now_B,vI x.Now_C,vI x.Frame,vI x.Tries,vI x.B,vI x.T,vI x.C,vI x.X,vI x.Buf,vI x.Old,vI x.OldC,vI x.Victim]
abbrev cl_T_plunderref11_Worker (x:T_plunderref11_Worker):List Value:=[vI x.Now_K,vI x.Now_A,vI x.Now_B,vI x.Now_C,vI x.Frame,vI x.Tries,vI x.B,vI x.T,vI x.C,vI x.X,vI x.Buf,vI x.Old,vI x.OldC,vI x.Victim]
abbrev ca_T_plunderref11_Worker (x:T_plunderref11_Worker):Array Value:=#[vI x.Now_K,vI x.Now_A,vI x.Now_B,vI x.Now_C,vI x.Frame,vI x.Tries,vI x.B,vI x.T,vI x.C,vI x.X,vI x.Buf,vI x.Old,vI x.OldC,vI x.Victim]
abbrev ag_T_plunderref11_Worker (x:T_plunderref11_Worker):Value:=.agg #[vI x.Now_K,vI x.Now_A,vI x.Now_B,vI x.Now_C,vI x.Frame,vI x.Tries,vI x.B,vI x.T,vI x.C,vI x.X,vI x.Buf,vI x.Old,vI x.OldC,vI x.Victim]
theorem enc_T_plunderref11_Worker_ok:Enc enc_T_plunderref11_Worker 14:=⟨fun _=>rfl,fun x u h=>by simp only [enc_T_plunderref11_Worker,List.mem_cons,List.not_mem_nil,or_false] at h;rcases h with rfl | rfl | rfl | rfl | rfl | rfl | rfl | rfl | rfl | rfl | rfl | rfl | rfl | rfl <;> rfl,by decide⟩
theorem eq_T_plunderref11_Worker (x y:T_plunderref11_Worker):eqvs (enc_T_plunderref11_Worker x) (enc_T_plunderref11_Worker y)=decide (x=y):=by
 rw [Bool.eq_iff_iff];cases x;cases y;simp [enc_T_plunderref11_Worker,eqvs,and_assoc]
structure T_plunderref11_World where
  N:Int
  Lim_Frames:Int
  Lim_First:Int
  Lim_Most:Int
  Cells:List Int
  Frames:List T_plunderref11_Frame
  Workers:List T_plunderref11_Worker
  Events:List T_api_Event
  Log:List T_api_Access
  Drawn:Int
  At:Int
  Value:Int
  HasV:Bool
  Capped:Bool
deriving Inhabited, DecidableEq
def own_T_plunderref11_Frame (x:T_plunderref11_Frame) (cs:List Value):HProp:=exs fun ca_1:Option Addr=>exs fun cc_2:Nat=>sepL [pur (cs=[vI x.Func,vI x.At,vI x.Parent,vI x.Slot,vI x.Kids,vI x.Ped,.slice ca_1 x.Regs.length cc_2]),ro2 ca_1 cc_2 x.Regs]
theorem own_T_plunderref11_Frame_op {x:T_plunderref11_Frame} {cs:List Value} (h:Fit z (sepL (own_T_plunderref11_Frame x cs::L)) w) : ∃ ca_1:Option Addr,∃ cc_2:Nat,cs=[vI x.Func,vI x.At,vI x.Parent,vI x.Slot,vI x.Kids,vI x.Ped,.slice ca_1 x.Regs.length cc_2]∧Fit z (sepL (ro2 ca_1 cc_2 x.Regs::L)) w:=by
 unfold own_T_plunderref11_Frame at h;obtain ⟨ca_1,h⟩:=h.open_exs;obtain ⟨cc_2,h⟩:=h.open_exs;have h:=h.open_sepL;obtain ⟨e,h⟩:=h.open_pur;exact ⟨ca_1,cc_2,e,h⟩
theorem own_T_plunderref11_Frame_sh {x:T_plunderref11_Frame} {ca_1:Option Addr} {cc_2:Nat} (h:Fit z (sepL (ro2 ca_1 cc_2 x.Regs::L)) w):Fit z (sepL (own_T_plunderref11_Frame x [vI x.Func,vI x.At,vI x.Parent,vI x.Slot,vI x.Kids,vI x.Ped,.slice ca_1 x.Regs.length cc_2]::L)) w:=by
 unfold own_T_plunderref11_Frame;refine Fit.shut_exs ca_1<|Fit.shut_exs cc_2<|Fit.shut_sepL (pur (([vI x.Func,vI x.At,vI x.Parent,vI x.Slot,vI x.Kids,vI x.Ped,.slice ca_1 x.Regs.length cc_2] : List Value)=[vI x.Func,vI x.At,vI x.Parent,vI x.Slot,vI x.Kids,vI x.Ped,.slice ca_1 x.Regs.length cc_2])::ro2 ca_1 cc_2 x.Regs::[]) L<|?_;exact h.shut_pur rfl
abbrev ob73 (B:Nat) (S:T_plunderref11_World) (k0:Value) (a5:Option Addr) (c5:Nat) (a6:Option Addr) (c6:Nat) (a7:Option Addr) (c7:Nat) (a8:Option Addr) (c8:Nat) (a9:Option Addr) (c9:Nat) (k10:Value):HProp:=pts B (.cells #[k0,vI S.N,vI S.Lim_Frames,vI S.Lim_First,vI S.Lim_Most,.slice a5 S.Cells.length c5,.slice a6 S.Frames.length c6,.slice a7 S.Workers.length c7,.slice a8 S.Events.length c8,.slice a9 S.Log.length c9,k10,vI S.Drawn,vI S.At,vI S.Value,vB S.HasV,vB S.Capped] 73)
abbrev rn153 (a:Option Addr) (c:Nat) (l:List T_plunderref11_Frame):HProp:=rowN 153 7 own_T_plunderref11_Frame (.slice a l.length c) l
abbrev ro151 (a:Option Addr) (c:Nat) (l:List T_plunderref11_Worker):HProp:=rowOf 151 14 enc_T_plunderref11_Worker (.slice a l.length c) l
abbrev ro47 (a:Option Addr) (c:Nat) (l:List T_api_Event):HProp:=rowOf 47 6 enc_T_api_Event (.slice a l.length c) l
end
end Go.Proofs.YtpikpffbcjpmcaaGreatDoor.Mo
