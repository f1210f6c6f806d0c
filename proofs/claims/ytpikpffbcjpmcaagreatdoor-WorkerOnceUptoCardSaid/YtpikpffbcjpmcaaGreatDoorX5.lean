/- plunderlaw11.WorkerOnce answers true for every input of the bulk that the statement names, and leaves its input alone. Conditions: none. -/
import Derived.Test.YtpikpffbcjpmcaaGreatDoorX4
set_option linter.unusedVariables false
set_option linter.unusedSimpArgs false
set_option linter.unusedSectionVars false
set_option maxRecDepth 100000
set_option maxHeartbeats 4000000
namespace Go.Proofs.YtpikpffbcjpmcaaGreatDoor
section
namespace workerOnceUptoRow
open Go.ChangeShapes Go.WideShapes Go.ChangeAt Go.RowKit
open SL GX RK Mo
theorem own:ownKnob Tryz.prog.godebug=none:=by kernel_rfl
theorem u3:Tryz.prog.cellsOf 248=1:=by kernel_rfl
theorem IB:Tryz.prog.cellsOf 97=1:=by kernel_rfl
theorem IC:Tryz.prog.cellsOf 30=2:=by kernel_rfl
theorem E4:Tryz.prog.cellsOf 28=1:=by kernel_rfl
theorem ID:Tryz.prog.cellsOf 27=3:=by kernel_rfl
theorem IE:Tryz.prog.cellsOf 25=1:=by kernel_rfl
theorem IF:Tryz.prog.cellsOf 24=1:=by kernel_rfl
theorem IG:Tryz.prog.cellsOf 22=1:=by kernel_rfl
theorem Lr:Tryz.prog.cellsOf 4=1:=by kernel_rfl
theorem ye:Tryz.prog.cellsOf 3=1:=by kernel_rfl
theorem Lt:Tryz.prog.cellsOf 2=1:=by kernel_rfl
def II(x:mE):DataW Unit:=.agg [.lit (.int .i64 x.a),.lit (.int .i64 x.b),.lit (.int .i64 x.c),.lit (.int .i64 x.k),.lit (.bool x.next)]
theorem IJ{W:World}:∀m cs y (x:mE),DataW.trod (λ_=>()) Tryz.prog W 0 (λ_=>true) false m 249 cs=some y->cs.length=5->y.1=II x->cs=kJ x:=by
 intro m cs y x h hl hd
 obtain⟨xs,m',_,hx,_,Lu,hg⟩:=DataW.trod_struct Tryz.underlying249 h
 match cs,hl,xs,Lu with
 | [c0,c1,c2,c3,c4],_,[x0,x1,x2,x3,x4],_ =>
  have g0:=hg 0 _ rfl
  simp only[u3,agb,afM,aej,afK,afP,agv,afE,afH,List.getElem?_cons_succ,List.getElem?_cons_zero]at g0
  obtain⟨y0,e0,f0,_⟩:=DataW.trod_int Tryz.underlying248 g0
  have g1:=hg 1 _ rfl
  simp only[u3,agb,afM,aej,afK,afP,agv,afE,afH,List.getElem?_cons_succ,List.getElem?_cons_zero]at g1
  obtain⟨y1,e1,f1,_⟩:=DataW.trod_int Tryz.underlying248 g1
  have g2:=hg 2 _ rfl
  simp only[u3,agb,afM,aej,afK,afP,agv,afE,afH,List.getElem?_cons_succ,List.getElem?_cons_zero]at g2
  obtain⟨y2,e2,f2,_⟩:=DataW.trod_int Tryz.underlying248 g2
  have g3:=hg 3 _ rfl
  simp only[u3,agb,afM,aej,afK,afP,agv,afE,afH,List.getElem?_cons_succ,List.getElem?_cons_zero]at g3
  obtain⟨y3,e3,f3,_⟩:=DataW.trod_int Tryz.underlying248 g3
  have g4:=hg 4 _ rfl
  simp only[Lr,agb,afM,aej,afK,afP,agv,afE,afH,List.getElem?_cons_succ,List.getElem?_cons_zero]at g4
  obtain⟨y4,e4,f4⟩:=DataW.trod_bool Tryz.underlying4 g4
  rw[hx]at hd
  simp only[II,afZ,af5,DataW.agg.injEq,List.cons.injEq,afI,f0,f1,f2,f3,f4,DataW.lit.injEq,Lit.int.injEq,Lit.bool.injEq,true_and]at hd
  simp only[List.cons.injEq,afI]at e0 e1 e2 e3 e4
  obtain⟨h0,h1,h2,h3,h4⟩:=hd
  simp only[e0,e1,e2,e3,e4,h0,h1,h2,h3,h4];rfl
def IK(x:Bool):DataW Unit:=.lit (.bool x)
theorem IL{W:World}:∀m cs y (x:Bool),DataW.trod (λ_=>()) Tryz.prog W 0 (λ_=>true) false m 4 cs=some y->cs.length=1->y.1=IK x->cs=wu x:=by
 intro m cs y x h hl hd
 obtain⟨y0,e0,f0⟩:=DataW.trod_bool Tryz.underlying4 h
 rw[f0]at hd
 simp only[IK,DataW.lit.injEq,Lit.bool.injEq]at hd
 rw[e0,hd];rfl
theorem zM{W:World}(h:laidMetH Tryz.prog Rows.workerOnceUptoRow.laid W):jJ [old W] 5 kJ (some ⟨1,0,none⟩) pF/\jJ [old W] 1 wu (some ⟨0,0,none⟩) zS:=by
 rw[MakeChecks.laidMetH_plain _ _ _ (by kernel_rfl)]at h
 obtain⟨ps,hV,_,_⟩:=h
 have Lv:DataW.LaidVars Tryz.prog W [("plunder/prog.fields",.agg (pF.map II)),("plunder/worker.idle",.agg (zS.map IK))] ps:=hV
 obtain⟨r0,L8,Lw⟩:=rz (by decide) (show Tryz.prog.globalNamed "plunder/prog.fields" = some 1 by kernel_rfl) (show(Tryz.prog.globals[1]?).map (·.type)=some 250 by kernel_rfl) Tryz.underlying250 (show Tryz.prog.cellsOf 249=5 by kernel_rfl) (show Tryz.prog.cellsOf 250=50 by kernel_rfl) rfl (λx=>rfl) IJ Lv
 obtain⟨r1,L9,Ma⟩:=rz (by decide) (show Tryz.prog.globalNamed "plunder/worker.idle" = some 0 by kernel_rfl) (show(Tryz.prog.globals[0]?).map (·.type)=some 136 by kernel_rfl) Tryz.underlying136 (show Tryz.prog.cellsOf 4=1 by kernel_rfl) (show Tryz.prog.cellsOf 136=15 by kernel_rfl) rfl (λx=>rfl) IL Lw
 exact⟨r0,r1⟩
def Ca(x:bC):Prop:=oI x.aQ/\oI x.A/\oI x.B/\oI x.C/\oI x.K
theorem E5{H:Type}{nL:TypeId×Value->H}{W:World}{n:Nat}{cs:List Value}{y:DataW H×List MemPlace}(h:DataW.trod nL Tryz.prog W 0 (λ_=>true) true n 146 cs=some y)(hl:cs.length=5) :∃x:bC,cs=gJ x/\Ca x:=by
 match cs,hl with
 | [c0,c1,c2,c3,c4],_ =>
  obtain⟨m0,z0,k0,b0⟩:=gi Tryz.underlying146 h 0 rfl
  simp only[ye,agb,afM,aej,afK,afP,agv,afE,afH]at k0
  obtain⟨y0,e0,i0⟩:=ju Tryz.underlying3 k0
  obtain⟨m1,z1,k1,b1⟩:=gi Tryz.underlying146 h 1 rfl
  simp only[ye,agb,afM,aej,afK,afP,agv,afE,afH]at k1
  obtain⟨y1,e1,i1⟩:=ju Tryz.underlying3 k1
  obtain⟨m2,z2,k2,b2⟩:=gi Tryz.underlying146 h 2 rfl
  simp only[ye,agb,afM,aej,afK,afP,agv,afE,afH]at k2
  obtain⟨y2,e2,i2⟩:=ju Tryz.underlying3 k2
  obtain⟨m3,z3,k3,b3⟩:=gi Tryz.underlying146 h 3 rfl
  simp only[ye,agb,afM,aej,afK,afP,agv,afE,afH]at k3
  obtain⟨y3,e3,i3⟩:=ju Tryz.underlying3 k3
  obtain⟨m4,z4,k4,b4⟩:=gi Tryz.underlying146 h 4 rfl
  simp only[Lt,agb,afM,aej,afK,afP,agv,afE,afH]at k4
  obtain⟨y4,e4,i4⟩:=ju Tryz.underlying2 k4
  simp only[List.cons.injEq,afI]at e0 e1 e2 e3 e4
  subst e0 e1 e2 e3 e4
  exact⟨⟨y0,y1,y2,y3,y4⟩,rfl,i0,i1,i2,i3,i4⟩
def JQ{H:Type}(x:ax)(d:DataW H):Prop:=oI x.MW/\oI x.dA/\oI x.cA/\x.Code.length+1<=Rows.uptoBulk d/\∀y∈x.Code,Ca y
theorem IM{H:Type}{nL:TypeId×Value->H}{W:World}{n:Nat}{cs:List Value}{y:DataW H×List MemPlace}(h:DataW.trod nL Tryz.prog W 0 (λ_=>true) true n 99 cs=some y)(hl:cs.length=4) :∃(a:Option Addr) (c:Nat) (x:ax),cs=AW a c x/\jJ [old W] 5 gJ a x.Code/\JQ x y.1:=by
 match cs,hl with
 | [c0,c1,c2,c3],_ =>
  obtain⟨m0,z0,k0,b0⟩:=gi Tryz.underlying99 h 0 rfl
  simp only[ye,agb,afM,aej,afK,afP,agv,afE,afH]at k0
  obtain⟨y0,e0,i0⟩:=ju Tryz.underlying3 k0
  obtain⟨m1,z1,k1,b1⟩:=gi Tryz.underlying99 h 1 rfl
  simp only[ye,agb,afM,aej,afK,afP,agv,afE,afH]at k1
  obtain⟨y1,e1,i1⟩:=ju Tryz.underlying3 k1
  obtain⟨m2,z2,k2,b2⟩:=gi Tryz.underlying99 h 2 rfl
  simp only[ye,agb,afM,aej,afK,afP,agv,afE,afH]at k2
  obtain⟨y2,e2,i2⟩:=ju Tryz.underlying3 k2
  obtain⟨m3,z3,k3,b3⟩:=gi Tryz.underlying99 h 3 rfl
  simp only[IB,agb,afM,aej,afK,afP,agv,afE,afH]at k3
  obtain⟨va,l,cap,e3,r3,q3,g3,_⟩:=sK (Q:=λx _=>Ca x) mU Tryz.underlying97 (by kernel_rfl) (λn cs y h hl=>E5 h hl) k3
  simp only[List.cons.injEq,afI]at e0 e1 e2 e3
  subst e0 e1 e2 e3
  exact⟨va,cap,⟨y0,y1,y2,l⟩,rfl,r3,i0,i1,i2,by show l.length+1<=_;omega,λx hx=>by obtain⟨_,h,_⟩:=q3 x hx;exact h⟩
set_option maxRecDepth 100000 in
theorem contract(H:Type)(enc:TypeId×Value->H)(W:World)(base:Nat)(args:Array Value)(ds gs:List (DataW H))(before:List MemPlace)
 (hval:∀(j:Nat) t v,Tryz.f12.params[j]? = some t->args[j]? = some v->Value.okWide Tryz.prog W .any base t v)
 (hW:DataW.Whole enc Tryz.prog Tryz.f12.params.toList Rows.workerOnceSpec.vars false W args.toList ds gs before) (hk:Rows.uptoSmall H (ds++gs)=true) (hL:laidMetH Tryz.prog Rows.workerOnceUptoRow.laid W) :
 Calls Tryz.prog 12 args W λe W' =>∃v,e= .returned v/\Rows.workerOnceSpec.post enc Tryz.prog Tryz.f12 false true false false W args v W':=by
 have hG:=zM hL
 have Lx:=hW
 obtain⟨p,q,Ly,hV,rfl,hfz,GQ⟩:=hW
 have hA:DataW.TrodAll enc Tryz.prog W 0 (λ_=>true) true Tryz.f12.params.toList args.toList ds p:=Ly
 rw[Tryz.params12]at hA hval
 have IP:=hA
 obtain⟨v0,Mb,d0,Mc,p0,q0,hargs,rfl,rfl,h0,r0⟩:=trodAll_cons hA
 obtain⟨rfl,rfl,rfl⟩:=trodAll_nil r0
 obtain rfl:args=#[v0]:=by cases args;simp_all
 obtain⟨rfl,rfl⟩:=trodVars_none hV
 have E6:Rows.uptoBulkAll _<=1048576:=of_decide_eq_true hk
 have Mf:Rows.uptoBulk (d0,p0).1<=1048576:=agq (pR (d:=d0) (by simp)) E6
 obtain⟨JR,rfl,_⟩:=okWide_struct Tryz.underlying32 (hval 0 32 v0 rfl rfl)
 obtain⟨Lz,Av⟩:=h0
 have Av:DataW.trod enc Tryz.prog W 0 (λ_=>true) true Lz 32 JR.toList=some (d0,p0):=Av
 have hlc:=AV Tryz.underlying32 Av
 rw[show Tryz.prog.cellsOf 32=8 by kernel_rfl]at hlc
 obtain⟨lc⟩:=JR
 obtain⟨Gb,Gc,Gd,Ge,Gf,Gg,Gh,Gi,rfl⟩ :∃Gb Gc Gd Ge Gf Gg Gh Gi,lc=[Gb,Gc,Gd,Ge,Gf,Gg,Gh,Gi]:=by match lc,hlc with | [Gb,Gc,Gd,Ge,Gf,Gg,Gh,Gi],_=>exact⟨Gb,Gc,Gd,Ge,Gf,Gg,Gh,Gi,rfl⟩
 obtain⟨Mg,Mh,Gl,Mi⟩:=gi Tryz.underlying32 Av 0 rfl
 simp only[IF,agb,afM,aej,afK,afP,agv,afE,afH]at Gl
 obtain⟨Mj,Mk,Gm,Ml⟩:=gi Tryz.underlying24 Gl 0 rfl
 simp only[IG,agb,afM,aej,afK,afP,agv,afE,afH]at Gm
 obtain⟨IQ,IU,Gj,IV,JS,LA,LB,Mm,LC⟩:=yA (Q:=JQ) (enc:=AW) (lP:=gJ) (vi:=ax.Code) (sz:=4) (vh:=5) (λa c=>⟨λ_=>rfl,λx u h=>by simp only[AW,afv,afw,afx]at h;rcases h with rfl | rfl | rfl | rfl<;>rfl,by decide⟩) Tryz.underlying22 (by kernel_rfl) (λn cs y h hl=>IM h hl) Gm
 simp only[List.cons.injEq,afI]at JS
 subst JS
 obtain⟨Mn,Mp,Gp,Mq⟩:=gi Tryz.underlying32 Av 1 rfl
 simp only[IE,agb,afM,aej,afK,afP,agv,afE,afH]at Gp
 obtain⟨IW,IX,IY,JT,LD,Mr,Ms,LF⟩:=qd Tryz.underlying25 Tryz.underlying2 (by kernel_rfl) Gp
 simp only[List.cons.injEq,afI]at JT
 subst JT
 obtain⟨Mt,Mu,Gr,Mv⟩:=gi Tryz.underlying32 Av 2 rfl
 simp only[ye,agb,afM,aej,afK,afP,agv,afE,afH]at Gr
 obtain⟨GR,JU,Mw⟩:=ju Tryz.underlying3 Gr
 simp only[List.cons.injEq,afI]at JU
 subst JU
 obtain⟨Mx,My,CV,Mz⟩:=gi Tryz.underlying32 Av 3 rfl
 simp only[ID,agb,afM,aej,afK,afP,agv,afE,afH]at CV
 obtain⟨MA,MB,Gv,MC⟩:=gi Tryz.underlying27 CV 0 rfl
 simp only[ye,agb,afM,aej,afK,afP,agv,afE,afH]at Gv
 obtain⟨GS,JV,MD⟩:=ju Tryz.underlying3 Gv
 simp only[List.cons.injEq,afI]at JV
 subst JV
 obtain⟨ME,MF,Gx,MG⟩:=gi Tryz.underlying27 CV 1 rfl
 simp only[ye,agb,afM,aej,afK,afP,agv,afE,afH]at Gx
 obtain⟨GU,JW,MH⟩:=ju Tryz.underlying3 Gx
 simp only[List.cons.injEq,afI]at JW
 subst JW
 obtain⟨MI,MJ,Gz,MK⟩:=gi Tryz.underlying27 CV 2 rfl
 simp only[ye,agb,afM,aej,afK,afP,agv,afE,afH]at Gz
 obtain⟨GV,JX,ML⟩:=ju Tryz.underlying3 Gz
 simp only[List.cons.injEq,afI]at JX
 subst JX
 obtain⟨MM,MN,FB,MO⟩:=gi Tryz.underlying32 Av 4 rfl
 simp only[IC,agb,afM,aej,afK,afP,agv,afE,afH]at FB
 obtain⟨LG,LH,AM,LI⟩:=gi Tryz.underlying30 FB 0 rfl
 simp only[E4,agb,afM,aej,afK,afP,agv,afE,afH]at AM
 obtain⟨E7,Cb,E8,E9,IZ,LJ,LK,JY⟩:=qd Tryz.underlying28 Tryz.underlying3 (by kernel_rfl) AM
 simp only[List.cons.injEq,afI]at E9
 subst E9
 obtain⟨LL,LM,AO,LN⟩:=gi Tryz.underlying30 FB 1 rfl
 simp only[E4,agb,afM,aej,afK,afP,agv,afE,afH]at AO
 obtain⟨Fa,Cd,Fb,Fc,I0,LP,LQ,JZ⟩:=qd Tryz.underlying28 Tryz.underlying3 (by kernel_rfl) AO
 simp only[List.cons.injEq,afI]at Fc
 subst Fc
 have J0 :∃c:aN,c=⟨Gj,IX,GR,GS,GU,GV,Cb,Cd⟩:=⟨_,rfl⟩
 have H0:=(show Pg 5000000 (⟨Gj,IX,GR,GS,GU,GV,Cb,Cd⟩:aN)=some true from v8 ⟨by show Gj.length<=_;omega,λi hi=>by obtain⟨d,q,hd⟩:=LB _ (je hi);have:=q.2.2.2.1;show(ag Gj i).Code.length<=_;omega,by show IX.length<=_;omega,by show Cb.length<=_;omega,by show Cd.length<=_;omega⟩ (by decide))
 refine(pn (Aw:=IQ) (Ax:=IV) (Ay:=LA) (Az:=IU) (Fe:=IW) (Ff:=IY) (Fg:=LD) (AA:=E7) (AB:=E8) (AD:=IZ) (AE:=Fa) (AF:=Fb) (AG:=I0) (MP:=hG.1) (CF:=hG.2) (H:=H0) (h:=Fit.begin W)).mono λe W' ⟨he,hF⟩ => ?_
 subst he
 have jC:=hF.below
 exact⟨_,rfl,_,_,_,[],_,[],Lx,trodAll_mk1 (shut_bool Tryz.underlying4 _),mO (by kernel_rfl) jC (by kernel_rfl) IP,rfl,jC.frame _,λh=>by cases h⟩
def Ce:Array Value:=(pF.flatMap kJ).toArray
def Cf:Array Value:=(zS.flatMap wu).toArray
noncomputable def n5(os:Os):World:={World.holding Tryz.prog os ⟨#[],#[],[]⟩with heap:=(((World.holding Tryz.prog os ⟨#[],#[],[]⟩).heap.modify 1 (fun | .cells _ t frozen=>.cells Ce t frozen | o=>o)).modify 0 (fun | .cells _ t frozen=>.cells Cf t frozen | o=>o))}
theorem yf(os:Os):laidMet Tryz.prog Rows.workerOnceUptoRow.laid ((n5 os).forCall (λ_ _=>0) ⟨#[],#[.agg #[.slice none 0 0,.slice none 0 0,.int .i64 0,.int .i64 0,.int .i64 0,.int .i64 0,.slice none 0 0,.slice none 0 0]],[]⟩).memory:=
 laidMet_of_run' 40 (by kernel_rfl) (by kernel_rfl)
theorem reads(os:Os){H:Type}(enc:TypeId×Value->H) :∃places,DataW.whole enc Tryz.prog ((n5 os).forCall (λ_ _=>0) ⟨#[],#[.agg #[.slice none 0 0,.slice none 0 0,.int .i64 0,.int .i64 0,.int .i64 0,.int .i64 0,.slice none 0 0,.slice none 0 0]],[]⟩).memory Tryz.f12.params.toList Rows.workerOnceSpec.vars false (#[.agg #[.slice none 0 0,.slice none 0 0,.int .i64 0,.int .i64 0,.int .i64 0,.int .i64 0,.slice none 0 0,.slice none 0 0]]:Array Value).toList 16=some ([.agg [.agg [.nil],.nil,.lit (.int .i64 0),.agg [.lit (.int .i64 0),.lit (.int .i64 0),.lit (.int .i64 0)],.agg [.nil,.nil]]],[],places):=
 ⟨[],by kernel_rfl⟩
set_option maxRecDepth 100000 in
theorem lifted(os:Os)(started:os.Started)(H:Type)(enc:TypeId×Value->H)(F:Stop.Interp) :
 ReturnsInHanded {} Tryz.checked os 12 .any ((Rows.OpenSpec.upto Rows.workerOnceSpec).preRow enc Tryz.prog Tryz.f12 Rows.workerOnceUptoRow.domain false Rows.workerOnceUptoRow.laid) (((Rows.OpenSpec.upto Rows.workerOnceSpec).at F).post enc Tryz.prog Tryz.f12 false true false false):=by
 obtain⟨places,hx⟩:=reads os enc
 refine returnsInHanded_of_row (C:=Tryz.checked) (s:=Rows.OpenSpec.upto Rows.workerOnceSpec) own started (by kernel_rfl) Tryz.func12
  (witness_row_at (enc:=enc) (C:=Tryz.checked) false (n5 os) #[.agg #[.slice none 0 0,.slice none 0 0,.int .i64 0,.int .i64 0,.int .i64 0,.int .i64 0,.slice none 0 0,.slice none 0 0]] rfl (by kernel_rfl) (by kernel_rfl) (by kernel_rfl)
   (OpenSpec.preRow_of_cond 16 hx (by kernel_rfl) (λk hk=>by cases hk;kernel_rfl) (by kernel_rfl) (yf os))) ?_
 intro W base args ds gs before hval hW _ Fh _ hL _ _
 exact contract H enc W base args ds gs before hval hW (Fh _ rfl) hL
theorem eK{a b:Bool}(h1:a=true)(h2:b=true):(a&&b)=true:=by rw[h1,h2];rfl
set_option maxHeartbeats 4000000 in
theorem facts:joinedFacts Tryz.pinned.checked.prog 12 Tryz.f12 (Rows.OpenSpec.upto Rows.workerOnceSpec).bare Rows.workerOnceUptoRow=true:=by
 unfold joinedFacts
 refine eK (eK (eK (eK (eK (eK (eK (eK (eK (eK (eK (eK (eK (eK (eK (eK (eK (eK (eK (eK (eK (eK (eK (eK (eK (eK (eK (eK (eK (eK (eK ?_ ?_) ?_) ?_) ?_) ?_) ?_) ?_) ?_) ?_) ?_) ?_) ?_) ?_) ?_) ?_) ?_) ?_) ?_) ?_) ?_) ?_) ?_) ?_) ?_) ?_) ?_) ?_) ?_) ?_) ?_) ?_
 all_goals as_aux_lemma=>kernel_rfl
theorem proved:Rows.WorkerOnceUptoSaid:=
 OpenClaim.holds_of_cond 12 Tryz.f12 rfl rfl rfl rfl rfl rfl rfl ⟨rfl,rfl,rfl,rfl,rfl⟩ rfl rfl rfl rfl rfl (by kernel_rfl) Tryz.func12 facts
  (of_decide_eq_true (by kernel_rfl)) (by unfold Func.isWrapper;first | (rw[au (by decide +kernel)];kernel_rfl) | (rw[aj (by decide +kernel)];exact⟨rfl,rfl⟩))
  (λos started H enc _ F=>by rw[OpenClaim.pre_eq_preRow];exact lifted os started H enc F)
theorem plain(f:FuncId)(fn:Func)(hf:Tryz.pinned.checked.prog.funcNamed "plunder/plunderlaw11.WorkerOnce" = some f) (hfn:Tryz.pinned.checked.prog.funcs[f]? = some fn) :
 true=Tryz.pinned.checked.prog.looks []/\∀(j:Nat) t,fn.params[j]? = some t->Tryz.pinned.checked.prog.wantsStandIn t=false:=by
 obtain rfl:f=12:=Option.some.inj ((show Tryz.prog.funcNamed "plunder/plunderlaw11.WorkerOnce" = some 12 by kernel_rfl).symm.trans hf) |>.symm
 obtain rfl:fn=Tryz.f12:=(Option.some.inj (Tryz.func12.symm.trans hfn)).symm
 refine⟨by kernel_rfl,λj t ht => ?_⟩
 rw[Tryz.params12]at ht
 have ht:=Array.mem_of_getElem? ht
 simp only[List.mem_toArray,afv,afw,afx]at ht
 subst ht
 exact(show Tryz.prog.wantsStandIn 32=false by kernel_rfl)
theorem card:Rows.WorkerOnceUptoCardSaid:=
 Claim7.holds_tied_plain_at .later [] _ _ _ _ proved (λ_ h=>by cases h) (by kernel_rfl) (λ_ h=>by cases h) workerOnceUpto_row_tie rfl ⟨rfl,rfl⟩ (by kernel_rfl) rfl plain (by kernel_rfl)
#print axioms card
end workerOnceUptoRow
section
theorem workerOnceUpto_holds:Rows.WorkerOnceUptoCardSaid:=workerOnceUptoRow.card
end
end
end Go.Proofs.YtpikpffbcjpmcaaGreatDoor
