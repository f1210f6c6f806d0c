/- plunderlaw11.WorkerOrder answers true for every input of the bulk that the statement names, and leaves its input alone. Conditions: none. -/
import Derived.Test.YtaiffafelihaaaaGreatDoorU4
set_option linter.all false
set_option maxRecDepth 100000
namespace Go.Proofs.YtaiffafelihaaaaGreatDoor
open Proofs.Tryz
namespace workerOrderUptoRow
open Go.ChangeShapes Go.WideShapes Go.ChangeAt Go.RowKit
open SL GX RK Mo
theorem own:ownKnob Tryz.prog.godebug=none:=by kernel_rfl
theorem PE:Tryz.prog.cellsOf 214=1:=by kernel_rfl
theorem aeA:Tryz.prog.cellsOf 83=1:=by kernel_rfl
theorem aeB:Tryz.prog.cellsOf 30=2:=by kernel_rfl
theorem aci:Tryz.prog.cellsOf 28=1:=by kernel_rfl
theorem aeC:Tryz.prog.cellsOf 27=3:=by kernel_rfl
theorem aeD:Tryz.prog.cellsOf 25=1:=by kernel_rfl
theorem aeE:Tryz.prog.cellsOf 24=1:=by kernel_rfl
theorem aeF:Tryz.prog.cellsOf 22=1:=by kernel_rfl
theorem cl4:Tryz.prog.cellsOf 4=1:=by kernel_rfl
theorem T3:Tryz.prog.cellsOf 3=1:=by kernel_rfl
theorem cl2:Tryz.prog.cellsOf 2=1:=by kernel_rfl
def dE1(x:uG):DataW Unit:=.agg [.lit (.int .i64 x.a),.lit (.int .i64 x.b),.lit (.int .i64 x.c),.lit (.int .i64 x.k),.lit (.bool x.next)]
theorem aeG{W:World}:∀m cs y (x:uG),DataW.trod (λ_=>()) Tryz.prog W 0 (λ_=>true) false m 215 cs=some y->cs.length=5->y.1=dE1 x->cs=gJ x:=by
 intro m cs y x h hl hd;obtain⟨xs,m',_,hx,_,hxl,hg⟩:=DataW.trod_struct Tryz.underlying215 h
 match cs,hl,xs,hxl with
 | [c0,c1,c2,c3,c4],_,[x0,x1,x2,x3,x4],_ =>
  have g0:=hg 0 _ rfl;simp only[PE,qJ,ni,oJ,uB,ry,rz,rB,rC,List.getElem?_cons_succ,List.getElem?_cons_zero]at g0;obtain⟨y0,e0,f0,_⟩:=DataW.trod_int Tryz.underlying214 g0;have g1:=hg 1 _ rfl;simp only[PE,qJ,ni,oJ,uB,ry,rz,rB,rC,List.getElem?_cons_succ,List.getElem?_cons_zero]at g1;obtain⟨y1,e1,f1,_⟩:=DataW.trod_int Tryz.underlying214 g1;have g2:=hg 2 _ rfl;simp only[PE,qJ,ni,oJ,uB,ry,rz,rB,rC,List.getElem?_cons_succ,List.getElem?_cons_zero]at g2;obtain⟨y2,e2,f2,_⟩:=DataW.trod_int Tryz.underlying214 g2;have g3:=hg 3 _ rfl;simp only[PE,qJ,ni,oJ,uB,ry,rz,rB,rC,List.getElem?_cons_succ,List.getElem?_cons_zero]at g3;obtain⟨y3,e3,f3,_⟩:=DataW.trod_int Tryz.underlying214 g3;have g4:=hg 4 _ rfl;simp only[cl4,qJ,ni,oJ,uB,ry,rz,rB,rC,List.getElem?_cons_succ,List.getElem?_cons_zero]at g4;obtain⟨y4,e4,f4⟩:=DataW.trod_bool Tryz.underlying4 g4;rw[hx]at hd;simp only[dE1,zT,AD,DataW.agg.injEq,List.cons.injEq,zV,f0,f1,f2,f3,f4,DataW.lit.injEq,Lit.int.injEq,Lit.bool.injEq,true_and]at hd;simp only[List.cons.injEq,zV]at e0 e1 e2 e3 e4;obtain⟨h0,h1,h2,h3,h4⟩:=hd;simp only[e0,e1,e2,e3,e4,h0,h1,h2,h3,h4];rfl
def dE0(x:Bool):DataW Unit:=.lit (.bool x)
theorem aeH{W:World}:∀m cs y (x:Bool),DataW.trod (λ_=>()) Tryz.prog W 0 (λ_=>true) false m 4 cs=some y->cs.length=1->y.1=dE0 x->cs=Gc x:=by
 intro m cs y x h hl hd;obtain⟨y0,e0,f0⟩:=DataW.trod_bool Tryz.underlying4 h;rw[f0]at hd;simp only[dE0,DataW.lit.injEq,Lit.bool.injEq]at hd;rw[e0,hd];rfl
theorem We{W:World}(h:laidMetH Tryz.prog Rows.workerOrderUptoRow.laid W):bL [old W] 5 gJ (some ⟨1,0,none⟩) w6/\bL [old W] 1 Gc (some ⟨0,0,none⟩) OC:=by
 rw[MakeChecks.laidMetH_plain _ _ _ aK]at h;obtain⟨ps,hV,_,_⟩:=h;have hV0:DataW.LaidVars Tryz.prog W [("plunder/prog.fields",.agg (w6.map dE1)),("plunder/worker.idle",.agg (OC.map dE0))] ps:=hV
 obtain⟨r0,ps0,hV1⟩:=KQ eL (show Tryz.prog.globalNamed "plunder/prog.fields" = some 1 by kernel_rfl) (show(Tryz.prog.globals[1]?).map (·.type)=some 216 by kernel_rfl) Tryz.underlying216 (show Tryz.prog.cellsOf 215=5 by kernel_rfl) (show Tryz.prog.cellsOf 216=50 by kernel_rfl) rfl (λx=>rfl) aeG hV0
 obtain⟨r1,ps1,hV2⟩:=KQ eL (show Tryz.prog.globalNamed "plunder/worker.idle" = some 0 by kernel_rfl) (show(Tryz.prog.globals[0]?).map (·.type)=some 123 by kernel_rfl) Tryz.underlying123 (show Tryz.prog.cellsOf 4=1 by kernel_rfl) (show Tryz.prog.cellsOf 123=15 by kernel_rfl) rfl (λx=>rfl) aeH hV1
 exact⟨r0,r1⟩
def Y6(x:cx):Prop:=Gj x.aL/\Gj x.A/\Gj x.B/\Gj x.C/\Gj x.K
theorem acj{H:Type}{D3:TypeId×Value->H}{W:World}{n:Nat}{cs:List Value}{y:DataW H×List MemPlace}(h:DataW.trod D3 Tryz.prog W 0 (λ_=>true) true n 132 cs=some y)(hl:cs.length=5) :∃x:cx,cs=cT x/\Y6 x:=by
 match cs,hl with
 | [c0,c1,c2,c3,c4],_ =>
  obtain⟨m0,z0,k0,b0⟩:=p9 Tryz.underlying132 h 0 rfl;simp only[T3,qJ,ni,oJ,uB,ry,rz,rB,rC]at k0;obtain⟨y0,e0,i0⟩:=uD Tryz.underlying3 k0;obtain⟨m1,z1,k1,b1⟩:=p9 Tryz.underlying132 h 1 rfl;simp only[T3,qJ,ni,oJ,uB,ry,rz,rB,rC]at k1;obtain⟨y1,e1,i1⟩:=uD Tryz.underlying3 k1;obtain⟨m2,z2,k2,b2⟩:=p9 Tryz.underlying132 h 2 rfl;simp only[T3,qJ,ni,oJ,uB,ry,rz,rB,rC]at k2;obtain⟨y2,e2,i2⟩:=uD Tryz.underlying3 k2;obtain⟨m3,z3,k3,b3⟩:=p9 Tryz.underlying132 h 3 rfl;simp only[T3,qJ,ni,oJ,uB,ry,rz,rB,rC]at k3;obtain⟨y3,e3,i3⟩:=uD Tryz.underlying3 k3;obtain⟨m4,z4,k4,b4⟩:=p9 Tryz.underlying132 h 4 rfl;simp only[cl2,qJ,ni,oJ,uB,ry,rz,rB,rC]at k4;obtain⟨y4,e4,i4⟩:=uD Tryz.underlying2 k4;simp only[List.cons.injEq,zV]at e0 e1 e2 e3 e4;subst e0 e1 e2 e3 e4;exact⟨⟨y0,y1,y2,y3,y4⟩,rfl,i0,i1,i2,i3,i4⟩
def Q85{H:Type}(x:aD)(d:DataW H):Prop:=Gj x.aV/\Gj x.dg/\Gj x.bM/\x.aq.length+1<=Rows.uptoBulk d/\∀y∈x.aq,Y6 y
theorem aeI{H:Type}{D3:TypeId×Value->H}{W:World}{n:Nat}{cs:List Value}{y:DataW H×List MemPlace}(h:DataW.trod D3 Tryz.prog W 0 (λ_=>true) true n 85 cs=some y)(hl:cs.length=4) :∃(a:fR) (c:Nat) (x:aD),cs=Sc a c x/\bL [old W] 5 cT a x.aq/\Q85 x y.1:=by
 match cs,hl with
 | [c0,c1,c2,c3],_ =>
  obtain⟨m0,z0,k0,b0⟩:=p9 Tryz.underlying85 h 0 rfl;simp only[T3,qJ,ni,oJ,uB,ry,rz,rB,rC]at k0;obtain⟨y0,e0,i0⟩:=uD Tryz.underlying3 k0;obtain⟨m1,z1,k1,b1⟩:=p9 Tryz.underlying85 h 1 rfl;simp only[T3,qJ,ni,oJ,uB,ry,rz,rB,rC]at k1;obtain⟨y1,e1,i1⟩:=uD Tryz.underlying3 k1;obtain⟨m2,z2,k2,b2⟩:=p9 Tryz.underlying85 h 2 rfl;simp only[T3,qJ,ni,oJ,uB,ry,rz,rB,rC]at k2;obtain⟨y2,e2,i2⟩:=uD Tryz.underlying3 k2;obtain⟨m3,z3,k3,b3⟩:=p9 Tryz.underlying85 h 3 rfl;simp only[aeA,qJ,ni,oJ,uB,ry,rz,rB,rC]at k3;obtain⟨va,l,cap,e3,r3,q3,g3,_⟩:=MV (Q:=λx _=>Y6 x) iC Tryz.underlying83 aK (λn cs y h hl=>acj h hl) k3;simp only[List.cons.injEq,zV]at e0 e1 e2 e3;subst e0 e1 e2 e3;exact⟨va,cap,⟨y0,y1,y2,l⟩,rfl,r3,i0,i1,i2,by show l.length+1<=_;omega,λx hx=>by obtain⟨_,h,_⟩:=q3 x hx;exact h⟩
set_option maxRecDepth 100000 in
theorem contract(H:Type)(enc:TypeId×Value->H)(W:World)(base:Nat)(args:Array Value)(ds gs:List (DataW H))(before:List MemPlace)
 (hval:∀(j:Nat) t v,Tryz.f10.params[j]? = some t->args[j]? = some v->Value.okWide Tryz.prog W .any base t v)
 (hW:DataW.Whole enc Tryz.prog Tryz.f10.params.toList Rows.workerOrderSpec.vars false W args.toList ds gs before) (hk:Rows.uptoSmall H (ds++gs)=true) (hL:laidMetH Tryz.prog Rows.workerOrderUptoRow.laid W) :
 Calls Tryz.prog 10 args W λe W' =>∃v,e= .returned v/\Rows.workerOrderSpec.post enc Tryz.prog Tryz.f10 false true false false W args v W':=by
 have hG:=We hL;have hW':=hW;obtain⟨p,q,hA0,hV,rfl,hfz,hnd⟩:=hW;have hA:DataW.TrodAll enc Tryz.prog W 0 (λ_=>true) true Tryz.f10.params.toList args.toList ds p:=hA0;rw[Tryz.params10]at hA hval;have aeJ:=hA;obtain⟨v0,vs0,d0,ds0,O,q0,hargs,rfl,rfl,h0,r0⟩:=trodAll_cons hA;obtain⟨rfl,rfl,rfl⟩:=trodAll_nil r0;obtain rfl:args=#[v0]:=by cases args;simp_all
 obtain⟨rfl,rfl⟩:=trodVars_none hV;have ack:Rows.uptoBulkAll _<=1048576:=of_decide_eq_true hk;have hBc:Rows.uptoBulk (d0,O).1<=1048576:=E1 (IG (d:=d0) (by simp)) ack;obtain⟨csc,rfl,_⟩:=okWide_struct Tryz.underlying32 (hval 0 32 v0 rfl rfl);obtain⟨fuc,Xe⟩:=h0;have Xe:DataW.trod enc Tryz.prog W 0 (λ_=>true) true fuc 32 csc.toList=some (d0,O):=Xe;have hlc:=Xu Tryz.underlying32 Xe;rw[show Tryz.prog.cellsOf 32=8 by kernel_rfl]at hlc;obtain⟨lc⟩:=csc;obtain⟨c_0,c_1,c_2,c_3,c_4,c_5,c_6,c_7,rfl⟩ :∃c_0 c_1 c_2 c_3 c_4 c_5 c_6 c_7,lc=[c_0,c_1,c_2,c_3,c_4,c_5,c_6,c_7]:=by match lc,hlc with | [c_0,c_1,c_2,c_3,c_4,c_5,c_6,c_7],_=>exact⟨c_0,c_1,c_2,c_3,c_4,c_5,c_6,c_7,rfl⟩
 obtain⟨mc1,zc1,Ze,bc1⟩:=p9 Tryz.underlying32 Xe 0 rfl;simp only[aeE,qJ,ni,oJ,uB,ry,rz,rB,rC]at Ze;obtain⟨mc2,zc2,Zf,bc2⟩:=p9 Tryz.underlying24 Ze 0 rfl;simp only[aeF,qJ,ni,oJ,uB,ry,rz,rB,rC]at Zf;obtain⟨aeK,aeL,lc2,aeM,ec2,rc2,qc2,gc2,afe⟩:=UE (Q:=Q85) (enc:=Sc) (iX:=cT) (uq:=aD.aq) (sz:=4) (rY:=5) (λa c=>⟨λ_=>rfl,λx afv h=>by simp only[Sc,sN,sO,sP]at h;rcases h with rfl | rfl | rfl | rfl<;>rfl,eL⟩) Tryz.underlying22 aK (λn cs y h hl=>aeI h hl) Zf;simp only[List.cons.injEq,zV]at ec2;subst ec2;obtain⟨mc3,zc3,Zg,bc3⟩:=p9 Tryz.underlying32 Xe 1 rfl;simp only[aeD,qJ,ni,oJ,uB,ry,rz,rB,rC]at Zg;obtain⟨aeN,lc3,aeO,ec3,rc3,qc3,gc3,aff⟩:=Jn Tryz.underlying25 Tryz.underlying2 aK Zg;simp only[List.cons.injEq,zV]at ec3;subst ec3;obtain⟨mc4,zc4,kc4,bc4⟩:=p9 Tryz.underlying32 Xe 2 rfl;simp only[T3,qJ,ni,oJ,uB,ry,rz,rB,rC]at kc4;obtain⟨kX,ec4,ic4⟩:=uD Tryz.underlying3 kc4;simp only[List.cons.injEq,zV]at ec4;subst ec4;obtain⟨mc5,zc5,kc5,bc5⟩:=p9 Tryz.underlying32 Xe 3 rfl;simp only[aeC,qJ,ni,oJ,uB,ry,rz,rB,rC]at kc5;obtain⟨mc6,zc6,kc6,bc6⟩:=p9 Tryz.underlying27 kc5 0 rfl;simp only[T3,qJ,ni,oJ,uB,ry,rz,rB,rC]at kc6;obtain⟨xc6,ec6,ic6⟩:=uD Tryz.underlying3 kc6;simp only[List.cons.injEq,zV]at ec6;subst ec6;obtain⟨mc7,zc7,kc7,bc7⟩:=p9 Tryz.underlying27 kc5 1 rfl;simp only[T3,qJ,ni,oJ,uB,ry,rz,rB,rC]at kc7;obtain⟨xc7,ec7,ic7⟩:=uD Tryz.underlying3 kc7;simp only[List.cons.injEq,zV]at ec7;subst ec7;obtain⟨mc8,zc8,kc8,bc8⟩:=p9 Tryz.underlying27 kc5 2 rfl;simp only[T3,qJ,ni,oJ,uB,ry,rz,rB,rC]at kc8;obtain⟨xc8,ec8,ic8⟩:=uD Tryz.underlying3 kc8;simp only[List.cons.injEq,zV]at ec8;subst ec8;obtain⟨mc9,zc9,kc9,bc9⟩:=p9 Tryz.underlying32 Xe 4 rfl;simp only[aeB,qJ,ni,oJ,uB,ry,rz,rB,rC]at kc9;obtain⟨afg,afh,Xl,afi⟩:=p9 Tryz.underlying30 kc9 0 rfl;simp only[aci,qJ,ni,oJ,uB,ry,rz,rB,rC]at Xl;obtain⟨acm,Y7,acn,aco,aeP,afj,afk,aeV⟩:=Jn Tryz.underlying28 Tryz.underlying3 aK Xl;simp only[List.cons.injEq,zV]at aco;subst aco;obtain⟨afl,afm,Xn,afn⟩:=p9 Tryz.underlying30 kc9 1 rfl;simp only[aci,qJ,ni,oJ,uB,ry,rz,rB,rC]at Xn;obtain⟨acp,Y8,acq,acr,aeQ,afo,afp,aeW⟩:=Jn Tryz.underlying28 Tryz.underlying3 aK Xn;simp only[List.cons.injEq,zV]at acr;subst acr;have aeX :∃c:bO,c=⟨lc2,lc3,kX,xc6,xc7,xc8,Y7,Y8⟩:=⟨_,rfl⟩;have H0:=(show lq 5000000 (⟨lc2,lc3,kX,xc6,xc7,xc8,Y7,Y8⟩:bO)=some true from N7 ⟨by show lc2.length<=_;omega,λi hi=>by obtain⟨d,q,hd⟩:=qc2 _ (ud hi);have:=q.2.2.2.1;show(J lc2 i).aq.length<=_;omega,by show lc3.length<=_;omega,by show Y7.length<=_;omega,by show Y8.length<=_;omega⟩ eL);refine(wj (cH:=aeK) (cZ:=aeM) (fU:=rc2) (eX:=aeL) (dB:=aeN) (eD:=aeO) (nQ:=rc3) (bz:=acm) (bS:=acn) (iJ:=aeP) (bH:=acp) (cg:=acq) (jF:=aeQ) (uu:=hG.1) (LS:=hG.2) (H:=H0) (h:=Fit.begin W)).mono λe W' ⟨he,hF⟩ => ?_;subst he;have uT:=hF.below;exact⟨_,rfl,_,_,_,[],_,[],hW',trodAll_mk1 (shut_bool Tryz.underlying4 _),Cm aK uT aK aeJ,rfl,uT.frame _,λh=>by cases h⟩
def Y9:Array Value:=(w6.flatMap gJ).toArray
def Za:Array Value:=(OC.flatMap Gc).toArray
noncomputable def EK(os:Os):World:={World.holding Tryz.prog os ⟨#[],#[],[]⟩with heap:=(((World.holding Tryz.prog os ⟨#[],#[],[]⟩).heap.modify 1 (fun | .cells _ t frozen=>.cells Y9 t frozen | o=>o)).modify 0 (fun | .cells _ t frozen=>.cells Za t frozen | o=>o))}
theorem T4(os:Os):laidMet Tryz.prog Rows.workerOrderUptoRow.laid ((EK os).forCall (λ_ _=>0) ⟨#[],#[.agg #[.slice none 0 0,.slice none 0 0,.int .i64 0,.int .i64 0,.int .i64 0,.int .i64 0,.slice none 0 0,.slice none 0 0]],[]⟩).memory:=
 laidMet_of_run' 40 aK aK
theorem reads(os:Os){H:Type}(enc:TypeId×Value->H) :∃places,DataW.whole enc Tryz.prog ((EK os).forCall (λ_ _=>0) ⟨#[],#[.agg #[.slice none 0 0,.slice none 0 0,.int .i64 0,.int .i64 0,.int .i64 0,.int .i64 0,.slice none 0 0,.slice none 0 0]],[]⟩).memory Tryz.f10.params.toList Rows.workerOrderSpec.vars false (#[.agg #[.slice none 0 0,.slice none 0 0,.int .i64 0,.int .i64 0,.int .i64 0,.int .i64 0,.slice none 0 0,.slice none 0 0]]:Array Value).toList 16=some ([.agg [.agg [.nil],.nil,.lit (.int .i64 0),.agg [.lit (.int .i64 0),.lit (.int .i64 0),.lit (.int .i64 0)],.agg [.nil,.nil]]],[],places):=
 ⟨[],aK⟩
set_option maxRecDepth 100000 in
theorem lifted(os:Os)(started:os.Started)(H:Type)(enc:TypeId×Value->H)(F:Stop.Interp) :
 ReturnsInHanded {} Tryz.checked os 10 .any ((Rows.OpenSpec.upto Rows.workerOrderSpec).preRow enc Tryz.prog Tryz.f10 Rows.workerOrderUptoRow.domain false Rows.workerOrderUptoRow.laid) (((Rows.OpenSpec.upto Rows.workerOrderSpec).at F).post enc Tryz.prog Tryz.f10 false true false false):=by
 obtain⟨places,hx⟩:=reads os enc;refine returnsInHanded_of_row (C:=Tryz.checked) (s:=Rows.OpenSpec.upto Rows.workerOrderSpec) own started aK func10
  (witness_row_at (enc:=enc) (C:=Tryz.checked) false (EK os) #[.agg #[.slice none 0 0,.slice none 0 0,.int .i64 0,.int .i64 0,.int .i64 0,.int .i64 0,.slice none 0 0,.slice none 0 0]] rfl aK aK aK
   (OpenSpec.preRow_of_cond 16 hx aK (λk hk=>by cases hk;kernel_rfl) aK (T4 os))) ?_
 intro W base args ds gs before hval hW _ acs _ hL _ _;exact contract H enc W base args ds gs before hval hW (acs _ rfl) hL
theorem iN{a b:Bool}(h1:a=true)(h2:b=true):(a&&b)=true:=by rw[h1,h2];rfl
set_option maxHeartbeats 4000000 in
theorem facts:joinedFacts Tryz.pinned.checked.prog 10 Tryz.f10 (Rows.OpenSpec.upto Rows.workerOrderSpec).bare Rows.workerOrderUptoRow=true:=by
 unfold joinedFacts;refine iN (iN (iN (iN (iN (iN (iN (iN (iN (iN (iN (iN (iN (iN (iN (iN (iN (iN (iN (iN (iN (iN (iN (iN (iN (iN (iN (iN (iN (iN (iN ?_ ?_) ?_) ?_) ?_) ?_) ?_) ?_) ?_) ?_) ?_) ?_) ?_) ?_) ?_) ?_) ?_) ?_) ?_) ?_) ?_) ?_) ?_) ?_) ?_) ?_) ?_) ?_) ?_) ?_) ?_) ?_
 all_goals as_aux_lemma=>kernel_rfl
theorem proved:Rows.WorkerOrderUptoSaid:=
 OpenClaim.holds_of_cond 10 Tryz.f10 rfl rfl rfl rfl rfl rfl rfl ⟨rfl,rfl,rfl,rfl,rfl⟩ rfl rfl rfl rfl rfl aK func10 facts
  (of_decide_eq_true aK) (by unfold Func.isWrapper;first | (rw[aW (by decide +kernel)];kernel_rfl) | (rw[cF (by decide +kernel)];exact⟨rfl,rfl⟩))
  (λos started H enc _ F=>by rw[OpenClaim.pre_eq_preRow];exact lifted os started H enc F)
theorem plain(f:FuncId)(fn:Func)(hf:Tryz.pinned.checked.prog.funcNamed "plunder/plunderlaw11.WorkerOrder" = some f) (hfn:Tryz.pinned.checked.prog.funcs[f]? = some fn) :
 true=Tryz.pinned.checked.prog.looks []/\∀(j:Nat) t,fn.params[j]? = some t->Tryz.pinned.checked.prog.wantsStandIn t=false:=by
 obtain rfl:f=10:=Option.some.inj ((show Tryz.prog.funcNamed "plunder/plunderlaw11.WorkerOrder" = some 10 by kernel_rfl).symm.trans hf) |>.symm
 obtain rfl:fn=Tryz.f10:=(Option.some.inj (func10.symm.trans hfn)).symm;refine⟨aK,λj t ht => ?_⟩;rw[Tryz.params10]at ht;have ht:=Array.mem_of_getElem? ht;simp only[List.mem_toArray,sN,sO,sP]at ht;subst ht;exact(show Tryz.prog.wantsStandIn 32=false by kernel_rfl)
theorem card:Rows.WorkerOrderUptoCardSaid:=
 Claim7.holds_tied_plain_at .later [] _ _ _ _ proved (λ_ h=>by cases h) aK (λ_ h=>by cases h) workerOrderUpto_row_tie rfl ⟨rfl,rfl⟩ aK rfl plain aK
#print axioms card
end workerOrderUptoRow
theorem workerOrderUpto_holds:Rows.WorkerOrderUptoCardSaid:=workerOrderUptoRow.card
end Go.Proofs.YtaiffafelihaaaaGreatDoor
