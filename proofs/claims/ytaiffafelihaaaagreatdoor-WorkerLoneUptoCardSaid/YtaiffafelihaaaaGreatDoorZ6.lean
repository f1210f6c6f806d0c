/- plunderlaw11.WorkerLone answers true for every input of the bulk that the statement names, and leaves its input alone. Conditions: none. -/
import Derived.Test.YtaiffafelihaaaaGreatDoorZ5
set_option linter.all false
set_option maxRecDepth 100000
namespace Go.Proofs.YtaiffafelihaaaaGreatDoor
open Proofs.Tryz
namespace workerLoneUptoRow
open Go.ChangeShapes Go.WideShapes Go.ChangeAt Go.RowKit
open SL GX RK Mo
theorem own:ownKnob Tryz.prog.godebug=none:=by kernel_rfl
theorem RW:Tryz.prog.cellsOf 214=1:=by kernel_rfl
theorem afh:Tryz.prog.cellsOf 83=1:=by kernel_rfl
theorem afi:Tryz.prog.cellsOf 30=2:=by kernel_rfl
theorem adu:Tryz.prog.cellsOf 28=1:=by kernel_rfl
theorem afj:Tryz.prog.cellsOf 27=3:=by kernel_rfl
theorem afk:Tryz.prog.cellsOf 25=1:=by kernel_rfl
theorem afl:Tryz.prog.cellsOf 24=1:=by kernel_rfl
theorem afm:Tryz.prog.cellsOf 22=1:=by kernel_rfl
theorem cl4:Tryz.prog.cellsOf 4=1:=by kernel_rfl
theorem WJ:Tryz.prog.cellsOf 3=1:=by kernel_rfl
theorem cl2:Tryz.prog.cellsOf 2=1:=by kernel_rfl
def dE1(x:wO):DataW Unit:=.agg [.lit (.int .i64 x.a),.lit (.int .i64 x.b),.lit (.int .i64 x.c),.lit (.int .i64 x.k),.lit (.bool x.next)]
theorem afn{agb:World}:∀m cs y (x:wO),DataW.trod (λ_=>()) Tryz.prog agb 0 (λ_=>true) false m 215 cs=some y->cs.length=5->y.1=dE1 x->cs=gJ x:=by
 intro m cs y x h hl hd;obtain⟨xs,m',_,hx,_,hxl,hg⟩:=DataW.trod_struct Tryz.underlying215 h
 match cs,hl,xs,hxl with
 | [c0,c1,c2,c3,c4],_,[x0,x1,x2,x3,x4],_ =>
  have g0:=hg 0 _ rfl;simp only[RW,sN,nS,qy,wI,ta,tc,td,tg,List.getElem?_cons_succ,List.getElem?_cons_zero]at g0;obtain⟨y0,e0,f0,_⟩:=DataW.trod_int Tryz.underlying214 g0;have g1:=hg 1 _ rfl;simp only[RW,sN,nS,qy,wI,ta,tc,td,tg,List.getElem?_cons_succ,List.getElem?_cons_zero]at g1;obtain⟨y1,e1,f1,_⟩:=DataW.trod_int Tryz.underlying214 g1;have g2:=hg 2 _ rfl;simp only[RW,sN,nS,qy,wI,ta,tc,td,tg,List.getElem?_cons_succ,List.getElem?_cons_zero]at g2;obtain⟨y2,e2,f2,_⟩:=DataW.trod_int Tryz.underlying214 g2;have g3:=hg 3 _ rfl;simp only[RW,sN,nS,qy,wI,ta,tc,td,tg,List.getElem?_cons_succ,List.getElem?_cons_zero]at g3;obtain⟨y3,e3,f3,_⟩:=DataW.trod_int Tryz.underlying214 g3;have g4:=hg 4 _ rfl;simp only[cl4,sN,nS,qy,wI,ta,tc,td,tg,List.getElem?_cons_succ,List.getElem?_cons_zero]at g4;obtain⟨y4,e4,f4⟩:=DataW.trod_bool Tryz.underlying4 g4;rw[hx]at hd;simp only[dE1,BX,Cy,DataW.agg.injEq,List.cons.injEq,B4,f0,f1,f2,f3,f4,DataW.lit.injEq,Lit.int.injEq,Lit.bool.injEq,true_and]at hd;simp only[List.cons.injEq,B4]at e0 e1 e2 e3 e4;obtain⟨h0,h1,h2,h3,h4⟩:=hd;simp only[e0,e1,e2,e3,e4,h0,h1,h2,h3,h4];rfl
def dE0(x:Bool):DataW Unit:=.lit (.bool x)
theorem afo{agb:World}:∀m cs y (x:Bool),DataW.trod (λ_=>()) Tryz.prog agb 0 (λ_=>true) false m 4 cs=some y->cs.length=1->y.1=dE0 x->cs=IB x:=by
 intro m cs y x h hl hd;obtain⟨y0,e0,f0⟩:=DataW.trod_bool Tryz.underlying4 h;rw[f0]at hd;simp only[dE0,DataW.lit.injEq,Lit.bool.injEq]at hd;rw[e0,hd];rfl
theorem Y7{agb:World}(h:laidMetH Tryz.prog Rows.workerLoneUptoRow.laid agb):bI [old agb] 5 gJ (some ⟨1,0,none⟩) yY/\bI [old agb] 1 IB (some ⟨0,0,none⟩) QD:=by
 rw[MakeChecks.laidMetH_plain _ _ _ aZ]at h;obtain⟨ps,hV,_,_⟩:=h;have hV0:DataW.LaidVars Tryz.prog agb [("plunder/prog.fields",.agg (yY.map dE1)),("plunder/worker.idle",.agg (QD.map dE0))] ps:=hV
 obtain⟨r0,ps0,hV1⟩:=Nn gB (show Tryz.prog.globalNamed "plunder/prog.fields" = some 1 by kernel_rfl) (show(Tryz.prog.globals[1]?).map (·.type)=some 216 by kernel_rfl) Tryz.underlying216 (show Tryz.prog.cellsOf 215=5 by kernel_rfl) (show Tryz.prog.cellsOf 216=50 by kernel_rfl) rfl (λx=>rfl) afn hV0
 obtain⟨r1,ps1,hV2⟩:=Nn gB (show Tryz.prog.globalNamed "plunder/worker.idle" = some 0 by kernel_rfl) (show(Tryz.prog.globals[0]?).map (·.type)=some 123 by kernel_rfl) Tryz.underlying123 (show Tryz.prog.cellsOf 4=1 by kernel_rfl) (show Tryz.prog.cellsOf 123=15 by kernel_rfl) rfl (λx=>rfl) afo hV1
 exact⟨r0,r1⟩
def abz(x:cr):Prop:=IG x.aG/\IG x.A/\IG x.B/\IG x.C/\IG x.K
theorem adv{H:Type}{FX:TypeId×Value->H}{agb:World}{n:Nat}{cs:List Value}{y:DataW H×List MemPlace}(h:DataW.trod FX Tryz.prog agb 0 (λ_=>true) true n 132 cs=some y)(hl:cs.length=5) :∃x:cr,cs=cU x/\abz x:=by
 match cs,hl with
 | [c0,c1,c2,c3,c4],_ =>
  obtain⟨m0,z0,k0,b0⟩:=rU Tryz.underlying132 h 0 rfl;simp only[WJ,sN,nS,qy,wI,ta,tc,td,tg]at k0;obtain⟨y0,e0,i0⟩:=wM Tryz.underlying3 k0;obtain⟨m1,z1,k1,b1⟩:=rU Tryz.underlying132 h 1 rfl;simp only[WJ,sN,nS,qy,wI,ta,tc,td,tg]at k1;obtain⟨y1,e1,i1⟩:=wM Tryz.underlying3 k1;obtain⟨m2,z2,k2,b2⟩:=rU Tryz.underlying132 h 2 rfl;simp only[WJ,sN,nS,qy,wI,ta,tc,td,tg]at k2;obtain⟨y2,e2,i2⟩:=wM Tryz.underlying3 k2;obtain⟨m3,z3,k3,b3⟩:=rU Tryz.underlying132 h 3 rfl;simp only[WJ,sN,nS,qy,wI,ta,tc,td,tg]at k3;obtain⟨y3,e3,i3⟩:=wM Tryz.underlying3 k3;obtain⟨m4,z4,k4,b4⟩:=rU Tryz.underlying132 h 4 rfl;simp only[cl2,sN,nS,qy,wI,ta,tc,td,tg]at k4;obtain⟨y4,e4,i4⟩:=wM Tryz.underlying2 k4;simp only[List.cons.injEq,B4]at e0 e1 e2 e3 e4;subst e0 e1 e2 e3 e4;exact⟨⟨y0,y1,y2,y3,y4⟩,rfl,i0,i1,i2,i3,i4⟩
def Q85{H:Type}(x:aB)(d:DataW H):Prop:=IG x.aS/\IG x.dh/\IG x.bQ/\x.ai.length+1<=Rows.uptoBulk d/\∀y∈x.ai,abz y
theorem afp{H:Type}{FX:TypeId×Value->H}{agb:World}{n:Nat}{cs:List Value}{y:DataW H×List MemPlace}(h:DataW.trod FX Tryz.prog agb 0 (λ_=>true) true n 85 cs=some y)(hl:cs.length=4) :∃(a:fB) (c:Nat) (x:aB),cs=UO a c x/\bI [old agb] 5 cU a x.ai/\Q85 x y.1:=by
 match cs,hl with
 | [c0,c1,c2,c3],_ =>
  obtain⟨m0,z0,k0,b0⟩:=rU Tryz.underlying85 h 0 rfl;simp only[WJ,sN,nS,qy,wI,ta,tc,td,tg]at k0;obtain⟨y0,e0,i0⟩:=wM Tryz.underlying3 k0;obtain⟨m1,z1,k1,b1⟩:=rU Tryz.underlying85 h 1 rfl;simp only[WJ,sN,nS,qy,wI,ta,tc,td,tg]at k1;obtain⟨y1,e1,i1⟩:=wM Tryz.underlying3 k1;obtain⟨m2,z2,k2,b2⟩:=rU Tryz.underlying85 h 2 rfl;simp only[WJ,sN,nS,qy,wI,ta,tc,td,tg]at k2;obtain⟨y2,e2,i2⟩:=wM Tryz.underlying3 k2;obtain⟨m3,z3,k3,b3⟩:=rU Tryz.underlying85 h 3 rfl;simp only[afh,sN,nS,qy,wI,ta,tc,td,tg]at k3;obtain⟨va,l,cap,e3,r3,q3,g3,_⟩:=O4 (Q:=λx _=>abz x) iL Tryz.underlying83 aZ (λn cs y h hl=>adv h hl) k3;simp only[List.cons.injEq,B4]at e0 e1 e2 e3;subst e0 e1 e2 e3;exact⟨va,cap,⟨y0,y1,y2,l⟩,rfl,r3,i0,i1,i2,by show l.length+1<=_;omega,λx hx=>by obtain⟨_,h,_⟩:=q3 x hx;exact h⟩
set_option maxRecDepth 100000 in
theorem contract(H:Type)(enc:TypeId×Value->H)(agb:World)(base:Nat)(args:Array Value)(ds gs:List (DataW H))(before:List MemPlace)
 (hval:∀(j:Nat) t v,Tryz.f8.params[j]? = some t->args[j]? = some v->Value.okWide Tryz.prog agb .any base t v)
 (hW:DataW.Whole enc Tryz.prog Tryz.f8.params.toList Rows.workerLoneSpec.vars false agb args.toList ds gs before) (hk:Rows.uptoSmall H (ds++gs)=true) (hL:laidMetH Tryz.prog Rows.workerLoneUptoRow.laid agb) :
 Calls Tryz.prog 8 args agb λe W' =>∃v,e= .returned v/\Rows.workerLoneSpec.post enc Tryz.prog Tryz.f8 false true false false agb args v W':=by
 have hG:=Y7 hL;have hW':=hW;obtain⟨p,q,hA0,hV,rfl,hfz,hnd⟩:=hW;have hA:DataW.TrodAll enc Tryz.prog agb 0 (λ_=>true) true Tryz.f8.params.toList args.toList ds p:=hA0;rw[Tryz.params8]at hA hval;have afq:=hA;obtain⟨v0,vs0,d0,ds0,O,q0,hargs,rfl,rfl,h0,r0⟩:=trodAll_cons hA;obtain⟨rfl,rfl,rfl⟩:=trodAll_nil r0;obtain rfl:args=#[v0]:=by cases args;simp_all
 obtain⟨rfl,rfl⟩:=trodVars_none hV;have adw:Rows.uptoBulkAll _<=1048576:=of_decide_eq_true hk;have hBc:Rows.uptoBulk (d0,O).1<=1048576:=ET (KQ (d:=d0) (by simp)) adw;obtain⟨csc,rfl,_⟩:=okWide_struct Tryz.underlying32 (hval 0 32 v0 rfl rfl);obtain⟨fuc,hfc⟩:=h0;have hfc:DataW.trod enc Tryz.prog agb 0 (λ_=>true) true fuc 32 csc.toList=some (d0,O):=hfc;have hlc:=aao Tryz.underlying32 hfc;rw[show Tryz.prog.cellsOf 32=8 by kernel_rfl]at hlc;obtain⟨lc⟩:=csc;obtain⟨c_0,c_1,c_2,c_3,c_4,c_5,c_6,c_7,rfl⟩ :∃c_0 c_1 c_2 c_3 c_4 c_5 c_6 c_7,lc=[c_0,c_1,c_2,c_3,c_4,c_5,c_6,c_7]:=by match lc,hlc with | [c_0,c_1,c_2,c_3,c_4,c_5,c_6,c_7],_=>exact⟨c_0,c_1,c_2,c_3,c_4,c_5,c_6,c_7,rfl⟩
 obtain⟨mc1,zc1,kc1,bc1⟩:=rU Tryz.underlying32 hfc 0 rfl;simp only[afl,sN,nS,qy,wI,ta,tc,td,tg]at kc1;obtain⟨mc2,zc2,kc2,bc2⟩:=rU Tryz.underlying24 kc1 0 rfl;simp only[afm,sN,nS,qy,wI,ta,tc,td,tg]at kc2;obtain⟨afr,afs,lc2,afu,ec2,rc2,qc2,gc2,afW⟩:=Xs (Q:=Q85) (enc:=UO) (jz:=cU) (wm:=aB.ai) (sz:=4) (tU:=5) (λa c=>⟨λ_=>rfl,λx u h=>by simp only[UO,uA,uB,uC]at h;rcases h with rfl | rfl | rfl | rfl<;>rfl,gB⟩) Tryz.underlying22 aZ (λn cs y h hl=>afp h hl) kc2;simp only[List.cons.injEq,B4]at ec2;subst ec2;obtain⟨mc3,zc3,kc3,bc3⟩:=rU Tryz.underlying32 hfc 1 rfl;simp only[afk,sN,nS,qy,wI,ta,tc,td,tg]at kc3;obtain⟨afv,lc3,afw,ec3,rc3,qc3,gc3,afX⟩:=Lx Tryz.underlying25 Tryz.underlying2 aZ kc3;simp only[List.cons.injEq,B4]at ec3;subst ec3;obtain⟨mc4,zc4,kc4,bc4⟩:=rU Tryz.underlying32 hfc 2 rfl;simp only[WJ,sN,nS,qy,wI,ta,tc,td,tg]at kc4;obtain⟨lH,ec4,ic4⟩:=wM Tryz.underlying3 kc4;simp only[List.cons.injEq,B4]at ec4;subst ec4;obtain⟨mc5,zc5,kc5,bc5⟩:=rU Tryz.underlying32 hfc 3 rfl;simp only[afj,sN,nS,qy,wI,ta,tc,td,tg]at kc5;obtain⟨mc6,zc6,kc6,bc6⟩:=rU Tryz.underlying27 kc5 0 rfl;simp only[WJ,sN,nS,qy,wI,ta,tc,td,tg]at kc6;obtain⟨xc6,ec6,ic6⟩:=wM Tryz.underlying3 kc6;simp only[List.cons.injEq,B4]at ec6;subst ec6;obtain⟨mc7,zc7,kc7,bc7⟩:=rU Tryz.underlying27 kc5 1 rfl;simp only[WJ,sN,nS,qy,wI,ta,tc,td,tg]at kc7;obtain⟨xc7,ec7,ic7⟩:=wM Tryz.underlying3 kc7;simp only[List.cons.injEq,B4]at ec7;subst ec7;obtain⟨mc8,zc8,kc8,bc8⟩:=rU Tryz.underlying27 kc5 2 rfl;simp only[WJ,sN,nS,qy,wI,ta,tc,td,tg]at kc8;obtain⟨xc8,ec8,ic8⟩:=wM Tryz.underlying3 kc8;simp only[List.cons.injEq,B4]at ec8;subst ec8;obtain⟨mc9,zc9,kc9,bc9⟩:=rU Tryz.underlying32 hfc 4 rfl;simp only[afi,sN,nS,qy,wI,ta,tc,td,tg]at kc9;obtain⟨afY,afZ,adx,af0⟩:=rU Tryz.underlying30 kc9 0 rfl;simp only[adu,sN,nS,qy,wI,ta,tc,td,tg]at adx;obtain⟨ady,abA,adz,adB,afx,af1,af2,afB⟩:=Lx Tryz.underlying28 Tryz.underlying3 aZ adx;simp only[List.cons.injEq,B4]at adB;subst adB;obtain⟨af3,af4,adC,af5⟩:=rU Tryz.underlying30 kc9 1 rfl;simp only[adu,sN,nS,qy,wI,ta,tc,td,tg]at adC;obtain⟨adD,abB,adE,adF,afy,af6,af7,afC⟩:=Lx Tryz.underlying28 Tryz.underlying3 aZ adC;simp only[List.cons.injEq,B4]at adF;subst adF;have afD :∃c:bU,c=⟨lc2,lc3,lH,xc6,xc7,xc8,abA,abB⟩:=⟨_,rfl⟩;have H0:=(show mF 5000000 (⟨lc2,lc3,lH,xc6,xc7,xc8,abA,abB⟩:bU)=some true from TE ⟨by show lc2.length<=_;omega,λi hi=>by obtain⟨d,q,hd⟩:=qc2 _ (tR hi);have:=q.2.2.2.1;show(J lc2 i).ai.length<=_;omega,by show lc3.length<=_;omega,by show abA.length<=_;omega,by show abB.length<=_;omega⟩ ⟨λf hf=>by obtain⟨d,q,hd⟩:=qc2 f hf;exact⟨q.1,q.2.1,q.2.2.1⟩,λf hf c hc=>by obtain⟨d,q,hd⟩:=qc2 f hf;have:=q.2.2.2.2 c hc;exact⟨this.2.1,this.2.2.1,this.2.2.2.1,this.2.2.2.2⟩⟩ (λx hx=>qc3 x hx) gB);refine(yX (aN:=afr) (bq:=afu) (cF:=rc2) (cB:=afs) (dY:=afv) (fg:=afw) (og:=rc3) (bO:=ady) (cA:=adz) (iU:=afx) (bX:=adD) (cC:=adE) (jL:=afy) (wu:=hG.1) (Mc:=hG.2) (H:=H0) (h:=Fit.begin agb)).mono λe W' ⟨he,hF⟩ => ?_;subst he;have uJ:=hF.below;exact⟨_,rfl,_,_,_,[],_,[],hW',trodAll_mk1 (shut_bool Tryz.underlying4 _),D7 aZ uJ aZ afq,rfl,uJ.frame _,λh=>by cases h⟩
def abC:Array Value:=(yY.flatMap gJ).toArray
def abD:Array Value:=(QD.flatMap IB).toArray
noncomputable def GJ(os:Os):World:={World.holding Tryz.prog os ⟨#[],#[],[]⟩with heap:=(((World.holding Tryz.prog os ⟨#[],#[],[]⟩).heap.modify 1 (fun | .cells _ t frozen=>.cells abC t frozen | o=>o)).modify 0 (fun | .cells _ t frozen=>.cells abD t frozen | o=>o))}
theorem WK(os:Os):laidMet Tryz.prog Rows.workerLoneUptoRow.laid ((GJ os).forCall (λ_ _=>0) ⟨#[],#[.agg #[.slice none 0 0,.slice none 0 0,.int .i64 0,.int .i64 0,.int .i64 0,.int .i64 0,.slice none 0 0,.slice none 0 0]],[]⟩).memory:=
 laidMet_of_run' 40 aZ aZ
theorem reads(os:Os){H:Type}(enc:TypeId×Value->H) :∃places,DataW.whole enc Tryz.prog ((GJ os).forCall (λ_ _=>0) ⟨#[],#[.agg #[.slice none 0 0,.slice none 0 0,.int .i64 0,.int .i64 0,.int .i64 0,.int .i64 0,.slice none 0 0,.slice none 0 0]],[]⟩).memory Tryz.f8.params.toList Rows.workerLoneSpec.vars false (#[.agg #[.slice none 0 0,.slice none 0 0,.int .i64 0,.int .i64 0,.int .i64 0,.int .i64 0,.slice none 0 0,.slice none 0 0]]:Array Value).toList 16=some ([.agg [.agg [.nil],.nil,.lit (.int .i64 0),.agg [.lit (.int .i64 0),.lit (.int .i64 0),.lit (.int .i64 0)],.agg [.nil,.nil]]],[],places):=
 ⟨[],aZ⟩
set_option maxRecDepth 100000 in
theorem lifted(os:Os)(started:os.Started)(H:Type)(enc:TypeId×Value->H)(F:Stop.Interp) :
 ReturnsInHanded {} Tryz.checked os 8 .any ((Rows.OpenSpec.upto Rows.workerLoneSpec).preRow enc Tryz.prog Tryz.f8 Rows.workerLoneUptoRow.domain false Rows.workerLoneUptoRow.laid) (((Rows.OpenSpec.upto Rows.workerLoneSpec).at F).post enc Tryz.prog Tryz.f8 false true false false):=by
 obtain⟨places,hx⟩:=reads os enc;refine returnsInHanded_of_row (C:=Tryz.checked) (s:=Rows.OpenSpec.upto Rows.workerLoneSpec) own started aZ func8
  (witness_row_at (enc:=enc) (C:=Tryz.checked) false (GJ os) #[.agg #[.slice none 0 0,.slice none 0 0,.int .i64 0,.int .i64 0,.int .i64 0,.int .i64 0,.slice none 0 0,.slice none 0 0]] rfl aZ aZ aZ
   (OpenSpec.preRow_of_cond 16 hx aZ (λk hk=>by cases hk;kernel_rfl) aZ (WK os))) ?_
 intro agb base args ds gs before hval hW _ adG _ hL _ _;exact contract H enc agb base args ds gs before hval hW (adG _ rfl) hL
theorem iu{a b:Bool}(h1:a=true)(h2:b=true):(a&&b)=true:=by rw[h1,h2];rfl
set_option maxHeartbeats 4000000 in
theorem facts:joinedFacts Tryz.pinned.checked.prog 8 Tryz.f8 (Rows.OpenSpec.upto Rows.workerLoneSpec).bare Rows.workerLoneUptoRow=true:=by
 unfold joinedFacts;refine iu (iu (iu (iu (iu (iu (iu (iu (iu (iu (iu (iu (iu (iu (iu (iu (iu (iu (iu (iu (iu (iu (iu (iu (iu (iu (iu (iu (iu (iu (iu ?_ ?_) ?_) ?_) ?_) ?_) ?_) ?_) ?_) ?_) ?_) ?_) ?_) ?_) ?_) ?_) ?_) ?_) ?_) ?_) ?_) ?_) ?_) ?_) ?_) ?_) ?_) ?_) ?_) ?_) ?_) ?_
 all_goals as_aux_lemma=>kernel_rfl
theorem proved:Rows.WorkerLoneUptoSaid:=
 OpenClaim.holds_of_cond 8 Tryz.f8 rfl rfl rfl rfl rfl rfl rfl ⟨rfl,rfl,rfl,rfl,rfl⟩ rfl rfl rfl rfl rfl aZ func8 facts
  (of_decide_eq_true aZ) (by unfold Func.isWrapper;first | (rw[bg (by decide +kernel)];kernel_rfl) | (rw[cQ (by decide +kernel)];exact⟨rfl,rfl⟩))
  (λos started H enc _ F=>by rw[OpenClaim.pre_eq_preRow];exact lifted os started H enc F)
theorem plain(f:FuncId)(fn:Func)(hf:Tryz.pinned.checked.prog.funcNamed "plunder/plunderlaw11.WorkerLone" = some f) (hfn:Tryz.pinned.checked.prog.funcs[f]? = some fn) :
 true=Tryz.pinned.checked.prog.looks []/\∀(j:Nat) t,fn.params[j]? = some t->Tryz.pinned.checked.prog.wantsStandIn t=false:=by
 obtain rfl:f=8:=Option.some.inj ((show Tryz.prog.funcNamed "plunder/plunderlaw11.WorkerLone" = some 8 by kernel_rfl).symm.trans hf) |>.symm
 obtain rfl:fn=Tryz.f8:=(Option.some.inj (func8.symm.trans hfn)).symm;refine⟨aZ,λj t ht => ?_⟩;rw[Tryz.params8]at ht;have ht:=Array.mem_of_getElem? ht;simp only[List.mem_toArray,uA,uB,uC]at ht;subst ht;exact(show Tryz.prog.wantsStandIn 32=false by kernel_rfl)
theorem card:Rows.WorkerLoneUptoCardSaid:=
 Claim7.holds_tied_plain_at .later [] _ _ _ _ proved (λ_ h=>by cases h) aZ (λ_ h=>by cases h) workerLoneUpto_row_tie rfl ⟨rfl,rfl⟩ aZ rfl plain aZ
#print axioms card
end workerLoneUptoRow
theorem workerLoneUpto_holds:Rows.WorkerLoneUptoCardSaid:=workerLoneUptoRow.card
end Go.Proofs.YtaiffafelihaaaaGreatDoor
