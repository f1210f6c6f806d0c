/- plunderlaw11.WorkerSerial answers true for every input of the bulk that the statement names, and leaves its input alone. Conditions: none. -/
import Derived.Test.YtpikpffbcjpmcaaGreatDoorU5
set_option linter.all false
set_option maxRecDepth 100000
namespace Go.Proofs.YtpikpffbcjpmcaaGreatDoor
open Proofs.Tryz
namespace workerSerialUptoRow
open Go.ChangeShapes Go.WideShapes Go.ChangeAt Go.RowKit
open SL GX RK Mo
theorem own:ownKnob Tryz.prog.godebug=none:=by kernel_rfl
theorem RC:Tryz.prog.cellsOf 248=1:=by kernel_rfl
theorem af9:Tryz.prog.cellsOf 97=1:=by kernel_rfl
theorem aga:Tryz.prog.cellsOf 30=2:=by kernel_rfl
theorem adZ:Tryz.prog.cellsOf 28=1:=by kernel_rfl
theorem agb:Tryz.prog.cellsOf 27=3:=by kernel_rfl
theorem agc:Tryz.prog.cellsOf 25=1:=by kernel_rfl
theorem agd:Tryz.prog.cellsOf 24=1:=by kernel_rfl
theorem age:Tryz.prog.cellsOf 22=1:=by kernel_rfl
theorem cl4:Tryz.prog.cellsOf 4=1:=by kernel_rfl
theorem Wo:Tryz.prog.cellsOf 3=1:=by kernel_rfl
theorem cl2:Tryz.prog.cellsOf 2=1:=by kernel_rfl
def dE1(x:v9):DataW Unit:=.agg [.lit (.int .i64 x.a),.lit (.int .i64 x.b),.lit (.int .i64 x.c),.lit (.int .i64 x.k),.lit (.bool x.next)]
theorem agf{ag1:World}:∀m cs y (x:v9),DataW.trod (λ_=>()) Tryz.prog ag1 0 (λ_=>true) false m 249 cs=some y->cs.length=5->y.1=dE1 x->cs=gT x:=by
 intro m cs y x h hl hd;obtain⟨xs,m',_,hx,_,hxl,hg⟩:=DataW.trod_struct Tryz.underlying249 h
 match cs,hl,xs,hxl with
 | [c0,c1,c2,c3,c4],_,[x0,x1,x2,x3,x4],_ =>
  have g0:=hg 0 _ rfl;simp only[RC,rY,og,qb,vY,sI,sJ,sK,sL,List.getElem?_cons_succ,List.getElem?_cons_zero]at g0;obtain⟨y0,e0,f0,_⟩:=DataW.trod_int Tryz.underlying248 g0;have g1:=hg 1 _ rfl;simp only[RC,rY,og,qb,vY,sI,sJ,sK,sL,List.getElem?_cons_succ,List.getElem?_cons_zero]at g1;obtain⟨y1,e1,f1,_⟩:=DataW.trod_int Tryz.underlying248 g1;have g2:=hg 2 _ rfl;simp only[RC,rY,og,qb,vY,sI,sJ,sK,sL,List.getElem?_cons_succ,List.getElem?_cons_zero]at g2;obtain⟨y2,e2,f2,_⟩:=DataW.trod_int Tryz.underlying248 g2;have g3:=hg 3 _ rfl;simp only[RC,rY,og,qb,vY,sI,sJ,sK,sL,List.getElem?_cons_succ,List.getElem?_cons_zero]at g3;obtain⟨y3,e3,f3,_⟩:=DataW.trod_int Tryz.underlying248 g3;have g4:=hg 4 _ rfl;simp only[cl4,rY,og,qb,vY,sI,sJ,sK,sL,List.getElem?_cons_succ,List.getElem?_cons_zero]at g4;obtain⟨y4,e4,f4⟩:=DataW.trod_bool Tryz.underlying4 g4;rw[hx]at hd;simp only[dE1,Bs,B3,DataW.agg.injEq,List.cons.injEq,Bu,f0,f1,f2,f3,f4,DataW.lit.injEq,Lit.int.injEq,Lit.bool.injEq,true_and]at hd;simp only[List.cons.injEq,Bu]at e0 e1 e2 e3 e4;obtain⟨h0,h1,h2,h3,h4⟩:=hd;simp only[e0,e1,e2,e3,e4,h0,h1,h2,h3,h4];rfl
def dE0(x:Bool):DataW Unit:=.lit (.bool x)
theorem agh{ag1:World}:∀m cs y (x:Bool),DataW.trod (λ_=>()) Tryz.prog ag1 0 (λ_=>true) false m 4 cs=some y->cs.length=1->y.1=dE0 x->cs=HX x:=by
 intro m cs y x h hl hd;obtain⟨y0,e0,f0⟩:=DataW.trod_bool Tryz.underlying4 h;rw[f0]at hd;simp only[dE0,DataW.lit.injEq,Lit.bool.injEq]at hd;rw[e0,hd];rfl
theorem YE{ag1:World}(h:laidMetH Tryz.prog Rows.workerSerialUptoRow.laid ag1):bJ [old ag1] 5 gT (some ⟨1,0,none⟩) yK/\bJ [old ag1] 1 HX (some ⟨0,0,none⟩) Qt:=by
 rw[MakeChecks.laidMetH_plain _ _ _ aZ]at h;obtain⟨ps,hV,_,_⟩:=h;have hV0:DataW.LaidVars Tryz.prog ag1 [("plunder/prog.fields",.agg (yK.map dE1)),("plunder/worker.idle",.agg (Qt.map dE0))] ps:=hV
 obtain⟨r0,ps0,hV1⟩:=MR eC (show Tryz.prog.globalNamed "plunder/prog.fields" = some 1 by kernel_rfl) (show(Tryz.prog.globals[1]?).map (·.type)=some 250 by kernel_rfl) Tryz.underlying250 (show Tryz.prog.cellsOf 249=5 by kernel_rfl) (show Tryz.prog.cellsOf 250=50 by kernel_rfl) rfl (λx=>rfl) agf hV0
 obtain⟨r1,ps1,hV2⟩:=MR eC (show Tryz.prog.globalNamed "plunder/worker.idle" = some 0 by kernel_rfl) (show(Tryz.prog.globals[0]?).map (·.type)=some 136 by kernel_rfl) Tryz.underlying136 (show Tryz.prog.cellsOf 4=1 by kernel_rfl) (show Tryz.prog.cellsOf 136=15 by kernel_rfl) rfl (λx=>rfl) agh hV1
 exact⟨r0,r1⟩
def abd(x:ct):Prop:=H9 x.aN/\H9 x.A/\H9 x.B/\H9 x.C/\H9 x.K
theorem ad0{H:Type}{FB:TypeId×Value->H}{ag1:World}{n:Nat}{cs:List Value}{y:DataW H×List MemPlace}(h:DataW.trod FB Tryz.prog ag1 0 (λ_=>true) true n 146 cs=some y)(hl:cs.length=5) :∃x:ct,cs=cY x/\abd x:=by
 match cs,hl with
 | [c0,c1,c2,c3,c4],_ =>
  obtain⟨m0,z0,k0,b0⟩:=rC Tryz.underlying146 h 0 rfl;simp only[Wo,rY,og,qb,vY,sI,sJ,sK,sL]at k0;obtain⟨y0,e0,i0⟩:=v7 Tryz.underlying3 k0;obtain⟨m1,z1,k1,b1⟩:=rC Tryz.underlying146 h 1 rfl;simp only[Wo,rY,og,qb,vY,sI,sJ,sK,sL]at k1;obtain⟨y1,e1,i1⟩:=v7 Tryz.underlying3 k1;obtain⟨m2,z2,k2,b2⟩:=rC Tryz.underlying146 h 2 rfl;simp only[Wo,rY,og,qb,vY,sI,sJ,sK,sL]at k2;obtain⟨y2,e2,i2⟩:=v7 Tryz.underlying3 k2;obtain⟨m3,z3,k3,b3⟩:=rC Tryz.underlying146 h 3 rfl;simp only[Wo,rY,og,qb,vY,sI,sJ,sK,sL]at k3;obtain⟨y3,e3,i3⟩:=v7 Tryz.underlying3 k3;obtain⟨m4,z4,k4,b4⟩:=rC Tryz.underlying146 h 4 rfl;simp only[cl2,rY,og,qb,vY,sI,sJ,sK,sL]at k4;obtain⟨y4,e4,i4⟩:=v7 Tryz.underlying2 k4;simp only[List.cons.injEq,Bu]at e0 e1 e2 e3 e4;subst e0 e1 e2 e3 e4;exact⟨⟨y0,y1,y2,y3,y4⟩,rfl,i0,i1,i2,i3,i4⟩
def Q99{H:Type}(x:aB)(d:DataW H):Prop:=H9 x.aS/\H9 x.dw/\H9 x.bM/\x.ai.length+1<=Rows.uptoBulk d/\∀y∈x.ai,abd y
theorem agi{H:Type}{FB:TypeId×Value->H}{ag1:World}{n:Nat}{cs:List Value}{y:DataW H×List MemPlace}(h:DataW.trod FB Tryz.prog ag1 0 (λ_=>true) true n 99 cs=some y)(hl:cs.length=4) :∃(a:fP) (c:Nat) (x:aB),cs=Uy a c x/\bJ [old ag1] 5 cY a x.ai/\Q99 x y.1:=by
 match cs,hl with
 | [c0,c1,c2,c3],_ =>
  obtain⟨m0,z0,k0,b0⟩:=rC Tryz.underlying99 h 0 rfl;simp only[Wo,rY,og,qb,vY,sI,sJ,sK,sL]at k0;obtain⟨y0,e0,i0⟩:=v7 Tryz.underlying3 k0;obtain⟨m1,z1,k1,b1⟩:=rC Tryz.underlying99 h 1 rfl;simp only[Wo,rY,og,qb,vY,sI,sJ,sK,sL]at k1;obtain⟨y1,e1,i1⟩:=v7 Tryz.underlying3 k1;obtain⟨m2,z2,k2,b2⟩:=rC Tryz.underlying99 h 2 rfl;simp only[Wo,rY,og,qb,vY,sI,sJ,sK,sL]at k2;obtain⟨y2,e2,i2⟩:=v7 Tryz.underlying3 k2;obtain⟨m3,z3,k3,b3⟩:=rC Tryz.underlying99 h 3 rfl;simp only[af9,rY,og,qb,vY,sI,sJ,sK,sL]at k3;obtain⟨va,l,cap,e3,r3,q3,g3,_⟩:=OJ (Q:=λx _=>abd x) iS Tryz.underlying97 aZ (λn cs y h hl=>ad0 h hl) k3;simp only[List.cons.injEq,Bu]at e0 e1 e2 e3;subst e0 e1 e2 e3;exact⟨va,cap,⟨y0,y1,y2,l⟩,rfl,r3,i0,i1,i2,by show l.length+1<=_;omega,λx hx=>by obtain⟨_,h,_⟩:=q3 x hx;exact h⟩
set_option maxRecDepth 100000 in
theorem contract(H:Type)(enc:TypeId×Value->H)(ag1:World)(base:Nat)(args:Array Value)(ds gs:List (DataW H))(before:List MemPlace)
 (hval:∀(j:Nat) t v,Tryz.f10.params[j]? = some t->args[j]? = some v->Value.okWide Tryz.prog ag1 .any base t v)
 (hW:DataW.Whole enc Tryz.prog Tryz.f10.params.toList Rows.workerSerialSpec.vars false ag1 args.toList ds gs before) (hk:Rows.uptoSmall H (ds++gs)=true) (hL:laidMetH Tryz.prog Rows.workerSerialUptoRow.laid ag1) :
 Calls Tryz.prog 10 args ag1 λe W' =>∃v,e= .returned v/\Rows.workerSerialSpec.post enc Tryz.prog Tryz.f10 false true false false ag1 args v W':=by
 have hG:=YE hL;have hW':=hW;obtain⟨p,q,hA0,hV,rfl,hfz,hnd⟩:=hW;have hA:DataW.TrodAll enc Tryz.prog ag1 0 (λ_=>true) true Tryz.f10.params.toList args.toList ds p:=hA0;rw[Tryz.params10]at hA hval;have agj:=hA;obtain⟨v0,vs0,d0,ds0,O,q0,hargs,rfl,rfl,h0,r0⟩:=trodAll_cons hA;obtain⟨rfl,rfl,rfl⟩:=trodAll_nil r0;obtain rfl:args=#[v0]:=by cases args;simp_all
 obtain⟨rfl,rfl⟩:=trodVars_none hV;have ad1:Rows.uptoBulkAll _<=1048576:=of_decide_eq_true hk;have hBc:Rows.uptoBulk (d0,O).1<=1048576:=Fu (Kk (d:=d0) (by simp)) ad1;obtain⟨csc,rfl,_⟩:=okWide_struct Tryz.underlying32 (hval 0 32 v0 rfl rfl);obtain⟨fuc,ZD⟩:=h0;have ZD:DataW.trod enc Tryz.prog ag1 0 (λ_=>true) true fuc 32 csc.toList=some (d0,O):=ZD;have hlc:=ZR Tryz.underlying32 ZD;rw[show Tryz.prog.cellsOf 32=8 by kernel_rfl]at hlc;obtain⟨lc⟩:=csc;obtain⟨c_0,c_1,c_2,c_3,c_4,c_5,c_6,c_7,rfl⟩ :∃c_0 c_1 c_2 c_3 c_4 c_5 c_6 c_7,lc=[c_0,c_1,c_2,c_3,c_4,c_5,c_6,c_7]:=by match lc,hlc with | [c_0,c_1,c_2,c_3,c_4,c_5,c_6,c_7],_=>exact⟨c_0,c_1,c_2,c_3,c_4,c_5,c_6,c_7,rfl⟩
 obtain⟨mc1,zc1,kc1,bc1⟩:=rC Tryz.underlying32 ZD 0 rfl;simp only[agd,rY,og,qb,vY,sI,sJ,sK,sL]at kc1;obtain⟨mc2,zc2,kc2,bc2⟩:=rC Tryz.underlying24 kc1 0 rfl;simp only[age,rY,og,qb,vY,sI,sJ,sK,sL]at kc2;obtain⟨agk,agl,lc2,agm,ec2,rc2,qc2,gc2,agN⟩:=W6 (Q:=Q99) (enc:=Uy) (jm:=cY) (vL:=aB.ai) (sz:=4) (tB:=5) (λa c=>⟨λ_=>rfl,λx u h=>by simp only[Uy,tV,tW,tX]at h;rcases h with rfl | rfl | rfl | rfl<;>rfl,eC⟩) Tryz.underlying22 aZ (λn cs y h hl=>agi h hl) kc2;simp only[List.cons.injEq,Bu]at ec2;subst ec2;obtain⟨mc3,zc3,kc3,bc3⟩:=rC Tryz.underlying32 ZD 1 rfl;simp only[agc,rY,og,qb,vY,sI,sJ,sK,sL]at kc3;obtain⟨agn,lc3,ago,ec3,rc3,qc3,gc3,agO⟩:=K2 Tryz.underlying25 Tryz.underlying2 aZ kc3;simp only[List.cons.injEq,Bu]at ec3;subst ec3;obtain⟨mc4,zc4,kc4,bc4⟩:=rC Tryz.underlying32 ZD 2 rfl;simp only[Wo,rY,og,qb,vY,sI,sJ,sK,sL]at kc4;obtain⟨lQ,ec4,ic4⟩:=v7 Tryz.underlying3 kc4;simp only[List.cons.injEq,Bu]at ec4;subst ec4;obtain⟨mc5,zc5,kc5,bc5⟩:=rC Tryz.underlying32 ZD 3 rfl;simp only[agb,rY,og,qb,vY,sI,sJ,sK,sL]at kc5;obtain⟨mc6,zc6,kc6,bc6⟩:=rC Tryz.underlying27 kc5 0 rfl;simp only[Wo,rY,og,qb,vY,sI,sJ,sK,sL]at kc6;obtain⟨xc6,ec6,ic6⟩:=v7 Tryz.underlying3 kc6;simp only[List.cons.injEq,Bu]at ec6;subst ec6;obtain⟨mc7,zc7,kc7,bc7⟩:=rC Tryz.underlying27 kc5 1 rfl;simp only[Wo,rY,og,qb,vY,sI,sJ,sK,sL]at kc7;obtain⟨xc7,ec7,ic7⟩:=v7 Tryz.underlying3 kc7;simp only[List.cons.injEq,Bu]at ec7;subst ec7;obtain⟨mc8,zc8,kc8,bc8⟩:=rC Tryz.underlying27 kc5 2 rfl;simp only[Wo,rY,og,qb,vY,sI,sJ,sK,sL]at kc8;obtain⟨xc8,ec8,ic8⟩:=v7 Tryz.underlying3 kc8;simp only[List.cons.injEq,Bu]at ec8;subst ec8;obtain⟨mc9,zc9,kc9,bc9⟩:=rC Tryz.underlying32 ZD 4 rfl;simp only[aga,rY,og,qb,vY,sI,sJ,sK,sL]at kc9;obtain⟨agP,agQ,ZJ,agR⟩:=rC Tryz.underlying30 kc9 0 rfl;simp only[adZ,rY,og,qb,vY,sI,sJ,sK,sL]at ZJ;obtain⟨ad2,abe,ad3,ad4,agp,agS,agT,ags⟩:=K2 Tryz.underlying28 Tryz.underlying3 aZ ZJ;simp only[List.cons.injEq,Bu]at ad4;subst ad4;obtain⟨agU,agV,ZL,agW⟩:=rC Tryz.underlying30 kc9 1 rfl;simp only[adZ,rY,og,qb,vY,sI,sJ,sK,sL]at ZL;obtain⟨ad5,abf,ad6,ad7,agq,agX,agY,agt⟩:=K2 Tryz.underlying28 Tryz.underlying3 aZ ZL;simp only[List.cons.injEq,Bu]at ad7;subst ad7;have agu :∃c:bO,c=⟨lc2,lc3,lQ,xc6,xc7,xc8,abe,abf⟩:=⟨_,rfl⟩;have H0:=(show lC 5000000 (⟨lc2,lc3,lQ,xc6,xc7,xc8,abe,abf⟩:bO)=some true from Oj ⟨by show lc2.length<=_;omega,λi hi=>by obtain⟨d,q,hd⟩:=qc2 _ (sB hi);have:=q.2.2.2.1;show(J lc2 i).ai.length<=_;omega,by show lc3.length<=_;omega,by show abe.length<=_;omega,by show abf.length<=_;omega⟩ ⟨λf hf=>by obtain⟨d,q,hd⟩:=qc2 f hf;exact⟨q.1,q.2.1,q.2.2.1⟩,λf hf c hc=>by obtain⟨d,q,hd⟩:=qc2 f hf;have:=q.2.2.2.2 c hc;exact⟨this.2.1,this.2.2.1,this.2.2.2.1,this.2.2.2.2⟩⟩ (λx hx=>qc3 x hx) eC);refine(xz (aO:=agk) (bt:=agm) (cP:=rc2) (cK:=agl) (ey:=agn) (fm:=ago) (oa:=rc3) (bK:=ad2) (cC:=ad3) (jb:=agp) (bU:=ad5) (cJ:=ad6) (jT:=agq) (vP:=hG.1) (LB:=hG.2) (H:=H0) (h:=Fit.begin ag1)).mono λe W' ⟨he,hF⟩ => ?_;subst he;have uf:=hF.below;exact⟨_,rfl,_,_,_,[],_,[],hW',trodAll_mk1 (shut_bool Tryz.underlying4 _),DE aZ uf aZ agj,rfl,uf.frame _,λh=>by cases h⟩
def abg:Array Value:=(yK.flatMap gT).toArray
def abh:Array Value:=(Qt.flatMap HX).toArray
noncomputable def Gn(os:Os):World:={World.holding Tryz.prog os ⟨#[],#[],[]⟩with heap:=(((World.holding Tryz.prog os ⟨#[],#[],[]⟩).heap.modify 1 (fun | .cells _ t frozen=>.cells abg t frozen | o=>o)).modify 0 (fun | .cells _ t frozen=>.cells abh t frozen | o=>o))}
theorem Wp(os:Os):laidMet Tryz.prog Rows.workerSerialUptoRow.laid ((Gn os).forCall (λ_ _=>0) ⟨#[],#[.agg #[.slice none 0 0,.slice none 0 0,.int .i64 0,.int .i64 0,.int .i64 0,.int .i64 0,.slice none 0 0,.slice none 0 0]],[]⟩).memory:=
 laidMet_of_run' 40 aZ aZ
theorem reads(os:Os){H:Type}(enc:TypeId×Value->H) :∃places,DataW.whole enc Tryz.prog ((Gn os).forCall (λ_ _=>0) ⟨#[],#[.agg #[.slice none 0 0,.slice none 0 0,.int .i64 0,.int .i64 0,.int .i64 0,.int .i64 0,.slice none 0 0,.slice none 0 0]],[]⟩).memory Tryz.f10.params.toList Rows.workerSerialSpec.vars false (#[.agg #[.slice none 0 0,.slice none 0 0,.int .i64 0,.int .i64 0,.int .i64 0,.int .i64 0,.slice none 0 0,.slice none 0 0]]:Array Value).toList 16=some ([.agg [.agg [.nil],.nil,.lit (.int .i64 0),.agg [.lit (.int .i64 0),.lit (.int .i64 0),.lit (.int .i64 0)],.agg [.nil,.nil]]],[],places):=
 ⟨[],aZ⟩
set_option maxRecDepth 100000 in
theorem lifted(os:Os)(started:os.Started)(H:Type)(enc:TypeId×Value->H)(F:Stop.Interp) :
 ReturnsInHanded {} Tryz.checked os 10 .any ((Rows.OpenSpec.upto Rows.workerSerialSpec).preRow enc Tryz.prog Tryz.f10 Rows.workerSerialUptoRow.domain false Rows.workerSerialUptoRow.laid) (((Rows.OpenSpec.upto Rows.workerSerialSpec).at F).post enc Tryz.prog Tryz.f10 false true false false):=by
 obtain⟨places,hx⟩:=reads os enc;refine returnsInHanded_of_row (C:=Tryz.checked) (s:=Rows.OpenSpec.upto Rows.workerSerialSpec) own started aZ func10
  (witness_row_at (enc:=enc) (C:=Tryz.checked) false (Gn os) #[.agg #[.slice none 0 0,.slice none 0 0,.int .i64 0,.int .i64 0,.int .i64 0,.int .i64 0,.slice none 0 0,.slice none 0 0]] rfl aZ aZ aZ
   (OpenSpec.preRow_of_cond 16 hx aZ (λk hk=>by cases hk;kernel_rfl) aZ (Wp os))) ?_
 intro ag1 base args ds gs before hval hW _ ad8 _ hL _ _;exact contract H enc ag1 base args ds gs before hval hW (ad8 _ rfl) hL
theorem iB{a b:Bool}(h1:a=true)(h2:b=true):(a&&b)=true:=by rw[h1,h2];rfl
set_option maxHeartbeats 4000000 in
theorem facts:joinedFacts Tryz.pinned.checked.prog 10 Tryz.f10 (Rows.OpenSpec.upto Rows.workerSerialSpec).bare Rows.workerSerialUptoRow=true:=by
 unfold joinedFacts;refine iB (iB (iB (iB (iB (iB (iB (iB (iB (iB (iB (iB (iB (iB (iB (iB (iB (iB (iB (iB (iB (iB (iB (iB (iB (iB (iB (iB (iB (iB (iB ?_ ?_) ?_) ?_) ?_) ?_) ?_) ?_) ?_) ?_) ?_) ?_) ?_) ?_) ?_) ?_) ?_) ?_) ?_) ?_) ?_) ?_) ?_) ?_) ?_) ?_) ?_) ?_) ?_) ?_) ?_) ?_
 all_goals as_aux_lemma=>kernel_rfl
theorem proved:Rows.WorkerSerialUptoSaid:=
 OpenClaim.holds_of_cond 10 Tryz.f10 rfl rfl rfl rfl rfl rfl rfl ⟨rfl,rfl,rfl,rfl,rfl⟩ rfl rfl rfl rfl rfl aZ func10 facts
  (of_decide_eq_true aZ) (by unfold Func.isWrapper;first | (rw[aP (by decide +kernel)];kernel_rfl) | (rw[cu (by decide +kernel)];exact⟨rfl,rfl⟩))
  (λos started H enc _ F=>by rw[OpenClaim.pre_eq_preRow];exact lifted os started H enc F)
theorem plain(f:FuncId)(fn:Func)(hf:Tryz.pinned.checked.prog.funcNamed "plunder/plunderlaw11.WorkerSerial" = some f) (hfn:Tryz.pinned.checked.prog.funcs[f]? = some fn) :
 true=Tryz.pinned.checked.prog.looks []/\∀(j:Nat) t,fn.params[j]? = some t->Tryz.pinned.checked.prog.wantsStandIn t=false:=by
 obtain rfl:f=10:=Option.some.inj ((show Tryz.prog.funcNamed "plunder/plunderlaw11.WorkerSerial" = some 10 by kernel_rfl).symm.trans hf) |>.symm
 obtain rfl:fn=Tryz.f10:=(Option.some.inj (func10.symm.trans hfn)).symm;refine⟨aZ,λj t ht => ?_⟩;rw[Tryz.params10]at ht;have ht:=Array.mem_of_getElem? ht;simp only[List.mem_toArray,tV,tW,tX]at ht;subst ht;exact(show Tryz.prog.wantsStandIn 32=false by kernel_rfl)
theorem card:Rows.WorkerSerialUptoCardSaid:=
 Claim7.holds_tied_plain_at .later [] _ _ _ _ proved (λ_ h=>by cases h) aZ (λ_ h=>by cases h) workerSerialUpto_row_tie rfl ⟨rfl,rfl⟩ aZ rfl plain aZ
#print axioms card
end workerSerialUptoRow
theorem workerSerialUpto_holds:Rows.WorkerSerialUptoCardSaid:=workerSerialUptoRow.card
end Go.Proofs.YtpikpffbcjpmcaaGreatDoor
