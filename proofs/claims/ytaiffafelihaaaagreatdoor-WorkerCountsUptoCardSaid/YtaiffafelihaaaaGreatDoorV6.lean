/- plunderlaw11.WorkerCounts answers true for every input of the bulk that the statement names, and leaves its input alone. Conditions: none. -/
import Derived.Test.YtaiffafelihaaaaGreatDoorV5
set_option linter.all false
set_option maxRecDepth 100000
namespace Go.Proofs.YtaiffafelihaaaaGreatDoor
namespace workerCountsUptoRow
open Go.ChangeShapes Go.WideShapes Go.ChangeAt Go.RowKit
open SL GX RK Mo
theorem own:ownKnob Tryz.prog.godebug=none:=by kernel_rfl
theorem Q7:Tryz.prog.cellsOf 214=1:=by kernel_rfl
theorem ae1:Tryz.prog.cellsOf 83=1:=by kernel_rfl
theorem ae2:Tryz.prog.cellsOf 30=2:=by kernel_rfl
theorem ac3:Tryz.prog.cellsOf 28=1:=by kernel_rfl
theorem ae3:Tryz.prog.cellsOf 27=3:=by kernel_rfl
theorem ae4:Tryz.prog.cellsOf 25=1:=by kernel_rfl
theorem ae5:Tryz.prog.cellsOf 24=1:=by kernel_rfl
theorem ae6:Tryz.prog.cellsOf 22=1:=by kernel_rfl
theorem cl4:Tryz.prog.cellsOf 4=1:=by kernel_rfl
theorem Vu:Tryz.prog.cellsOf 3=1:=by kernel_rfl
theorem cl2:Tryz.prog.cellsOf 2=1:=by kernel_rfl
def dE1(x:vM):DataW Unit:=.agg [.lit (.int .i64 x.a),.lit (.int .i64 x.b),.lit (.int .i64 x.c),.lit (.int .i64 x.k),.lit (.bool x.next)]
theorem ae7{afU:World}:∀m cs y (x:vM),DataW.trod (λ_=>()) Tryz.prog afU 0 (λ_=>true) false m 215 cs=some y->cs.length=5->y.1=dE1 x->cs=iu x:=by
 intro m cs y x h hl hd;obtain⟨xs,m',_,hx,_,hxl,hg⟩:=DataW.trod_struct Tryz.underlying215 h
 match cs,hl,xs,hxl with
 | [c0,c1,c2,c3,c4],_,[x0,x1,x2,x3,x4],_ =>
  have g0:=hg 0 _ rfl;simp only[Q7,rR,pW,pV,wh,sx,sy,sA,sB,List.getElem?_cons_succ,List.getElem?_cons_zero]at g0;obtain⟨y0,e0,f0,_⟩:=DataW.trod_int Tryz.underlying214 g0;have g1:=hg 1 _ rfl;simp only[Q7,rR,pW,pV,wh,sx,sy,sA,sB,List.getElem?_cons_succ,List.getElem?_cons_zero]at g1;obtain⟨y1,e1,f1,_⟩:=DataW.trod_int Tryz.underlying214 g1;have g2:=hg 2 _ rfl;simp only[Q7,rR,pW,pV,wh,sx,sy,sA,sB,List.getElem?_cons_succ,List.getElem?_cons_zero]at g2;obtain⟨y2,e2,f2,_⟩:=DataW.trod_int Tryz.underlying214 g2;have g3:=hg 3 _ rfl;simp only[Q7,rR,pW,pV,wh,sx,sy,sA,sB,List.getElem?_cons_succ,List.getElem?_cons_zero]at g3;obtain⟨y3,e3,f3,_⟩:=DataW.trod_int Tryz.underlying214 g3;have g4:=hg 4 _ rfl;simp only[cl4,rR,pW,pV,wh,sx,sy,sA,sB,List.getElem?_cons_succ,List.getElem?_cons_zero]at g4;obtain⟨y4,e4,f4⟩:=DataW.trod_bool Tryz.underlying4 g4;rw[hx]at hd;simp only[dE1,C4,Ea,DataW.agg.injEq,List.cons.injEq,AW,f0,f1,f2,f3,f4,DataW.lit.injEq,Lit.int.injEq,Lit.bool.injEq,true_and]at hd;simp only[List.cons.injEq,AW]at e0 e1 e2 e3 e4;obtain⟨h0,h1,h2,h3,h4⟩:=hd;simp only[e0,e1,e2,e3,e4,h0,h1,h2,h3,h4];rfl
def dE0(x:Bool):DataW Unit:=.lit (.bool x)
theorem ae8{afU:World}:∀m cs y (x:Bool),DataW.trod (λ_=>()) Tryz.prog afU 0 (λ_=>true) false m 4 cs=some y->cs.length=1->y.1=dE0 x->cs=Mm x:=by
 intro m cs y x h hl hd;obtain⟨y0,e0,f0⟩:=DataW.trod_bool Tryz.underlying4 h;rw[f0]at hd;simp only[dE0,DataW.lit.injEq,Lit.bool.injEq]at hd;rw[e0,hd];rfl
theorem XJ{afU:World}(h:laidMetH Tryz.prog Rows.workerCountsUptoRow.laid afU):cx [old afU] 5 iu (some ⟨1,0,none⟩) yy/\cx [old afU] 1 Mm (some ⟨0,0,none⟩) So:=by
 rw[MakeChecks.laidMetH_plain _ _ _ aY]at h;obtain⟨ps,hV,_,_⟩:=h;have hV0:DataW.LaidVars Tryz.prog afU [("plunder/prog.fields",.agg (yy.map dE1)),("plunder/worker.idle",.agg (So.map dE0))] ps:=hV
 obtain⟨r0,ps0,hV1⟩:=Mt dO (show Tryz.prog.globalNamed "plunder/prog.fields" = some 1 by kernel_rfl) (show(Tryz.prog.globals[1]?).map (·.type)=some 216 by kernel_rfl) Tryz.underlying216 (show Tryz.prog.cellsOf 215=5 by kernel_rfl) (show Tryz.prog.cellsOf 216=50 by kernel_rfl) rfl (λx=>rfl) ae7 hV0
 obtain⟨r1,ps1,hV2⟩:=Mt dO (show Tryz.prog.globalNamed "plunder/worker.idle" = some 0 by kernel_rfl) (show(Tryz.prog.globals[0]?).map (·.type)=some 123 by kernel_rfl) Tryz.underlying123 (show Tryz.prog.cellsOf 4=1 by kernel_rfl) (show Tryz.prog.cellsOf 123=15 by kernel_rfl) rfl (λx=>rfl) ae8 hV1
 exact⟨r0,r1⟩
def aas(x:cG):Prop:=HC x.aP/\HC x.A/\HC x.B/\HC x.C/\HC x.K
theorem ac4{H:Type}{Fc:TypeId×Value->H}{afU:World}{n:Nat}{cs:List Value}{y:DataW H×List MemPlace}(h:DataW.trod Fc Tryz.prog afU 0 (λ_=>true) true n 132 cs=some y)(hl:cs.length=5) :∃x:cG,cs=cS x/\aas x:=by
 match cs,hl with
 | [c0,c1,c2,c3,c4],_ =>
  obtain⟨m0,z0,k0,b0⟩:=ru Tryz.underlying132 h 0 rfl;simp only[Vu,rR,pW,pV,wh,sx,sy,sA,sB]at k0;obtain⟨y0,e0,i0⟩:=vJ Tryz.underlying3 k0;obtain⟨m1,z1,k1,b1⟩:=ru Tryz.underlying132 h 1 rfl;simp only[Vu,rR,pW,pV,wh,sx,sy,sA,sB]at k1;obtain⟨y1,e1,i1⟩:=vJ Tryz.underlying3 k1;obtain⟨m2,z2,k2,b2⟩:=ru Tryz.underlying132 h 2 rfl;simp only[Vu,rR,pW,pV,wh,sx,sy,sA,sB]at k2;obtain⟨y2,e2,i2⟩:=vJ Tryz.underlying3 k2;obtain⟨m3,z3,k3,b3⟩:=ru Tryz.underlying132 h 3 rfl;simp only[Vu,rR,pW,pV,wh,sx,sy,sA,sB]at k3;obtain⟨y3,e3,i3⟩:=vJ Tryz.underlying3 k3;obtain⟨m4,z4,k4,b4⟩:=ru Tryz.underlying132 h 4 rfl;simp only[cl2,rR,pW,pV,wh,sx,sy,sA,sB]at k4;obtain⟨y4,e4,i4⟩:=vJ Tryz.underlying2 k4;simp only[List.cons.injEq,AW]at e0 e1 e2 e3 e4;subst e0 e1 e2 e3 e4;exact⟨⟨y0,y1,y2,y3,y4⟩,rfl,i0,i1,i2,i3,i4⟩
def Q85{H:Type}(x:aD)(d:DataW H):Prop:=HC x.aS/\HC x.cZ/\HC x.bP/\x.ai.length+1<=Rows.uptoBulk d/\∀y∈x.ai,aas y
theorem ae9{H:Type}{Fc:TypeId×Value->H}{afU:World}{n:Nat}{cs:List Value}{y:DataW H×List MemPlace}(h:DataW.trod Fc Tryz.prog afU 0 (λ_=>true) true n 85 cs=some y)(hl:cs.length=4) :∃(a:gF) (c:Nat) (x:aD),cs=Wi a c x/\cx [old afU] 5 cS a x.ai/\Q85 x y.1:=by
 match cs,hl with
 | [c0,c1,c2,c3],_ =>
  obtain⟨m0,z0,k0,b0⟩:=ru Tryz.underlying85 h 0 rfl;simp only[Vu,rR,pW,pV,wh,sx,sy,sA,sB]at k0;obtain⟨y0,e0,i0⟩:=vJ Tryz.underlying3 k0;obtain⟨m1,z1,k1,b1⟩:=ru Tryz.underlying85 h 1 rfl;simp only[Vu,rR,pW,pV,wh,sx,sy,sA,sB]at k1;obtain⟨y1,e1,i1⟩:=vJ Tryz.underlying3 k1;obtain⟨m2,z2,k2,b2⟩:=ru Tryz.underlying85 h 2 rfl;simp only[Vu,rR,pW,pV,wh,sx,sy,sA,sB]at k2;obtain⟨y2,e2,i2⟩:=vJ Tryz.underlying3 k2;obtain⟨m3,z3,k3,b3⟩:=ru Tryz.underlying85 h 3 rfl;simp only[ae1,rR,pW,pV,wh,sx,sy,sA,sB]at k3;obtain⟨va,l,cap,e3,r3,q3,g3,_⟩:=Og (Q:=λx _=>aas x) kF Tryz.underlying83 aY (λn cs y h hl=>ac4 h hl) k3;simp only[List.cons.injEq,AW]at e0 e1 e2 e3;subst e0 e1 e2 e3;exact⟨va,cap,⟨y0,y1,y2,l⟩,rfl,r3,i0,i1,i2,by show l.length+1<=_;omega,λx hx=>by obtain⟨_,h,_⟩:=q3 x hx;exact h⟩
set_option maxRecDepth 100000 in
theorem contract(H:Type)(enc:TypeId×Value->H)(afU:World)(base:Nat)(args:Array Value)(ds gs:List (DataW H))(before:List MemPlace)
 (hval:∀(j:Nat) t v,Tryz.f9.params[j]? = some t->args[j]? = some v->Value.okWide Tryz.prog afU .any base t v)
 (hW:DataW.Whole enc Tryz.prog Tryz.f9.params.toList Rows.workerCountsSpec.vars false afU args.toList ds gs before) (hk:Rows.uptoSmall H (ds++gs)=true) (hL:laidMetH Tryz.prog Rows.workerCountsUptoRow.laid afU) :
 Calls Tryz.prog 9 args afU λe W' =>∃v,e= .returned v/\Rows.workerCountsSpec.post enc Tryz.prog Tryz.f9 false true false false afU args v W':=by
 have hG:=XJ hL;have hW':=hW;obtain⟨p,q,hA0,hV,rfl,hfz,hnd⟩:=hW;have hA:DataW.TrodAll enc Tryz.prog afU 0 (λ_=>true) true Tryz.f9.params.toList args.toList ds p:=hA0;rw[Tryz.params9]at hA hval;have afa:=hA;obtain⟨v0,vs0,d0,ds0,O,q0,hargs,rfl,rfl,h0,r0⟩:=trodAll_cons hA;obtain⟨rfl,rfl,rfl⟩:=trodAll_nil r0;obtain rfl:args=#[v0]:=by cases args;simp_all
 obtain⟨rfl,rfl⟩:=trodVars_none hV;have ac5:Rows.uptoBulkAll _<=1048576:=of_decide_eq_true hk;have hBc:Rows.uptoBulk (d0,O).1<=1048576:=Bi (J2 (d:=d0) (by simp)) ac5;obtain⟨csc,rfl,_⟩:=okWide_struct Tryz.underlying32 (hval 0 32 v0 rfl rfl);obtain⟨fuc,Yz⟩:=h0;have Yz:DataW.trod enc Tryz.prog afU 0 (λ_=>true) true fuc 32 csc.toList=some (d0,O):=Yz;have hlc:=YR Tryz.underlying32 Yz;rw[show Tryz.prog.cellsOf 32=8 by kernel_rfl]at hlc;obtain⟨lc⟩:=csc;obtain⟨c_0,c_1,c_2,c_3,c_4,c_5,c_6,c_7,rfl⟩ :∃c_0 c_1 c_2 c_3 c_4 c_5 c_6 c_7,lc=[c_0,c_1,c_2,c_3,c_4,c_5,c_6,c_7]:=by match lc,hlc with | [c_0,c_1,c_2,c_3,c_4,c_5,c_6,c_7],_=>exact⟨c_0,c_1,c_2,c_3,c_4,c_5,c_6,c_7,rfl⟩
 obtain⟨mc1,zc1,kc1,bc1⟩:=ru Tryz.underlying32 Yz 0 rfl;simp only[ae5,rR,pW,pV,wh,sx,sy,sA,sB]at kc1;obtain⟨mc2,zc2,kc2,bc2⟩:=ru Tryz.underlying24 kc1 0 rfl;simp only[ae6,rR,pW,pV,wh,sx,sy,sA,sB]at kc2;obtain⟨afb,afc,lc2,afd,ec2,rc2,qc2,gc2,afH⟩:=V8 (Q:=Q85) (enc:=Wi) (nS:=cS) (J3:=aD.ai) (sz:=4) (yh:=5) (λa c=>⟨λ_=>rfl,λx u h=>by simp only[Wi,tX,tY,tZ]at h;rcases h with rfl | rfl | rfl | rfl<;>rfl,dO⟩) Tryz.underlying22 aY (λn cs y h hl=>ae9 h hl) kc2;simp only[List.cons.injEq,AW]at ec2;subst ec2;obtain⟨mc3,zc3,kc3,bc3⟩:=ru Tryz.underlying32 Yz 1 rfl;simp only[ae4,rR,pW,pV,wh,sx,sy,sA,sB]at kc3;obtain⟨afe,lc3,aff,ec3,rc3,qc3,gc3,afI⟩:=Ky Tryz.underlying25 Tryz.underlying2 aY kc3;simp only[List.cons.injEq,AW]at ec3;subst ec3;obtain⟨mc4,zc4,kc4,bc4⟩:=ru Tryz.underlying32 Yz 2 rfl;simp only[Vu,rR,pW,pV,wh,sx,sy,sA,sB]at kc4;obtain⟨lS,ec4,ic4⟩:=vJ Tryz.underlying3 kc4;simp only[List.cons.injEq,AW]at ec4;subst ec4;obtain⟨mc5,zc5,kc5,bc5⟩:=ru Tryz.underlying32 Yz 3 rfl;simp only[ae3,rR,pW,pV,wh,sx,sy,sA,sB]at kc5;obtain⟨mc6,zc6,kc6,bc6⟩:=ru Tryz.underlying27 kc5 0 rfl;simp only[Vu,rR,pW,pV,wh,sx,sy,sA,sB]at kc6;obtain⟨xc6,ec6,ic6⟩:=vJ Tryz.underlying3 kc6;simp only[List.cons.injEq,AW]at ec6;subst ec6;obtain⟨mc7,zc7,kc7,bc7⟩:=ru Tryz.underlying27 kc5 1 rfl;simp only[Vu,rR,pW,pV,wh,sx,sy,sA,sB]at kc7;obtain⟨xc7,ec7,ic7⟩:=vJ Tryz.underlying3 kc7;simp only[List.cons.injEq,AW]at ec7;subst ec7;obtain⟨mc8,zc8,kc8,bc8⟩:=ru Tryz.underlying27 kc5 2 rfl;simp only[Vu,rR,pW,pV,wh,sx,sy,sA,sB]at kc8;obtain⟨xc8,ec8,ic8⟩:=vJ Tryz.underlying3 kc8;simp only[List.cons.injEq,AW]at ec8;subst ec8;obtain⟨mc9,zc9,kc9,bc9⟩:=ru Tryz.underlying32 Yz 4 rfl;simp only[ae2,rR,pW,pV,wh,sx,sy,sA,sB]at kc9;obtain⟨afJ,afK,YH,afL⟩:=ru Tryz.underlying30 kc9 0 rfl;simp only[ac3,rR,pW,pV,wh,sx,sy,sA,sB]at YH;obtain⟨ac6,aat,ac7,ac8,afg,afM,afN,afm⟩:=Ky Tryz.underlying28 Tryz.underlying3 aY YH;simp only[List.cons.injEq,AW]at ac8;subst ac8;obtain⟨afO,afP,YJ,afQ⟩:=ru Tryz.underlying30 kc9 1 rfl;simp only[ac3,rR,pW,pV,wh,sx,sy,sA,sB]at YJ;obtain⟨ac9,aau,ada,adb,afh,afR,afS,afn⟩:=Ky Tryz.underlying28 Tryz.underlying3 aY YJ;simp only[List.cons.injEq,AW]at adb;subst adb;have afo :∃c:gh,c=⟨lc2,lc3,lS,xc6,xc7,xc8,aat,aau⟩:=⟨_,rfl⟩;have H0:=(show lq 5000000 (⟨lc2,lc3,lS,xc6,xc7,xc8,aat,aau⟩:gh)=some true from NX (by show aau.length<=_;omega) (by show aat.length<=_;omega) ⟨λf hf=>by obtain⟨d,q,hd⟩:=qc2 f hf;exact⟨q.1,q.2.1,q.2.2.1⟩,λf hf c hc=>by obtain⟨d,q,hd⟩:=qc2 f hf;have:=q.2.2.2.2 c hc;exact⟨this.2.1,this.2.2.1,this.2.2.2.1,this.2.2.2.2⟩⟩ (λx hx=>qc3 x hx) dO);refine(wZ (aX:=afb) (bG:=afd) (eN:=rc2) (fA:=afc) (mR:=afe) (nV:=aff) (vl:=rc3) (fZ:=ac6) (jL:=ac7) (rX:=afg) (kO:=ac9) (my:=ada) (wK:=afh) (xp:=hG.1) (RB:=hG.2) (H:=H0) (h:=Fit.begin afU)).mono λe W' ⟨he,hF⟩ => ?_;subst he;have tM:=hF.below;exact⟨_,rfl,_,_,_,[],_,[],hW',trodAll_mk1 (shut_bool Tryz.underlying4 _),Dd aY tM aY afa,rfl,tM.frame _,λh=>by cases h⟩
def aav:Array Value:=(yy.flatMap iu).toArray
def aaw:Array Value:=(So.flatMap Mm).toArray
noncomputable def FQ(os:Os):World:={World.holding Tryz.prog os ⟨#[],#[],[]⟩with heap:=(((World.holding Tryz.prog os ⟨#[],#[],[]⟩).heap.modify 1 (fun | .cells _ t frozen=>.cells aav t frozen | o=>o)).modify 0 (fun | .cells _ t frozen=>.cells aaw t frozen | o=>o))}
theorem Vv(os:Os):laidMet Tryz.prog Rows.workerCountsUptoRow.laid ((FQ os).forCall (λ_ _=>0) ⟨#[],#[.agg #[.slice none 0 0,.slice none 0 0,.int .i64 0,.int .i64 0,.int .i64 0,.int .i64 0,.slice none 0 0,.slice none 0 0]],[]⟩).memory:=
 laidMet_of_run' 40 aY aY
theorem reads(os:Os){H:Type}(enc:TypeId×Value->H) :∃places,DataW.whole enc Tryz.prog ((FQ os).forCall (λ_ _=>0) ⟨#[],#[.agg #[.slice none 0 0,.slice none 0 0,.int .i64 0,.int .i64 0,.int .i64 0,.int .i64 0,.slice none 0 0,.slice none 0 0]],[]⟩).memory Tryz.f9.params.toList Rows.workerCountsSpec.vars false (#[.agg #[.slice none 0 0,.slice none 0 0,.int .i64 0,.int .i64 0,.int .i64 0,.int .i64 0,.slice none 0 0,.slice none 0 0]]:Array Value).toList 16=some ([.agg [.agg [.nil],.nil,.lit (.int .i64 0),.agg [.lit (.int .i64 0),.lit (.int .i64 0),.lit (.int .i64 0)],.agg [.nil,.nil]]],[],places):=
 ⟨[],aY⟩
set_option maxRecDepth 100000 in
theorem lifted(os:Os)(started:os.Started)(H:Type)(enc:TypeId×Value->H)(F:Stop.Interp) :
 ReturnsInHanded {} Tryz.checked os 9 .any ((Rows.OpenSpec.upto Rows.workerCountsSpec).preRow enc Tryz.prog Tryz.f9 Rows.workerCountsUptoRow.domain false Rows.workerCountsUptoRow.laid) (((Rows.OpenSpec.upto Rows.workerCountsSpec).at F).post enc Tryz.prog Tryz.f9 false true false false):=by
 obtain⟨places,hx⟩:=reads os enc;refine returnsInHanded_of_row (C:=Tryz.checked) (s:=Rows.OpenSpec.upto Rows.workerCountsSpec) own started aY Tryz.func9
  (witness_row_at (enc:=enc) (C:=Tryz.checked) false (FQ os) #[.agg #[.slice none 0 0,.slice none 0 0,.int .i64 0,.int .i64 0,.int .i64 0,.int .i64 0,.slice none 0 0,.slice none 0 0]] rfl aY aY aY
   (OpenSpec.preRow_of_cond 16 hx aY (λk hk=>by cases hk;kernel_rfl) aY (Vv os))) ?_
 intro afU base args ds gs before hval hW _ ade _ hL _ _;exact contract H enc afU base args ds gs before hval hW (ade _ rfl) hL
theorem iq{a b:Bool}(h1:a=true)(h2:b=true):(a&&b)=true:=by rw[h1,h2];rfl
set_option maxHeartbeats 4000000 in
theorem facts:joinedFacts Tryz.pinned.checked.prog 9 Tryz.f9 (Rows.OpenSpec.upto Rows.workerCountsSpec).bare Rows.workerCountsUptoRow=true:=by
 unfold joinedFacts;refine iq (iq (iq (iq (iq (iq (iq (iq (iq (iq (iq (iq (iq (iq (iq (iq (iq (iq (iq (iq (iq (iq (iq (iq (iq (iq (iq (iq (iq (iq (iq ?_ ?_) ?_) ?_) ?_) ?_) ?_) ?_) ?_) ?_) ?_) ?_) ?_) ?_) ?_) ?_) ?_) ?_) ?_) ?_) ?_) ?_) ?_) ?_) ?_) ?_) ?_) ?_) ?_) ?_) ?_) ?_
 all_goals as_aux_lemma=>kernel_rfl
theorem proved:Rows.WorkerCountsUptoSaid:=
 OpenClaim.holds_of_cond 9 Tryz.f9 rfl rfl rfl rfl rfl rfl rfl ⟨rfl,rfl,rfl,rfl,rfl⟩ rfl rfl rfl rfl rfl aY Tryz.func9 facts
  (of_decide_eq_true aY) (by unfold Func.isWrapper;first | (rw[aM (by decide +kernel)];kernel_rfl) | (rw[bZ (by decide +kernel)];exact⟨rfl,rfl⟩))
  (λos started H enc _ F=>by rw[OpenClaim.pre_eq_preRow];exact lifted os started H enc F)
theorem plain(f:FuncId)(fn:Func)(hf:Tryz.pinned.checked.prog.funcNamed "plunder/plunderlaw11.WorkerCounts" = some f) (hfn:Tryz.pinned.checked.prog.funcs[f]? = some fn) :
 true=Tryz.pinned.checked.prog.looks []/\∀(j:Nat) t,fn.params[j]? = some t->Tryz.pinned.checked.prog.wantsStandIn t=false:=by
 obtain rfl:f=9:=Option.some.inj ((show Tryz.prog.funcNamed "plunder/plunderlaw11.WorkerCounts" = some 9 by kernel_rfl).symm.trans hf) |>.symm
 obtain rfl:fn=Tryz.f9:=(Option.some.inj (Tryz.func9.symm.trans hfn)).symm;refine⟨aY,λj t ht => ?_⟩;rw[Tryz.params9]at ht;have ht:=Array.mem_of_getElem? ht;simp only[List.mem_toArray,tX,tY,tZ]at ht;subst ht;exact(show Tryz.prog.wantsStandIn 32=false by kernel_rfl)
theorem card:Rows.WorkerCountsUptoCardSaid:=
 Claim7.holds_tied_plain_at .later [] _ _ _ _ proved (λ_ h=>by cases h) aY (λ_ h=>by cases h) workerCountsUpto_row_tie rfl ⟨rfl,rfl⟩ aY rfl plain aY
#print axioms card
end workerCountsUptoRow
theorem workerCountsUpto_holds:Rows.WorkerCountsUptoCardSaid:=workerCountsUptoRow.card
end Go.Proofs.YtaiffafelihaaaaGreatDoor
