/- plunderlaw11.WorkerJoins answers true for every input of the bulk that the statement names, and leaves its input alone. Conditions: none. -/
import Derived.Test.YtpikpffbcjpmcaaGreatDoorV4
set_option linter.all false
set_option maxRecDepth 100000
namespace Go.Proofs.YtpikpffbcjpmcaaGreatDoor
open Proofs.Tryz
namespace workerJoinsUptoRow
open Go.ChangeShapes Go.WideShapes Go.ChangeAt Go.RowKit
open SL GX RK Mo
theorem own:ownKnob Tryz.prog.godebug=none:=by kernel_rfl
theorem PF:Tryz.prog.cellsOf 248=1:=by kernel_rfl
theorem aez:Tryz.prog.cellsOf 97=1:=by kernel_rfl
theorem aeA:Tryz.prog.cellsOf 30=2:=by kernel_rfl
theorem acm:Tryz.prog.cellsOf 28=1:=by kernel_rfl
theorem aeB:Tryz.prog.cellsOf 27=3:=by kernel_rfl
theorem aeC:Tryz.prog.cellsOf 25=1:=by kernel_rfl
theorem aeD:Tryz.prog.cellsOf 24=1:=by kernel_rfl
theorem aeE:Tryz.prog.cellsOf 22=1:=by kernel_rfl
theorem cl4:Tryz.prog.cellsOf 4=1:=by kernel_rfl
theorem T3:Tryz.prog.cellsOf 3=1:=by kernel_rfl
theorem cl2:Tryz.prog.cellsOf 2=1:=by kernel_rfl
def dE1(x:uH):DataW Unit:=.agg [.lit (.int .i64 x.a),.lit (.int .i64 x.b),.lit (.int .i64 x.c),.lit (.int .i64 x.k),.lit (.bool x.next)]
theorem aeF{afs:World}:∀m cs y (x:uH),DataW.trod (λ_=>()) Tryz.prog afs 0 (λ_=>true) false m 249 cs=some y->cs.length=5->y.1=dE1 x->cs=gF x:=by
 intro m cs y x h hl hd;obtain⟨xs,m',_,hx,_,hxl,hg⟩:=DataW.trod_struct Tryz.underlying249 h
 match cs,hl,xs,hxl with
 | [c0,c1,c2,c3,c4],_,[x0,x1,x2,x3,x4],_ =>
  have g0:=hg 0 _ rfl;simp only[PF,qH,mY,oI,uB,rq,ru,ry,rz,List.getElem?_cons_succ,List.getElem?_cons_zero]at g0;obtain⟨y0,e0,f0,_⟩:=DataW.trod_int Tryz.underlying248 g0;have g1:=hg 1 _ rfl;simp only[PF,qH,mY,oI,uB,rq,ru,ry,rz,List.getElem?_cons_succ,List.getElem?_cons_zero]at g1;obtain⟨y1,e1,f1,_⟩:=DataW.trod_int Tryz.underlying248 g1;have g2:=hg 2 _ rfl;simp only[PF,qH,mY,oI,uB,rq,ru,ry,rz,List.getElem?_cons_succ,List.getElem?_cons_zero]at g2;obtain⟨y2,e2,f2,_⟩:=DataW.trod_int Tryz.underlying248 g2;have g3:=hg 3 _ rfl;simp only[PF,qH,mY,oI,uB,rq,ru,ry,rz,List.getElem?_cons_succ,List.getElem?_cons_zero]at g3;obtain⟨y3,e3,f3,_⟩:=DataW.trod_int Tryz.underlying248 g3;have g4:=hg 4 _ rfl;simp only[cl4,qH,mY,oI,uB,rq,ru,ry,rz,List.getElem?_cons_succ,List.getElem?_cons_zero]at g4;obtain⟨y4,e4,f4⟩:=DataW.trod_bool Tryz.underlying4 g4;rw[hx]at hd;simp only[dE1,zF,Ai,DataW.agg.injEq,List.cons.injEq,zI,f0,f1,f2,f3,f4,DataW.lit.injEq,Lit.int.injEq,Lit.bool.injEq,true_and]at hd;simp only[List.cons.injEq,zI]at e0 e1 e2 e3 e4;obtain⟨h0,h1,h2,h3,h4⟩:=hd;simp only[e0,e1,e2,e3,e4,h0,h1,h2,h3,h4];rfl
def dE0(x:Bool):DataW Unit:=.lit (.bool x)
theorem aeG{afs:World}:∀m cs y (x:Bool),DataW.trod (λ_=>()) Tryz.prog afs 0 (λ_=>true) false m 4 cs=some y->cs.length=1->y.1=dE0 x->cs=xg x:=by
 intro m cs y x h hl hd;obtain⟨y0,e0,f0⟩:=DataW.trod_bool Tryz.underlying4 h;rw[f0]at hd;simp only[dE0,DataW.lit.injEq,Lit.bool.injEq]at hd;rw[e0,hd];rfl
theorem Wa{afs:World}(h:laidMetH Tryz.prog Rows.workerJoinsUptoRow.laid afs):bE [old afs] 5 gF (some ⟨1,0,none⟩) wS/\bE [old afs] 1 xg (some ⟨0,0,none⟩) Oy:=by
 rw[MakeChecks.laidMetH_plain _ _ _ bp]at h;obtain⟨ps,hV,_,_⟩:=h;have hV0:DataW.LaidVars Tryz.prog afs [("plunder/prog.fields",.agg (wS.map dE1)),("plunder/worker.idle",.agg (Oy.map dE0))] ps:=hV
 obtain⟨r0,ps0,hV1⟩:=KN eF (show Tryz.prog.globalNamed "plunder/prog.fields" = some 1 by kernel_rfl) (show(Tryz.prog.globals[1]?).map (·.type)=some 250 by kernel_rfl) Tryz.underlying250 (show Tryz.prog.cellsOf 249=5 by kernel_rfl) (show Tryz.prog.cellsOf 250=50 by kernel_rfl) rfl (λx=>rfl) aeF hV0
 obtain⟨r1,ps1,hV2⟩:=KN eF (show Tryz.prog.globalNamed "plunder/worker.idle" = some 0 by kernel_rfl) (show(Tryz.prog.globals[0]?).map (·.type)=some 136 by kernel_rfl) Tryz.underlying136 (show Tryz.prog.cellsOf 4=1 by kernel_rfl) (show Tryz.prog.cellsOf 136=15 by kernel_rfl) rfl (λx=>rfl) aeG hV1
 exact⟨r0,r1⟩
def Zc(x:bZ):Prop:=F1 x.aE/\F1 x.A/\F1 x.B/\F1 x.C/\F1 x.K
theorem acn{H:Type}{DK:TypeId×Value->H}{afs:World}{n:Nat}{cs:List Value}{y:DataW H×List MemPlace}(h:DataW.trod DK Tryz.prog afs 0 (λ_=>true) true n 146 cs=some y)(hl:cs.length=5) :∃x:bZ,cs=cL x/\Zc x:=by
 match cs,hl with
 | [c0,c1,c2,c3,c4],_ =>
  obtain⟨m0,z0,k0,b0⟩:=qa Tryz.underlying146 h 0 rfl;simp only[T3,qH,mY,oI,uB,rq,ru,ry,rz]at k0;obtain⟨y0,e0,i0⟩:=uE Tryz.underlying3 k0;obtain⟨m1,z1,k1,b1⟩:=qa Tryz.underlying146 h 1 rfl;simp only[T3,qH,mY,oI,uB,rq,ru,ry,rz]at k1;obtain⟨y1,e1,i1⟩:=uE Tryz.underlying3 k1;obtain⟨m2,z2,k2,b2⟩:=qa Tryz.underlying146 h 2 rfl;simp only[T3,qH,mY,oI,uB,rq,ru,ry,rz]at k2;obtain⟨y2,e2,i2⟩:=uE Tryz.underlying3 k2;obtain⟨m3,z3,k3,b3⟩:=qa Tryz.underlying146 h 3 rfl;simp only[T3,qH,mY,oI,uB,rq,ru,ry,rz]at k3;obtain⟨y3,e3,i3⟩:=uE Tryz.underlying3 k3;obtain⟨m4,z4,k4,b4⟩:=qa Tryz.underlying146 h 4 rfl;simp only[cl2,qH,mY,oI,uB,rq,ru,ry,rz]at k4;obtain⟨y4,e4,i4⟩:=uE Tryz.underlying2 k4;simp only[List.cons.injEq,zI]at e0 e1 e2 e3 e4;subst e0 e1 e2 e3 e4;exact⟨⟨y0,y1,y2,y3,y4⟩,rfl,i0,i1,i2,i3,i4⟩
def Q99{H:Type}(x:aC)(d:DataW H):Prop:=F1 x.aS/\F1 x.dc/\F1 x.bD/\x.aq.length+1<=Rows.uptoBulk d/\∀y∈x.aq,Zc y
theorem aeH{H:Type}{DK:TypeId×Value->H}{afs:World}{n:Nat}{cs:List Value}{y:DataW H×List MemPlace}(h:DataW.trod DK Tryz.prog afs 0 (λ_=>true) true n 99 cs=some y)(hl:cs.length=4) :∃(a:fO) (c:Nat) (x:aC),cs=Sf a c x/\bE [old afs] 5 cL a x.aq/\Q99 x y.1:=by
 match cs,hl with
 | [c0,c1,c2,c3],_ =>
  obtain⟨m0,z0,k0,b0⟩:=qa Tryz.underlying99 h 0 rfl;simp only[T3,qH,mY,oI,uB,rq,ru,ry,rz]at k0;obtain⟨y0,e0,i0⟩:=uE Tryz.underlying3 k0;obtain⟨m1,z1,k1,b1⟩:=qa Tryz.underlying99 h 1 rfl;simp only[T3,qH,mY,oI,uB,rq,ru,ry,rz]at k1;obtain⟨y1,e1,i1⟩:=uE Tryz.underlying3 k1;obtain⟨m2,z2,k2,b2⟩:=qa Tryz.underlying99 h 2 rfl;simp only[T3,qH,mY,oI,uB,rq,ru,ry,rz]at k2;obtain⟨y2,e2,i2⟩:=uE Tryz.underlying3 k2;obtain⟨m3,z3,k3,b3⟩:=qa Tryz.underlying99 h 3 rfl;simp only[aez,qH,mY,oI,uB,rq,ru,ry,rz]at k3;obtain⟨va,l,cap,e3,r3,q3,g3,_⟩:=MR (Q:=λx _=>Zc x) iv Tryz.underlying97 bp (λn cs y h hl=>acn h hl) k3;simp only[List.cons.injEq,zI]at e0 e1 e2 e3;subst e0 e1 e2 e3;exact⟨va,cap,⟨y0,y1,y2,l⟩,rfl,r3,i0,i1,i2,by show l.length+1<=_;omega,λx hx=>by obtain⟨_,h,_⟩:=q3 x hx;exact h⟩
set_option maxRecDepth 100000 in
theorem contract(H:Type)(enc:TypeId×Value->H)(afs:World)(base:Nat)(args:Array Value)(ds gs:List (DataW H))(before:List MemPlace)
 (hval:∀(j:Nat) t v,Tryz.f13.params[j]? = some t->args[j]? = some v->Value.okWide Tryz.prog afs .any base t v)
 (hW:DataW.Whole enc Tryz.prog Tryz.f13.params.toList Rows.workerJoinsSpec.vars false afs args.toList ds gs before) (hk:Rows.uptoSmall H (ds++gs)=true) (hL:laidMetH Tryz.prog Rows.workerJoinsUptoRow.laid afs) :
 Calls Tryz.prog 13 args afs λe W' =>∃v,e= .returned v/\Rows.workerJoinsSpec.post enc Tryz.prog Tryz.f13 false true false false afs args v W':=by
 have hG:=Wa hL;have hW':=hW;obtain⟨p,q,hA0,hV,rfl,hfz,hnd⟩:=hW;have hA:DataW.TrodAll enc Tryz.prog afs 0 (λ_=>true) true Tryz.f13.params.toList args.toList ds p:=hA0;rw[Tryz.params13]at hA hval;have aeI:=hA;obtain⟨v0,vs0,d0,ds0,O,q0,hargs,rfl,rfl,h0,r0⟩:=trodAll_cons hA;obtain⟨rfl,rfl,rfl⟩:=trodAll_nil r0;obtain rfl:args=#[v0]:=by cases args;simp_all
 obtain⟨rfl,rfl⟩:=trodVars_none hV;have aco:Rows.uptoBulkAll _<=1048576:=of_decide_eq_true hk;have hBc:Rows.uptoBulk (d0,O).1<=1048576:=G5 (Is (d:=d0) (by simp)) aco;obtain⟨csc,rfl,_⟩:=okWide_struct Tryz.underlying32 (hval 0 32 v0 rfl rfl);obtain⟨fuc,Xd⟩:=h0;have Xd:DataW.trod enc Tryz.prog afs 0 (λ_=>true) true fuc 32 csc.toList=some (d0,O):=Xd;have hlc:=Xu Tryz.underlying32 Xd;rw[show Tryz.prog.cellsOf 32=8 by kernel_rfl]at hlc;obtain⟨lc⟩:=csc;obtain⟨c_0,c_1,c_2,c_3,c_4,c_5,c_6,c_7,rfl⟩ :∃c_0 c_1 c_2 c_3 c_4 c_5 c_6 c_7,lc=[c_0,c_1,c_2,c_3,c_4,c_5,c_6,c_7]:=by match lc,hlc with | [c_0,c_1,c_2,c_3,c_4,c_5,c_6,c_7],_=>exact⟨c_0,c_1,c_2,c_3,c_4,c_5,c_6,c_7,rfl⟩
 obtain⟨mc1,zc1,Zk,bc1⟩:=qa Tryz.underlying32 Xd 0 rfl;simp only[aeD,qH,mY,oI,uB,rq,ru,ry,rz]at Zk;obtain⟨mc2,zc2,Zl,bc2⟩:=qa Tryz.underlying24 Zk 0 rfl;simp only[aeE,qH,mY,oI,uB,rq,ru,ry,rz]at Zl;obtain⟨aeJ,aeK,lc2,aeL,ec2,rc2,qc2,gc2,afe⟩:=UC (Q:=Q99) (enc:=Sf) (iS:=cL) (um:=aC.aq) (sz:=4) (rU:=5) (λa c=>⟨λ_=>rfl,λx u h=>by simp only[Sf,sC,sD,sE]at h;rcases h with rfl | rfl | rfl | rfl<;>rfl,eF⟩) Tryz.underlying22 bp (λn cs y h hl=>aeH h hl) Zl;simp only[List.cons.injEq,zI]at ec2;subst ec2;obtain⟨mc3,zc3,Zm,bc3⟩:=qa Tryz.underlying32 Xd 1 rfl;simp only[aeC,qH,mY,oI,uB,rq,ru,ry,rz]at Zm;obtain⟨aeM,lc3,aeN,ec3,rc3,qc3,gc3,aff⟩:=Jb Tryz.underlying25 Tryz.underlying2 bp Zm;simp only[List.cons.injEq,zI]at ec3;subst ec3;obtain⟨mc4,zc4,kc4,bc4⟩:=qa Tryz.underlying32 Xd 2 rfl;simp only[T3,qH,mY,oI,uB,rq,ru,ry,rz]at kc4;obtain⟨kP,ec4,ic4⟩:=uE Tryz.underlying3 kc4;simp only[List.cons.injEq,zI]at ec4;subst ec4;obtain⟨mc5,zc5,kc5,bc5⟩:=qa Tryz.underlying32 Xd 3 rfl;simp only[aeB,qH,mY,oI,uB,rq,ru,ry,rz]at kc5;obtain⟨mc6,zc6,kc6,bc6⟩:=qa Tryz.underlying27 kc5 0 rfl;simp only[T3,qH,mY,oI,uB,rq,ru,ry,rz]at kc6;obtain⟨xc6,ec6,ic6⟩:=uE Tryz.underlying3 kc6;simp only[List.cons.injEq,zI]at ec6;subst ec6;obtain⟨mc7,zc7,kc7,bc7⟩:=qa Tryz.underlying27 kc5 1 rfl;simp only[T3,qH,mY,oI,uB,rq,ru,ry,rz]at kc7;obtain⟨xc7,ec7,ic7⟩:=uE Tryz.underlying3 kc7;simp only[List.cons.injEq,zI]at ec7;subst ec7;obtain⟨mc8,zc8,kc8,bc8⟩:=qa Tryz.underlying27 kc5 2 rfl;simp only[T3,qH,mY,oI,uB,rq,ru,ry,rz]at kc8;obtain⟨xc8,ec8,ic8⟩:=uE Tryz.underlying3 kc8;simp only[List.cons.injEq,zI]at ec8;subst ec8;obtain⟨mc9,zc9,kc9,bc9⟩:=qa Tryz.underlying32 Xd 4 rfl;simp only[aeA,qH,mY,oI,uB,rq,ru,ry,rz]at kc9;obtain⟨afg,afh,Xk,afi⟩:=qa Tryz.underlying30 kc9 0 rfl;simp only[acm,qH,mY,oI,uB,rq,ru,ry,rz]at Xk;obtain⟨acp,Zd,acq,acr,aeO,afj,afk,aeU⟩:=Jb Tryz.underlying28 Tryz.underlying3 bp Xk;simp only[List.cons.injEq,zI]at acr;subst acr;obtain⟨afl,afm,Xm,afn⟩:=qa Tryz.underlying30 kc9 1 rfl;simp only[acm,qH,mY,oI,uB,rq,ru,ry,rz]at Xm;obtain⟨acs,Ze,acu,acv,aeP,afo,afp,aeV⟩:=Jb Tryz.underlying28 Tryz.underlying3 bp Xm;simp only[List.cons.injEq,zI]at acv;subst acv;have aeW :∃c:bK,c=⟨lc2,lc3,kP,xc6,xc7,xc8,Zd,Ze⟩:=⟨_,rfl⟩;have H0:=(show kZ 5000000 (⟨lc2,lc3,kP,xc6,xc7,xc8,Zd,Ze⟩:bK)=some true from N5 ⟨by show lc2.length<=_;omega,λi hi=>by obtain⟨d,q,hd⟩:=qc2 _ (ua hi);have:=q.2.2.2.1;show(J lc2 i).aq.length<=_;omega,by show lc3.length<=_;omega,by show Zd.length<=_;omega,by show Ze.length<=_;omega⟩ eF);refine(vZ (cX:=aeJ) (dM:=aeL) (fR:=rc2) (eU:=aeK) (ef:=aeM) (fy:=aeN) (nN:=rc3) (bC:=acp) (cA:=acq) (iE:=aeO) (bQ:=acs) (cF:=acu) (jx:=aeP) (uq:=hG.1) (JL:=hG.2) (H:=H0) (h:=Fit.begin afs)).mono λe W' ⟨he,hF⟩ => ?_;subst he;have uu:=hF.below;exact⟨_,rfl,_,_,_,[],_,[],hW',trodAll_mk1 (shut_bool Tryz.underlying4 _),B4 bp uu bp aeI,rfl,uu.frame _,λh=>by cases h⟩
def Zf:Array Value:=(wS.flatMap gF).toArray
def Zg:Array Value:=(Oy.flatMap xg).toArray
noncomputable def Es(os:Os):World:={World.holding Tryz.prog os ⟨#[],#[],[]⟩with heap:=(((World.holding Tryz.prog os ⟨#[],#[],[]⟩).heap.modify 1 (fun | .cells _ t frozen=>.cells Zf t frozen | o=>o)).modify 0 (fun | .cells _ t frozen=>.cells Zg t frozen | o=>o))}
theorem T4(os:Os):laidMet Tryz.prog Rows.workerJoinsUptoRow.laid ((Es os).forCall (λ_ _=>0) ⟨#[],#[.agg #[.slice none 0 0,.slice none 0 0,.int .i64 0,.int .i64 0,.int .i64 0,.int .i64 0,.slice none 0 0,.slice none 0 0]],[]⟩).memory:=
 laidMet_of_run' 40 bp bp
theorem reads(os:Os){H:Type}(enc:TypeId×Value->H) :∃places,DataW.whole enc Tryz.prog ((Es os).forCall (λ_ _=>0) ⟨#[],#[.agg #[.slice none 0 0,.slice none 0 0,.int .i64 0,.int .i64 0,.int .i64 0,.int .i64 0,.slice none 0 0,.slice none 0 0]],[]⟩).memory Tryz.f13.params.toList Rows.workerJoinsSpec.vars false (#[.agg #[.slice none 0 0,.slice none 0 0,.int .i64 0,.int .i64 0,.int .i64 0,.int .i64 0,.slice none 0 0,.slice none 0 0]]:Array Value).toList 16=some ([.agg [.agg [.nil],.nil,.lit (.int .i64 0),.agg [.lit (.int .i64 0),.lit (.int .i64 0),.lit (.int .i64 0)],.agg [.nil,.nil]]],[],places):=
 ⟨[],bp⟩
set_option maxRecDepth 100000 in
theorem lifted(os:Os)(started:os.Started)(H:Type)(enc:TypeId×Value->H)(F:Stop.Interp) :
 ReturnsInHanded {} Tryz.checked os 13 .any ((Rows.OpenSpec.upto Rows.workerJoinsSpec).preRow enc Tryz.prog Tryz.f13 Rows.workerJoinsUptoRow.domain false Rows.workerJoinsUptoRow.laid) (((Rows.OpenSpec.upto Rows.workerJoinsSpec).at F).post enc Tryz.prog Tryz.f13 false true false false):=by
 obtain⟨places,hx⟩:=reads os enc;refine returnsInHanded_of_row (C:=Tryz.checked) (s:=Rows.OpenSpec.upto Rows.workerJoinsSpec) own started bp func13
  (witness_row_at (enc:=enc) (C:=Tryz.checked) false (Es os) #[.agg #[.slice none 0 0,.slice none 0 0,.int .i64 0,.int .i64 0,.int .i64 0,.int .i64 0,.slice none 0 0,.slice none 0 0]] rfl bp bp bp
   (OpenSpec.preRow_of_cond 16 hx bp (λk hk=>by cases hk;kernel_rfl) bp (T4 os))) ?_
 intro afs base args ds gs before hval hW _ acw _ hL _ _;exact contract H enc afs base args ds gs before hval hW (acw _ rfl) hL
theorem iI{a b:Bool}(h1:a=true)(h2:b=true):(a&&b)=true:=by rw[h1,h2];rfl
set_option maxHeartbeats 4000000 in
theorem facts:joinedFacts Tryz.pinned.checked.prog 13 Tryz.f13 (Rows.OpenSpec.upto Rows.workerJoinsSpec).bare Rows.workerJoinsUptoRow=true:=by
 unfold joinedFacts;refine iI (iI (iI (iI (iI (iI (iI (iI (iI (iI (iI (iI (iI (iI (iI (iI (iI (iI (iI (iI (iI (iI (iI (iI (iI (iI (iI (iI (iI (iI (iI ?_ ?_) ?_) ?_) ?_) ?_) ?_) ?_) ?_) ?_) ?_) ?_) ?_) ?_) ?_) ?_) ?_) ?_) ?_) ?_) ?_) ?_) ?_) ?_) ?_) ?_) ?_) ?_) ?_) ?_) ?_) ?_
 all_goals as_aux_lemma=>kernel_rfl
theorem proved:Rows.WorkerJoinsUptoSaid:=
 OpenClaim.holds_of_cond 13 Tryz.f13 rfl rfl rfl rfl rfl rfl rfl ⟨rfl,rfl,rfl,rfl,rfl⟩ rfl rfl rfl rfl rfl bp func13 facts
  (of_decide_eq_true bp) (by unfold Func.isWrapper;first | (rw[aP (by decide +kernel)];kernel_rfl) | (rw[ct (by decide +kernel)];exact⟨rfl,rfl⟩))
  (λos started H enc _ F=>by rw[OpenClaim.pre_eq_preRow];exact lifted os started H enc F)
theorem plain(f:FuncId)(fn:Func)(hf:Tryz.pinned.checked.prog.funcNamed "plunder/plunderlaw11.WorkerJoins" = some f) (hfn:Tryz.pinned.checked.prog.funcs[f]? = some fn) :
 true=Tryz.pinned.checked.prog.looks []/\∀(j:Nat) t,fn.params[j]? = some t->Tryz.pinned.checked.prog.wantsStandIn t=false:=by
 obtain rfl:f=13:=Option.some.inj ((show Tryz.prog.funcNamed "plunder/plunderlaw11.WorkerJoins" = some 13 by kernel_rfl).symm.trans hf) |>.symm
 obtain rfl:fn=Tryz.f13:=(Option.some.inj (func13.symm.trans hfn)).symm;refine⟨bp,λj t ht => ?_⟩;rw[Tryz.params13]at ht;have ht:=Array.mem_of_getElem? ht;simp only[List.mem_toArray,sC,sD,sE]at ht;subst ht;exact(show Tryz.prog.wantsStandIn 32=false by kernel_rfl)
theorem card:Rows.WorkerJoinsUptoCardSaid:=
 Claim7.holds_tied_plain_at .later [] _ _ _ _ proved (λ_ h=>by cases h) bp (λ_ h=>by cases h) workerJoinsUpto_row_tie rfl ⟨rfl,rfl⟩ bp rfl plain bp
#print axioms card
end workerJoinsUptoRow
theorem workerJoinsUpto_holds:Rows.WorkerJoinsUptoCardSaid:=workerJoinsUptoRow.card
end Go.Proofs.YtpikpffbcjpmcaaGreatDoor
