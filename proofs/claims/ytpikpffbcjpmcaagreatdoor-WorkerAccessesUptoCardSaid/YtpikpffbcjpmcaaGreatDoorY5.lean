/- plunderlaw11.WorkerAccesses answers true for every input of the bulk that the statement names and leaves its input alone; the last part states it. Conditions: none. -/
import Derived.Test.YtpikpffbcjpmcaaGreatDoorY4
set_option linter.unusedVariables false
set_option linter.unusedSimpArgs false
set_option linter.unusedSectionVars false
namespace Go.Proofs.YtpikpffbcjpmcaaGreatDoor
section
namespace Mo
open Go SL GX
theorem CZ(r:Nat):ag (List.replicate 16 (0:Int)) r=0:=by
 unfold ag;rw[List.getD_eq_getElem?_getD,List.getElem?_replicate];split<;>rfl
theorem Ld.E8{x:Am.Fr}{f A:Nat}{t:ay}(h:Ld x f t)(v:Int):Ld {x with cg:=Am.fE x.cg A v} f {t with cg:=lE 16 t.cg A v}:=
 ⟨h.fn,h.ag,h.par,h.slot,h.ck,h.nr,λr hr=>by show GX.ag (lE 16 t.cg A v) r=Am.fE x.cg A v r;rw[JY hr,Am.fD,h.cg r hr]⟩
section
variable {K:Nat}{C:Am.k8}{p:aO}{s:Am.St}{S:ai}{M M':ah}{sz n i f:Nat}{D:aF}{d:Int}{T:List ay}{a:bB}{ci:bW}{t:ay}
theorem LC(b:uB C p s S M sz n)(hi:i<C.N):fF (jh S T) i (act S i)=jh S T:=by
 have:=iT b hi
 show({S with ak:=T,ae:=S.ae.set i (act S i)}:ai)=_
 have e:S.ae.set i (act S i)=S.ae:=congrArg (·.ae) this
 rw[e];rfl
variable (b:uB C p s S M sz n)(hi:i<C.N)(I:Tw p C s S i f ci t)(hp:s.pc i= .run)
include b hi I hp
theorem vE{y:Am.Fr}{t2:ay}{o:Am.Out}{r:Option (aD×ai×ah)}(hr:r=some (E0,jh S (S.ak.set f t2),M))(ho:o=⟨s.lay f y,none,none⟩)(ht:Ld y f t2):iB C p sz n M o r:=by
 subst ho
 obtain⟨w1,w2,w3⟩:=b.iS.wk i hi
 rw[hp]at w3
 refine iB.P3 (T:=S.ak.set f t2) (a:=act S i) (x:=S.value) (l:=S.left) (q:=.run) b hi (by rw[hr,LC b hi];rfl) w1 w2 (by rw[←hp,Am.nS];rfl) w3 (b.ar.keep rfl rfl rfl rfl) Lg.none_ trivial (by rw[List.length_set];exact b.iS.tl) (yE b I.hn ht) b.iS.left b.iS.val
theorem oK:Am.step C s i d=Am.instr C s i:=by unfold Am.step;rw[hp]
theorem uC{A:Int}(h:rH A (GX.ag p.aq (s.fr f).fn).cO=true):bT A 16∧A.toNat<16:=by
 have h1:=yB h;have h2:=I.Ho.r16;exact⟨⟨by omega,by omega⟩,by omega⟩
theorem IZ{t2:ay}:(S.ak.set f t).set f t2=S.ak.set f t2:=List.set_set ..
theorem V2(k:ci.aa6=0):iB C p sz n M (Am.step C s i d) (sF S M i D f ci t):=by
 have ok:=I.ok.1
 unfold n8 at ok;rw[fQ (.inl k)]at ok
 obtain⟨r1,r2⟩:=uC b hi I hp ok
 refine vE b hi I hp (t2:={t with cg:=lE 16 t.cg ci.A.toNat ci.K}) ?_ ?_ (I.t.E8 ci.K)
 ·unfold sF;simp only;rw[fQ k,fQ r1,IZ b hi I hp]
 ·rw[oK b hi I hp];unfold Am.instr;simp only[I.hh,Option.getD_some];rw[I.code];unfold sN;rw[fQ k]
theorem V3(k:ci.aa6=1):iB C p sz n M (Am.step C s i d) (sF S M i D f ci t):=by
 have ok:=I.ok.1
 unfold n8 at ok;rw[fh (by omega),fQ k,Bool.and_eq_true]at ok
 obtain⟨r1,r2⟩:=uC b hi I hp ok.1
 obtain⟨q1,q2⟩:=uC b hi I hp ok.2
 refine vE b hi I hp (t2:={t with cg:=lE 16 t.cg ci.A.toNat (GX.ag t.cg ci.B.toNat)}) ?_ ?_ (I.t.E8 _)
 ·unfold sF;simp only;rw[fh (by omega),fQ k,fQ q1,fQ r1,IZ b hi I hp]
 ·rw[oK b hi I hp];unfold Am.instr;simp only[I.hh,Option.getD_some];rw[I.code];unfold sN;rw[fh (by omega),fQ k,I.t.cg _ q2]
theorem V4(k:ci.aa6=2):iB C p sz n M (Am.step C s i d) (sF S M i D f ci t):=by
 have ok:=I.ok.1
 unfold n8 at ok;rw[fh (by omega),fh (by omega),fQ k,Bool.and_eq_true,Bool.and_eq_true,Bool.and_eq_true]at ok
 obtain⟨r1,r2⟩:=uC b hi I hp ok.1.1.1
 obtain⟨q1,q2⟩:=uC b hi I hp ok.1.1.2
 obtain⟨u1,u2⟩:=uC b hi I hp ok.1.2
 have ko:=yB ok.2
 have hap:C.ap=VB:=by rw[b.cf];rfl
 refine vE b hi I hp (t2:={t with cg:=lE 16 t.cg ci.A.toNat (VB ci.K (GX.ag t.cg ci.B.toNat) (GX.ag t.cg ci.C.toNat))}) ?_ ?_ (I.t.E8 _)
 ·unfold sF;simp only;rw[fh (by omega),fh (by omega),fQ k,fQ q1,fQ u1,Nq ko.1 ko.2,ej,fQ r1,IZ b hi I hp]
 ·rw[oK b hi I hp];unfold Am.instr;simp only[I.hh,Option.getD_some];rw[I.code];unfold sN;rw[fh (by omega),fh (by omega),fQ k,I.t.cg _ q2,I.t.cg _ u2,hap]
theorem V5(k:ci.aa6=3):iB C p sz n M (Am.step C s i d) (sF S M i D f ci t):=by
 have ok:=I.ok.1
 unfold n8 at ok;rw[fh (by omega),fh (by omega),fh (by omega),fQ k]at ok
 have h1:=yB ok
 refine vE b hi I hp (y:={s.fr f with ag:=ci.A.toNat}) (t2:={t with ag:=ci.A}) ?_ ?_ ⟨I.t.fn,by show ci.A=((ci.A.toNat:Nat):Int);omega,I.t.par,I.t.slot,I.t.ck,I.t.nr,I.t.cg⟩
 ·unfold sF;simp only;rw[fh (by omega),fh (by omega),fh (by omega),fQ k,IZ b hi I hp]
 ·rw[oK b hi I hp];unfold Am.instr;simp only[I.hh,Option.getD_some];rw[I.code];unfold sN;rw[fh (by omega),fh (by omega),fh (by omega),fQ k]
theorem V6(k:ci.aa6=4):iB C p sz n M (Am.step C s i d) (sF S M i D f ci t):=by
 have ok:=I.ok.1
 unfold n8 at ok;rw[fh (by omega),fh (by omega),fh (by omega),fh (by omega),fQ k,Bool.and_eq_true]at ok
 obtain⟨r1,r2⟩:=uC b hi I hp ok.1
 have h1:=yB ok.2
 by_cases e:(s.fr f).cg ci.A.toNat=0
 ·refine vE b hi I hp (y:={s.fr f with ag:=(s.fr f).ag+1}) (t2:=t) ?_ ?_ I.t
  ·unfold sF;simp only;rw[fh (by omega),fh (by omega),fh (by omega),fh (by omega),fQ k,fQ r1,fQ (by rw[I.t.cg _ r2];exact e)]
  ·rw[oK b hi I hp];unfold Am.instr;simp only[I.hh,Option.getD_some];rw[I.code];unfold sN;rw[fh (by omega),fh (by omega),fh (by omega),fh (by omega),fQ k];simp only;rw[fh (by simpa using e)]
 ·refine vE b hi I hp (y:={s.fr f with ag:=ci.B.toNat}) (t2:={t with ag:=ci.B}) ?_ ?_ ⟨I.t.fn,by show ci.B=((ci.B.toNat:Nat):Int);omega,I.t.par,I.t.slot,I.t.ck,I.t.nr,I.t.cg⟩
  ·unfold sF;simp only;rw[fh (by omega),fh (by omega),fh (by omega),fh (by omega),fQ k,fQ r1,fh (by rw[I.t.cg _ r2];exact e),IZ b hi I hp]
  ·rw[oK b hi I hp];unfold Am.instr;simp only[I.hh,Option.getD_some];rw[I.code];unfold sN;rw[fh (by omega),fh (by omega),fh (by omega),fh (by omega),fQ k];simp only;rw[fQ e]
theorem V7(k:ci.aa6=8):iB C p sz n M (Am.step C s i d) (sF S M i D f ci t):=by
 have ok:=I.ok.1
 unfold n8 at ok;rw[fQ (.inr (.inl k))]at ok
 obtain⟨r1,r2⟩:=uC b hi I hp ok
 refine vE b hi I hp (t2:={t with cg:=lE 16 t.cg ci.A.toNat t.nr}) ?_ ?_ (I.t.E8 _)
 ·unfold sF;simp only;rw[fh (by omega),fh (by omega),fh (by omega),fh (by omega),fh (by omega),fQ k,fQ r1,IZ b hi I hp]
 ·rw[oK b hi I hp];unfold Am.instr;simp only[I.hh,Option.getD_some];rw[I.code];unfold sN;rw[fh (by omega),fh (by omega),fh (by omega),fh (by omega),fh (by omega),fh (by omega),fh (by omega),fh (by omega),fQ k,I.t.nr]
theorem NQ:GX.ag (S.ak.set f t) f=t:=by
 have h:=b.iS.tl;have hF:=I.hF;rw[oe (by omega),fQ rfl]
theorem V8:bT (f:Int) (S.ak.set f t).length:=by rw[List.length_set];exact b.task I.hn
theorem V9(k:ci.aa6=7):iB C p sz n M (Am.step C s i d) (sF S M i D f ci t):=by
 obtain⟨w1,w2,w3⟩:=b.iS.wk i hi
 rw[hp]at w3
 have ok:=I.ok.1
 unfold n8 at ok;rw[fh (by omega),fh (by omega),fh (by omega),fh (by omega),fh (by omega),fh (by omega),fh (by omega),fQ k,Bool.and_eq_true]at ok
 obtain⟨r1,r2⟩:=uC b hi I hp ok.1
 have h1:=yB ok.2
 have s8:=I.Ho.s8
 obtain⟨B,hB⟩ :∃B:Nat,ci.B=B:=⟨ci.B.toNat,by omega⟩
 have hB8:B<8:=by omega
 have hs:=PY b.ar b.z b.cN I.hF hB8
 have h:=tI (T:=S.ak.set f t) b hi (a:={act S i with cB:=iP C 5 f B 0}) hs (Fl rfl rfl)
 have hst:Am.step C s i d=⟨s.lay f {s.fr f with ag:=(s.fr f).ag+1,cg:=Am.fE (s.fr f).cg ci.A.toNat (s.mem (.slot f B))},none,Am.nB (.slot f B) (s.mem (.slot f B))⟩:=by
  rw[oK b hi I hp];unfold Am.instr;simp only[I.hh,Option.getD_some];rw[I.code];unfold sN;rw[fh (by omega),fh (by omega),fh (by omega),fh (by omega),fh (by omega),fh (by omega),fh (by omega),fQ k,hB,Int.toNat_natCast]
 rw[hst]
 refine iB.P3 (M':=nt M M.cell 0 (Am.place C s (.slot f B)) (s.mem (.slot f B)) 0 true) (T:=S.ak.set f {t with cg:=lE 16 t.cg ci.A.toNat (s.mem (.slot f B))}) (a:={act S i with cB:={iP C 5 f B 0 with aB:=0,eB:=15,jU:=s.mem (.slot f B)}}) (x:=S.value) (l:=S.left) (q:=.run) b hi ?_ w1 w2 (by show s.pc=_;rw[←hp,Am.nS]) w3 (b.ar.same (s':=s.lay f {s.fr f with ag:=(s.fr f).ag+1,cg:=Am.fE (s.fr f).cg ci.A.toNat (s.mem (.slot f B))}) rfl rfl rfl rfl _ _ _ _ _) (Lg.nt rfl) trivial (by rw[List.length_set];exact b.iS.tl) (yE b I.hn (I.t.E8 _)) b.iS.left b.iS.val
 unfold sF qz;simp only
 rw[fh (by omega),fh (by omega),fh (by omega),fh (by omega),fh (by omega),fh (by omega),fQ k,Lx b hi,hB,IW b.ok I.hF hB8,aE,aE,h,fz,fQ rfl]
 rw[fQ (by exact V8 b hi I hp),fQ r1]
 rw[show(fF (jh S (S.ak.set f t)) i _).ak=S.ak.set f t from rfl,NQ b hi I hp,IZ b hi I hp];rfl
theorem Wa(k:ci.aa6=6):iB C p sz n M (Am.step C s i d) (sF S M i D f ci t):=by
 obtain⟨w1,w2,w3⟩:=b.iS.wk i hi
 have J:=b.fi.jn f I.hn
 have hl:s.loc f= .qH i∨s.loc f= .held i:=(b.fi.hold i f hi I.hh).elim (λa=>.inl a.2) (λa=>.inr a.2)
 have hjn:0≤s.mem (.join f)-1:=by
  have hg:(Am.view s).g i= .run:=by show Am.sig (s.pc i)=_;rw[hp];rfl
  rcases b.fi.hold i f hi I.hh with h | h
  ·rw[hg]at h;exact absurd h.1 (by simp)
  ·rw[h.2]at J;change s.mem (.join f)=1+(((s.ck f).length:Nat):Int)at J;omega
 have hs:=PX b.ar b.z b.cN I.hF (b.GL rfl)
 have hst:Am.step C s i d=(if 0<s.mem (.join f)-1 then⟨((((s.wr (.join f) (s.mem (.join f)-1)).lay f {s.fr f with ag:=(s.fr f).ag+1}).holds i none).to i .CR).put f .waiting,Am.ev 4 f 0 0,Am.xQ (.join f) (-1) (s.mem (.join f)-1)⟩
  else ⟨((((s.wr (.join f) (s.mem (.join f)-1)).lay f {s.fr f with ag:=(s.fr f).ag+1}).to i .pI).put f (.qH i)),none,Am.xQ (.join f) (-1) (s.mem (.join f)-1)⟩):=by
  rw[oK b hi I hp];unfold Am.instr;simp only[I.hh,Option.getD_some];rw[I.code];unfold sN;rw[fh (by omega),fh (by omega),fh (by omega),fh (by omega),fh (by omega),fh (by omega),fQ k]
 have hr:sF S M i D f ci t=cJ (fF (jh S (S.ak.set f t)) i {act S i with cB:=iP C 3 f 0 0,aH:=5}) M (i:Int) D:=by
  unfold sF sg;simp only
  rw[fh (by omega),fh (by omega),fh (by omega),fh (by omega),fh (by omega),fh (by omega),fh (by omega),fh (by omega),fQ k,Lx b hi,BB b.ok I.hF,aE,aE,List.set_set]
  show nC (cJ (fF (jh S (S.ak.set f t)) i {act S i with cB:=iP C 3 f 0 0,aH:=5}) M (i:Int) D) _=_
  cases cJ (fF (jh S (S.ak.set f t)) i {act S i with cB:=iP C 3 f 0 0,aH:=5}) M (i:Int) D<;>rfl
 rw[hr,hst]
 by_cases h0:0<s.mem (.join f)-1
 ·rw[fQ h0]
  rw[fh (by omega)]at hs
  refine iB.P3 (T:=S.ak.set f t) (x:=S.value) (l:=S.left) (q:=.CR) b hi (LA b hi (a:={act S i with cB:=iP C 3 f 0 0,aH:=5}) w1 hs rfl rfl rfl I.fr) w1 (by show(-1:Int)=fi (Am.fE s.hold i none i);rw[Am.bQ];rfl) rfl ⟨rfl,⟨rfl,rfl,rfl,rfl⟩,rfl,rfl⟩ (b.wc (c:=.join f) rfl (by rw[hp];rfl) I.hF _ _ _ _ _) (Lg.nt rfl) (by show(4:Nat)≠0;decide) (by rw[List.length_set];exact b.iS.tl) (yE b I.hn I.t) b.iS.left b.iS.val (hh:=λj hj=>Am.bA hj)
 ·rw[fh h0]
  rw[fQ (by omega)]at hs
  refine iB.P3 (T:=S.ak.set f t) (x:=S.value) (l:=S.left) (q:=.pI) b hi (NN b hi (a:={act S i with cB:=iP C 3 f 0 0,aH:=5}) hs rfl (by show(2:Int)>0;decide)) w1 w2 rfl ⟨rfl,rfl,rfl,?_,rfl,rfl⟩ (b.wc (c:=.join f) rfl (by rw[hp];rfl) I.hF _ _ _ _ _) (Lg.nt rfl) trivial (by rw[List.length_set];exact b.iS.tl) (yE b I.hn I.t) b.iS.left b.iS.val
  show(f:Int)=(((act S i).aj.toNat:Nat):Int);rw[I.fr];rfl
end
end Mo
end
section
namespace Mo
open Go SL GX
def SE(C:Am.k8)(i:Nat):bu:=⟨2+10*(C.F:Int),C.N,i,4,10,1,0,0,0,List.replicate 64 ⟨0,0⟩,⟨0,0,0,0,0,0,0,0,0,0,0,0,0,false,0,0⟩⟩
section
variable {K:Nat}{C:Am.k8}{p:aO}{s:Am.St}{S:ai}{M M':ah}{sz n i f:Nat}{D:aF}{d:Int}{T:List ay}{a:bB}{ci:bW}{t:ay}
theorem LD(b:uB C p s S M sz n)(hi:i<C.N):oH (⟨S.bC,S.aK⟩:dm) (i:Int)=some (SE C i):=by
 have h1:=b.ok.n1;have h2:=b.ok.n64
 unfold oH kr mu
 rw[b.iS.lb,b.iS.lw]
 simp only
 rw[fh (by omega),fh (by omega),aE,eM (x:=2+(C.N:Int)) (by omega),fQ (by omega),fQ (by omega),decide_eq_true (by omega),aE,fQ rfl];rfl
variable (b:uB C p s S M sz n)(hi:i<C.N)(I:Tw p C s S i f ci t)(hp:s.pc i= .run)
include b hi I hp
theorem G6:bT (act S i).aj (S.ak.set f t).length:=by rw[I.fr];exact V8 b hi I hp
theorem Wb(k:ci.aa6=9):iB C p sz n M (Am.step C s i d) (sF S M i D f ci t):=by
 obtain⟨w1,w2,w3⟩:=b.iS.wk i hi
 have ok:=I.ok.1
 unfold n8 at ok;rw[fQ (.inr (.inr k))]at ok
 obtain⟨r1,r2⟩:=uC b hi I hp ok
 obtain⟨v,hv⟩ :∃v,v=(s.fr f).cg ci.A.toNat:=⟨_,rfl⟩
 have hst:Am.step C s i d=(if f=0 then⟨{((((s.lay f {s.fr f with ag:=(s.fr f).ag+1}).wr .result v).holds i none).to i .done).put 0 (.fin i)with val:=some v},Am.ev 6 0 (-1) v,Am.oY .result v⟩
  else ⟨((((s.lay f {s.fr f with ag:=(s.fr f).ag+1}).wr (.slot (s.fr f).par (s.fr f).slot) v).holds i none).to i (.out (s.fr f).par f)).put f (.fin i),Am.ev 6 f (s.fr f).par v,Am.oY (.slot (s.fr f).par (s.fr f).slot) v⟩):=by
  rw[oK b hi I hp];unfold Am.instr;simp only[I.hh,Option.getD_some];rw[I.code];unfold sN;rw[fh (by omega),fh (by omega),fh (by omega),fh (by omega),fh (by omega),fh (by omega),fh (by omega),fh (by omega),fh (by omega),hv]
 have hin:=G6 b hi I hp
 have hgt:GX.ag (S.ak.set f t) (act S i).aj.toNat=t:=by rw[I.fr,Int.toNat_natCast];exact NQ b hi I hp
 have hr:sF S M i D f ci t=jF (jh S (S.ak.set f t)) M (i:Int) v:=by
  unfold sF;simp only
  rw[fh (by omega),fh (by omega),fh (by omega),fh (by omega),fh (by omega),fh (by omega),fh (by omega),fh (by omega),fh (by omega),fQ r1,I.t.cg _ r2,hv]
  cases jF (jh S (S.ak.set f t)) M (i:Int) _<;>rfl
 rw[hr]
 unfold jF dz
 rw[Int.toNat_natCast,fQ (by exact hin),ia,fQ (by exact hin),hst]
 by_cases h0:f=0
 ·rw[fQ h0,fQ (by show(act S i).aj=0;rw[I.fr,h0];rfl)]
  have aaf:=rL b.ar b.z b.cN (a:=.result) trivial v
  have Wc:di M (jh S (S.ak.set f t)).result v=some (0,nt M (M.cell.set (Am.place C s .result).toNat v) 1 (Am.place C s .result) v 0 true):=by rw[show(jh S (S.ak.set f t)).result=Am.place C s .result from b.iS.res];exact aaf
  rw[Wc,ej,fQ rfl]
  have hfi:oH (⟨(jh S (S.ak.set f t)).bC,(jh S (S.ak.set f t)).aK⟩:dm) (ag (jh S (S.ak.set f t)).ae i).bj=some (SE C i):=by
   show oH (⟨S.bC,S.aK⟩:dm) (act S i).bj=_;rw[show(act S i).bj=i from w1];exact LD b hi
  rw[hfi,aE]
  refine iB.P3 (T:=S.ak.set f t) (a:={act S i with bS:=SE C i,aj:=-1,aH:=7}) (x:=v) (l:=true) (q:=.done) b hi ?_ w1 (by show(-1:Int)=fi (Am.fE s.hold i none i);rw[Am.bQ];rfl) rfl ⟨rfl,rfl,rfl,rfl,rfl,rfl,rfl⟩ (b.wc (c:=.result) rfl (by rw[hp];rfl) trivial _ _ _ _ _) (Lg.nt rfl) (by show(6:Nat)≠0;decide) (by rw[List.length_set];exact b.iS.tl) (yE b I.hn I.t) rfl rfl (hh:=λj hj=>Am.bA hj)
  show some ((⟨0,0,6,0,-1,v⟩:aD),({S with ak:=S.ak.set f t,ae:=((S.ae.set i _).set i _).set i _,value:=v,left:=true}:ai),_)=_
  rw[List.set_set,List.set_set];rfl
 ·rw[fh h0,fh (by show ¬(act S i).aj=0;rw[I.fr];omega)]
  have hfr:=b.fr f I.hn
  have hpn:(s.fr f).par<s.nf:=b.fi.pr f I.hn
  have hpF:(s.fr f).par<C.F:=Nat.lt_of_lt_of_le hpn b.fi.tM
  have hs:=SC b.ar b.z b.cN hpF hfr.2.1 v
  have htb:=tI (T:=S.ak.set f t) b hi (a:={act S i with cB:=iP C 2 (s.fr f).par (s.fr f).slot v}) hs (NJ rfl (by show(2:Int)>0;decide))
  have hbg:pE (⟨(jh S (S.ak.set f t)).aR,(jh S (S.ak.set f t)).aJ⟩:aN) (ag (jh S (S.ak.set f t)).ak (ag (jh S (S.ak.set f t)).ae i).aj.toNat).parent (ag (jh S (S.ak.set f t)).ak (ag (jh S (S.ak.set f t)).ae i).aj.toNat).slot v=some (iP C 2 (s.fr f).par (s.fr f).slot v):=by
   have aag:ag (jh S (S.ak.set f t)).ak (ag (jh S (S.ak.set f t)).ae i).aj.toNat=t:=hgt
   rw[aag,I.t.par,I.t.slot,fh h0]
   unfold pE
   rw[show(⟨(jh S (S.ak.set f t)).aR,(jh S (S.ak.set f t)).aJ⟩:aN)=⟨1,C.F⟩from(show(⟨S.aR,S.aJ⟩:aN)=⟨1,C.F⟩from Lx b hi),IW b.ok hpF hfr.2.1,aE]
  rw[hbg,aE]
  rw[show({jh S (S.ak.set f t)with ae:=(jh S (S.ak.set f t)).ae.set i {ag (jh S (S.ak.set f t)).ae i with cB:=iP C 2 (s.fr f).par (s.fr f).slot v}}:ai)=fF (jh S (S.ak.set f t)) i {act S i with cB:=iP C 2 (s.fr f).par (s.fr f).slot v}from rfl,htb,fz,fQ rfl,fQ (NM b hi)]
  rw[show ag (fF (jh S (S.ak.set f t)) i {act S i with cB:={iP C 2 (s.fr f).par (s.fr f).slot v with aB:=2}}).ae i={act S i with cB:={iP C 2 (s.fr f).par (s.fr f).slot v with aB:=2}}from lu (b.wl hi)]
  refine iB.P3 (T:=S.ak.set f t) (a:={act S i with cB:={iP C 2 (s.fr f).par (s.fr f).slot v with aB:=2},aj:=-1,done:=(act S i).aj,aH:=6}) (x:=S.value) (l:=S.left) (q:=.out (s.fr f).par f) b hi ?_ w1 (by show(-1:Int)=fi (Am.fE s.hold i none i);rw[Am.bQ];rfl) rfl ⟨rfl,I.fr,rfl,rfl,rfl,rfl,rfl⟩ (b.wc (c:=.slot (s.fr f).par (s.fr f).slot) rfl (by rw[hp];rfl) ⟨hpF,hfr.2.1⟩ _ _ _ _ _) (Lg.nt rfl) (by show(6:Nat)≠0;decide) (by rw[List.length_set];exact b.iS.tl) (yE b I.hn I.t) b.iS.left b.iS.val (hh:=λj hj=>Am.bA hj)
  show some ((⟨0,0,6,(act S i).aj,(GX.ag (S.ak.set f t) (act S i).aj.toNat).parent,v⟩:aD),({S with ak:=S.ak.set f t,ae:=(((S.ae.set i _).set i _).set i _).set i _}:ai),_)=_
  rw[List.set_set,List.set_set,List.set_set]
  refine congrArg some (Prod.ext ?_ rfl)
  show(⟨0,0,6,(act S i).aj,(GX.ag (S.ak.set f t) (act S i).aj.toNat).parent,v⟩:aD)=_
  rw[hgt,I.t.par,I.fr,fh h0];rfl
def J2(L:List ay)(k:Nat):List ay:=L.set k {GX.ag L k with ck:=wi ((GX.ag L k).ck+1)}
def yF(ci:bW)(f:Nat)(pd:Int):ay:=⟨ci.B,0,(f:Int),ci.A,0,pd,List.replicate 16 (0:Int)⟩
theorem G7{A B Cc:Nat}{Bj:ay}(hk:Ld (Am.jT C (s.fr f) f A B Cc) s.nf Bj)(hlt:s.nf<C.F){L:List ay}(hL:L=(S.ak.set f t).set s.nf Bj) :
 ∀g,g<s.nf+1→Ld (Am.fE (Am.fE (Am.fE s.fr f {s.fr f with ag:=(s.fr f).ag+1}) f {s.fr f with ag:=(s.fr f).ag+1,ck:=(s.fr f).ck+1}) s.nf (Am.jT C (s.fr f) f A B Cc) g) g (GX.ag (L.set f {GX.ag L f with ck:=wi ((GX.ag L f).ck+1)}) g):=λg hg=>by
 subst hL
 have hl:=b.iS.tl
 have hne:f≠s.nf:=Nat.ne_of_lt I.hn
 have hF:=I.hF
 have hkb:=b.bd.k f
 have hbn:=b.n
 have e1:GX.ag ((S.ak.set f t).set s.nf Bj) f=t:=by rw[oe (by rw[List.length_set];omega),fh hne];exact NQ b hi I hp
 rw[e1,oe (by rw[List.length_set,List.length_set];omega),Am.fD]
 by_cases e:g=s.nf
 ·rw[fQ e,fh (by omega),oe (by rw[List.length_set];omega),fQ e,e];exact hk
 ·rw[fh e,Am.fD]
  by_cases e2:g=f
  ·rw[fQ e2,fQ e2,e2]
   exact⟨I.t.fn,I.t.ag,I.t.par,I.t.slot,by show wi (t.ck+1)=(((s.fr f).ck+1:Nat):Int);rw[show t.ck=((s.fr f).ck:Int)from I.t.ck,eM (by omega)];rfl,I.t.nr,I.t.cg⟩
  ·rw[fh e2,fh e2,Am.bA e2,oe (by rw[List.length_set];omega),fh e,oe (by omega),fh e2]
   exact b.iS.tk g (by omega)
theorem Wd(k:ci.aa6=5):iB C p sz n M (Am.step C s i d) (sF S M i D f ci t):=by
 obtain⟨w1,w2,w3⟩:=b.iS.wk i hi
 have ok:=I.ok.1
 have cl:=I.ok.2
 unfold n8 at ok;rw[fh (by omega),fh (by omega),fh (by omega),fh (by omega),fh (by omega),fQ k]at ok
 unfold ud at cl;rw[fQ k,Bool.and_eq_true,Bool.or_eq_true,decide_eq_true_eq,Bool.and_eq_true,decide_eq_true_eq,decide_eq_true_eq]at cl
 have hA:=yB ok
 have hB:=yB cl.1
 have s8:=I.Ho.s8
 have r16:=I.Ho.r16
 have hPs:=b.vd.Ho ci.B.toNat (by omega)
 have p0:=hPs.p0;have p8:=hPs.p8
 obtain⟨P,hP⟩ :∃P:Nat,(GX.ag p.aq ci.B.toNat).aU=P:=⟨(GX.ag p.aq ci.B.toNat).aU.toNat,by omega⟩
 have hcp:C.params ci.B.toNat=P:=by rw[b.cf];show(GX.ag p.aq ci.B.toNat).aU.toNat=P;omega
 have hpd:C.pd (s.fr f).nr (s.fr f).ck=wi (wi (wi ((s.fr f).nr*1000003)+((s.fr f).ck:Int))+1):=by rw[b.cf];rfl
 have hkb:=b.bd.k f
 have hbn:=b.n
 obtain⟨pd,We⟩ :∃pd,pd=C.pd (s.fr f).nr (s.fr f).ck:=⟨_,rfl⟩
 have aah:0≤s.mem .next∧s.mem .next≤1000000000000:=by
  have h2:=b.GL (a:=.next) rfl
  have h1:s.mem .next=s.nf∨(s.nf=C.F∧(C.F:Int)≤s.mem .next):=b.fi.nx
  omega
 have hst:Am.step C s i d=(if(C.F:Int)≤s.mem .next+1-1 then⟨{((s.wr .next (s.mem .next+1)).lay f {s.fr f with ag:=(s.fr f).ag+1})with EZ:=true}.to i .full,Am.ev 11 (-1) 0 0,Am.xQ .next 1 (s.mem .next+1)⟩
  else ⟨{((((s.wr .next (s.mem .next+1)).lay f {s.fr f with ag:=(s.fr f).ag+1}).lay f {s.fr f with ag:=(s.fr f).ag+1,ck:=(s.fr f).ck+1}).lay s.nf (Am.jT C (s.fr f) f ci.A.toNat ci.B.toNat ci.C.toNat))with nf:=s.nf+1}.put s.nf (.bM i) |>.to i (.fork s.nf),none,Am.xQ .next 1 (s.mem .next+1)⟩):=by
  rw[oK b hi I hp];unfold Am.instr;simp only[I.hh,Option.getD_some];rw[I.code];unfold sN;rw[fh (by omega),fh (by omega),fh (by omega),fh (by omega),fh (by omega),fQ k];rfl
 have hr:sF S M i D f ci t=jE (jh S (S.ak.set f t)) M (i:Int) ci:=by
  unfold sF;simp only
  rw[fh (by omega),fh (by omega),fh (by omega),fh (by omega),fh (by omega),fh (by omega),fh (by omega),fQ k]
  cases jE (jh S (S.ak.set f t)) M (i:Int) _<;>rfl
 have hs:=PZ b.ar b.z b.cN aah
 have Wf:(S.ak.set f t).length=C.F:=by rw[List.length_set];exact b.iS.tl
 have F0:0<C.F:=by have:=b.ok.f1;omega
 rw[hr]
 unfold jE
 rw[show kT (⟨(jh S (S.ak.set f t)).aR,(jh S (S.ak.set f t)).aJ⟩:aN)=some (iP C 0 0 0 0) by
  unfold kT;rw[show(⟨(jh S (S.ak.set f t)).aR,(jh S (S.ak.set f t)).aJ⟩:aN)=⟨1,C.F⟩from(show(⟨S.aR,S.aJ⟩:aN)=⟨1,C.F⟩from Lx b hi)];show eL (jc 0 (⟨1,C.F⟩:aN) ((0:Nat):Int) 0 0) _=_;rw[BB b.ok F0];rfl,aE]
 rw[show({jh S (S.ak.set f t)with ae:=(jh S (S.ak.set f t)).ae.set (i:Int).toNat {ag (jh S (S.ak.set f t)).ae (i:Int).toNat with cB:=iP C 0 0 0 0}}:ai)=fF (jh S (S.ak.set f t)) i {act S i with cB:=iP C 0 0 0 0}from rfl]
 by_cases h0:s.mem .next+1≤C.F
 ·rw[fQ h0]at hs
  have htb:=tI (T:=S.ak.set f t) b hi (a:={act S i with cB:=iP C 0 0 0 0}) hs (Fl rfl rfl)
  have Xf:s.mem .next=s.nf:=by
   have h1:s.mem .next=s.nf∨(s.nf=C.F∧(C.F:Int)≤s.mem .next):=b.fi.nx
   rcases h1 with h | h
   ·exact h
   ·omega
  have hlt:s.nf<C.F:=by omega
  have Ke:s.nf≠0:=by have:1≤s.nf:=b.fi.vy;omega
  have hne:f≠s.nf:=Nat.ne_of_lt I.hn
  have hin:=G6 b hi I hp
  have NA:bT (s.mem .next) (S.ak.set f t).length:=by rw[Xf,Wf];exact⟨by omega,by omega⟩
  have aai:bT ci.B S.code.length:=by rw[b.iS.code];exact⟨by omega,by omega⟩
  have LB:(GX.ag S.code ci.B.toNat).aU=P:=by rw[b.iS.code];exact hP
  have hgt:GX.ag (S.ak.set f t) (act S i).aj.toNat=t:=by rw[I.fr,Int.toNat_natCast];exact NQ b hi I hp
  have Ql:wi (wi (wi ((GX.ag (S.ak.set f t) (act S i).aj.toNat).nr*1000003)+(GX.ag (S.ak.set f t) (act S i).aj.toNat).ck)+1)=pd:=by
   rw[hgt,We,hpd,show t.nr=(s.fr f).nr from I.t.nr,show t.ck=((s.fr f).ck:Int)from I.t.ck]
  have hkt:∀R:List Int,(∀r,r<16→GX.ag R r=if r<P then(s.fr f).cg (ci.C.toNat+r)else 0)→Ld (Am.jT C (s.fr f) f ci.A.toNat ci.B.toNat ci.C.toNat) s.nf {yF ci f pd with cg:=R}:=λR hR =>
   ⟨by show ci.B=((ci.B.toNat:Nat):Int);omega,rfl,by rw[fh Ke];rfl,by show ci.A=((ci.A.toNat:Nat):Int);omega,rfl,by show pd=C.pd (s.fr f).nr (s.fr f).ck;exact We,λr hr=>by show GX.ag R r=if r<C.params ci.B.toNat then(s.fr f).cg (ci.C.toNat+r)else 0;rw[hcp];exact hR r hr⟩
  unfold dz
  rw[htb,fz,fh (by show ¬(4:Int)=3;decide),fQ (by rfl),fQ (NM b hi),sq b hi,Int.toNat_natCast]
  rw[fQ (by exact hin),ia,fQ (by exact hin),fQ (by exact NA),ia,fQ (by exact NA)]
  unfold vp
  rw[aE,fQ (by exact aai)]
  have Rb:((s.mem .next).toNat:Nat)=s.nf:=by rw[Xf];rfl
  by_cases hP0:P=0
  ·rw[fh (by show ¬(GX.ag S.code ci.B.toNat).aU>0;rw[LB];omega),aE,fQ (by rw[List.length_set];exact hin),hst,fh (by omega)]
   refine iB.P3 (T:=((S.ak.set f t).set s.nf (yF ci f pd)).set f {GX.ag ((S.ak.set f t).set s.nf (yF ci f pd)) f with ck:=wi ((GX.ag ((S.ak.set f t).set s.nf (yF ci f pd)) f).ck+1)}) (a:={act S i with cB:={iP C 0 0 0 0 with aB:=0,eB:=4,jU:=s.mem .next},bM:=s.mem .next,aH:=2}) (x:=S.value) (l:=S.left) (q:=.fork s.nf) b hi ?_ w1 w2 rfl ⟨rfl,Xf⟩ (b.wc (c:=.next) rfl (by rw[hp];rfl) trivial _ _ _ _ _) (Lg.nt rfl) trivial (by rw[List.length_set,List.length_set];exact Wf) (G7 b hi I hp (hkt _ (λr hr=>by rw[fh (by omega)];exact CZ r)) hlt rfl) b.iS.left b.iS.val
   refine congrArg some (Prod.ext rfl (Prod.ext ?_ rfl))
   have hX:J2 ((S.ak.set f t).set (s.mem .next).toNat (⟨ci.B,0,(act S i).aj,ci.A,0,wi (wi (wi ((GX.ag (S.ak.set f t) (act S i).aj.toNat).nr*1000003)+(GX.ag (S.ak.set f t) (act S i).aj.toNat).ck)+1),List.replicate 16 (0:Int)⟩:ay)) (act S i).aj.toNat=((S.ak.set f t).set s.nf (yF ci f pd)).set f {GX.ag ((S.ak.set f t).set s.nf (yF ci f pd)) f with ck:=wi ((GX.ag ((S.ak.set f t).set s.nf (yF ci f pd)) f).ck+1)}:=by
    rw[Ql,Rb,I.fr,Int.toNat_natCast];rfl
   show({S with ak:=J2 ((S.ak.set f t).set (s.mem .next).toNat (⟨ci.B,0,(act S i).aj,ci.A,0,wi (wi (wi ((GX.ag (S.ak.set f t) (act S i).aj.toNat).nr*1000003)+(GX.ag (S.ak.set f t) (act S i).aj.toNat).ck)+1),List.replicate 16 (0:Int)⟩:ay)) (act S i).aj.toNat,ae:=((S.ae.set i _).set i _).set i _}:ai)=_
   rw[hX,List.set_set,List.set_set];rfl
  ·have hC:=cl.2.resolve_left (by rw[hP];omega)
   rw[hP]at hC
   have hw:wi (ci.C+(P:Int))=ci.C+P:=eM (by omega)
   have hw':wi (ci.C+(GX.ag S.code ci.B.toNat).aU)=ci.C+P:=by rw[LB];exact hw
   rw[fQ (by show(GX.ag S.code ci.B.toNat).aU>0;rw[LB];omega),fQ (by show 0≤ci.C∧ci.C≤wi (ci.C+(GX.ag S.code ci.B.toNat).aU)∧wi (ci.C+(GX.ag S.code ci.B.toNat).aU)≤16∧ci.C<16;rw[hw'];omega),aE,fQ (by rw[List.length_set,List.length_set];exact hin),hst,fh (by omega)]
   refine iB.P3 (T:=((S.ak.set f t).set s.nf {yF ci f pd with cg:=xx 16 (uN t.cg ci.C.toNat ((ci.C+(P:Int)).toNat-ci.C.toNat)) (List.replicate 16 (0:Int))}).set f {GX.ag ((S.ak.set f t).set s.nf {yF ci f pd with cg:=xx 16 (uN t.cg ci.C.toNat ((ci.C+(P:Int)).toNat-ci.C.toNat)) (List.replicate 16 (0:Int))}) f with ck:=wi ((GX.ag ((S.ak.set f t).set s.nf {yF ci f pd with cg:=xx 16 (uN t.cg ci.C.toNat ((ci.C+(P:Int)).toNat-ci.C.toNat)) (List.replicate 16 (0:Int))}) f).ck+1)}) (a:={act S i with cB:={iP C 0 0 0 0 with aB:=0,eB:=4,jU:=s.mem .next},bM:=s.mem .next,aH:=2}) (x:=S.value) (l:=S.left) (q:=.fork s.nf) b hi ?_ w1 w2 rfl ⟨rfl,Xf⟩ (b.wc (c:=.next) rfl (by rw[hp];rfl) trivial _ _ _ _ _) (Lg.nt rfl) trivial (by rw[List.length_set,List.length_set];exact Wf) (G7 b hi I hp (hkt _ (λr hr=>by
    have hm:(ci.C+(P:Int)).toNat-ci.C.toNat=P:=by omega
    rw[hm,QV hr,y9]
    by_cases e:r<P
    ·rw[fQ e,fQ e,SA e,I.t.cg _ (by omega)]
    ·rw[fh e,fh e,CZ])) hlt rfl) b.iS.left b.iS.val
   refine congrArg some (Prod.ext rfl (Prod.ext ?_ rfl))
   have e1:GX.ag ((S.ak.set f t).set s.nf (yF ci f pd)) f=t:=by rw[oe (by rw[Wf];omega),fh hne];exact NQ b hi I hp
   have hX:J2 (((S.ak.set f t).set (s.mem .next).toNat (⟨ci.B,0,(act S i).aj,ci.A,0,wi (wi (wi ((GX.ag (S.ak.set f t) (act S i).aj.toNat).nr*1000003)+(GX.ag (S.ak.set f t) (act S i).aj.toNat).ck)+1),List.replicate 16 (0:Int)⟩:ay)).set (s.mem .next).toNat (⟨ci.B,0,(act S i).aj,ci.A,0,wi (wi (wi ((GX.ag (S.ak.set f t) (act S i).aj.toNat).nr*1000003)+(GX.ag (S.ak.set f t) (act S i).aj.toNat).ck)+1),xx 16 (uN (GX.ag ((S.ak.set f t).set (s.mem .next).toNat (⟨ci.B,0,(act S i).aj,ci.A,0,wi (wi (wi ((GX.ag (S.ak.set f t) (act S i).aj.toNat).nr*1000003)+(GX.ag (S.ak.set f t) (act S i).aj.toNat).ck)+1),List.replicate 16 (0:Int)⟩:ay)) (act S i).aj.toNat).cg ci.C.toNat ((wi (ci.C+(GX.ag S.code ci.B.toNat).aU)).toNat-ci.C.toNat)) (List.replicate 16 (0:Int))⟩:ay)) (act S i).aj.toNat=((S.ak.set f t).set s.nf {yF ci f pd with cg:=xx 16 (uN t.cg ci.C.toNat ((ci.C+(P:Int)).toNat-ci.C.toNat)) (List.replicate 16 (0:Int))}).set f {GX.ag ((S.ak.set f t).set s.nf {yF ci f pd with cg:=xx 16 (uN t.cg ci.C.toNat ((ci.C+(P:Int)).toNat-ci.C.toNat)) (List.replicate 16 (0:Int))}) f with ck:=wi ((GX.ag ((S.ak.set f t).set s.nf {yF ci f pd with cg:=xx 16 (uN t.cg ci.C.toNat ((ci.C+(P:Int)).toNat-ci.C.toNat)) (List.replicate 16 (0:Int))}) f).ck+1)}:=by
    rw[Ql,Rb,hw',I.fr,Int.toNat_natCast,List.set_set,show(⟨ci.B,0,(f:Int),ci.A,0,pd,List.replicate 16 (0:Int)⟩:ay)=yF ci f pd from rfl,e1];rfl
   show({S with ak:=J2 (((S.ak.set f t).set (s.mem .next).toNat (⟨ci.B,0,(act S i).aj,ci.A,0,wi (wi (wi ((GX.ag (S.ak.set f t) (act S i).aj.toNat).nr*1000003)+(GX.ag (S.ak.set f t) (act S i).aj.toNat).ck)+1),List.replicate 16 (0:Int)⟩:ay)).set (s.mem .next).toNat (⟨ci.B,0,(act S i).aj,ci.A,0,wi (wi (wi ((GX.ag (S.ak.set f t) (act S i).aj.toNat).nr*1000003)+(GX.ag (S.ak.set f t) (act S i).aj.toNat).ck)+1),xx 16 (uN (GX.ag ((S.ak.set f t).set (s.mem .next).toNat (⟨ci.B,0,(act S i).aj,ci.A,0,wi (wi (wi ((GX.ag (S.ak.set f t) (act S i).aj.toNat).nr*1000003)+(GX.ag (S.ak.set f t) (act S i).aj.toNat).ck)+1),List.replicate 16 (0:Int)⟩:ay)) (act S i).aj.toNat).cg ci.C.toNat ((wi (ci.C+(GX.ag S.code ci.B.toNat).aU)).toNat-ci.C.toNat)) (List.replicate 16 (0:Int))⟩:ay)) (act S i).aj.toNat,ae:=((S.ae.set i _).set i _).set i _}:ai)=_
   rw[hX,List.set_set,List.set_set];rfl
 ·rw[fh h0]at hs
  have htb:=tI (T:=S.ak.set f t) b hi (a:={act S i with cB:=iP C 0 0 0 0}) hs (Fl rfl rfl)
  rw[htb,fz,fQ (by rfl),fQ (NM b hi),sq b hi,Int.toNat_natCast,hst,fQ (by omega)]
  refine iB.P3 (T:=S.ak.set f t) (a:={act S i with cB:={iP C 0 0 0 0 with aB:=0,eB:=3,jU:=0},aH:=14}) (x:=S.value) (l:=S.left) (q:=.full) b hi ?_ w1 w2 rfl rfl (b.wc (c:=.next) rfl (by rw[hp];rfl) trivial _ _ _ _ _) (Lg.nt rfl) (by show(11:Nat)≠0;decide) Wf (yE b I.hn I.t) b.iS.left b.iS.val
  show some (_,({S with ak:=S.ak.set f t,ae:=(S.ae.set i _).set i _}:ai),_)=_
  rw[List.set_set];rfl
end
end Mo
end
section
namespace Mo
open Go SL GX
def wrap(i:Nat)(D:aF)(r:aD)(S:ai)(M:ah):Option (aD×Int×ai×ah×aF):=if r.aa6=0 then some (r,0,S,M,D)else some ({r with qO:=(i:Int)},0,S,M,D)
def NR(C:Am.k8)(p:aO)(sz n i:Nat)(M:ah)(D':aF)(o:Am.Out)(r:Option (aD×Int×ai×ah×aF)):Prop:=
 ∃S' M',r=some (VE i o.ev,0,S',M',D')∧Pz C p o.s S'∧AR C o.s M' sz (n+1)∧Lg C o.s M M' o.acc
section
variable {K:Nat}{C:Am.k8}{p:aO}{s:Am.St}{S:ai}{M:ah}{sz n i:Nat}{D:aF}{d:Int}
theorem J3{e:Option Am.Ev}(h:Nt e){S':ai}{M':ah}:wrap i D (xR e) S' M'=some (VE i e,0,S',M',D):=by
 unfold wrap
 cases e with
 | none=>rw[fQ (show(xR none).aa6=0 from rfl)];rfl
 | some e=>rw[fh (by show ¬((e.kind:Nat):Int)=0;have:e.kind≠0:=h;omega)];rfl
theorem iB.w{o:Am.Out}{r:Option (aD×ai×ah)}{r':Option (aD×Int×ai×ah×aF)}(h:iB C p sz n M o r)(hr:r'=nC r (wrap i D)):NR C p sz n i M D o r':=by
 obtain⟨S',M',rfl,h1,h2,h3,h4⟩:=h
 exact⟨S',M',by rw[hr,cW,J3 h4],h1,h2,h3⟩
theorem G3.w{D':aF}{o:Am.Out}{r:Option (aD×ai×ah×aF)}{r':Option (aD×Int×ai×ah×aF)}(h:G3 C p sz n M D' o r)(hr:r'=C2 r (λe a c d=>wrap i d e a c)):NR C p sz n i M D' o r':=by
 obtain⟨S',M',rfl,h1,h2,h3,h4⟩:=h
 exact⟨S',M',by rw[hr,fz,J3 h4],h1,h2,h3⟩
variable (b:uB C p s S M sz n)(hi:i<C.N)
include b hi
theorem J4{k:Nat}(h:(act S i).aH=k)(hk:k<15):bT (GX.ag S.ae i).aH LJ.length∧GX.ag LJ (GX.ag S.ae i).aH.toNat=GX.ag LJ k:=by
 have h':(GX.ag S.ae i).aH=k:=h
 refine⟨by rw[h'];exact⟨by omega,by show(k:Int)<15;omega⟩,by rw[h',Int.toNat_natCast]⟩
theorem QX{k:Nat}(h:(act S i).aH=k)(hk:k=13∨k=14):aY K S M (i:Int) D=some (⟨0,0,0,0,0,0⟩,0,S,M,D):=by
 obtain⟨h1,h2⟩:=J4 b hi h (by omega)
 unfold aY
 rw[eP,fh (by omega),fh (by rw[b.iS.wl];omega),eP,fQ (b.wh hi),Int.toNat_natCast,fQ h1,h2,fQ (by rcases hk with rfl | rfl<;>rfl)]
theorem P5(h:(act S i).aH=0):aY K S M (i:Int) D=nC (iy S M (i:Int) D) (wrap i D):=by
 obtain⟨h1,h2⟩:=J4 b hi (k:=0) h (by decide)
 have h':(GX.ag S.ae i).aH=0:=h
 unfold aY gM
 rw[eP,fh (by omega),fh (by rw[b.iS.wl];omega),eP,fQ (b.wh hi),Int.toNat_natCast,fQ h1,h2,fh (by decide),ia,fQ h'];rfl
theorem Wg(h:(act S i).aH=1):aY K S M (i:Int) D=nC (jd S M (i:Int) D) (wrap i D):=by
 obtain⟨h1,h2⟩:=J4 b hi (k:=1) h (by decide)
 have h':(GX.ag S.ae i).aH=1:=h
 unfold aY gM
 rw[eP,fh (by omega),fh (by rw[b.iS.wl];omega),eP,fQ (b.wh hi),Int.toNat_natCast,fQ h1,h2,fh (by decide),ia,fh (by rw[h'];decide),fQ h'];rfl
theorem SF(h:(act S i).aH=2):aY K S M (i:Int) D=nC (iQ S M (i:Int) D) (wrap i D):=by
 obtain⟨h1,h2⟩:=J4 b hi (k:=2) h (by decide)
 have h':(GX.ag S.ae i).aH=2:=h
 unfold aY gM
 rw[eP,fh (by omega),fh (by rw[b.iS.wl];omega),eP,fQ (b.wh hi),Int.toNat_natCast,fQ h1,h2,fh (by decide),ia,fh (by rw[h'];decide),fh (by rw[h'];decide),fQ h'];rfl
theorem tJ(h:(act S i).aH=3):aY K S M (i:Int) D=nC (bX S M (i:Int) D) (wrap i D):=by
 obtain⟨h1,h2⟩:=J4 b hi (k:=3) h (by decide)
 have h':(GX.ag S.ae i).aH=3:=h
 unfold aY gM
 rw[eP,fh (by omega),fh (by rw[b.iS.wl];omega),eP,fQ (b.wh hi),Int.toNat_natCast,fQ h1,h2,fh (by decide),ia,fh (by rw[h'];decide),fh (by rw[h'];decide),fh (by rw[h'];decide),fQ h'];rfl
theorem I0(h:(act S i).aH=4):aY K S M (i:Int) D=nC (dJ S M (i:Int) D) (wrap i D):=by
 obtain⟨h1,h2⟩:=J4 b hi (k:=4) h (by decide)
 have h':(GX.ag S.ae i).aH=4:=h
 unfold aY gM
 rw[eP,fh (by omega),fh (by rw[b.iS.wl];omega),eP,fQ (b.wh hi),Int.toNat_natCast,fQ h1,h2,fh (by decide),ia,fh (by rw[h'];decide),fh (by rw[h'];decide),fh (by rw[h'];decide),fh (by rw[h'];decide),fQ h'];rfl
theorem SG(h:(act S i).aH=5):aY K S M (i:Int) D=nC (cJ S M (i:Int) D) (wrap i D):=by
 obtain⟨h1,h2⟩:=J4 b hi (k:=5) h (by decide)
 have h':(GX.ag S.ae i).aH=5:=h
 unfold aY gM
 rw[eP,fh (by omega),fh (by rw[b.iS.wl];omega),eP,fQ (b.wh hi),Int.toNat_natCast,fQ h1,h2,fh (by decide),ia,fh (by rw[h'];decide),fh (by rw[h'];decide),fh (by rw[h'];decide),fh (by rw[h'];decide),fh (by rw[h'];decide),fQ h'];rfl
theorem G8(h:(act S i).aH=6):aY K S M (i:Int) D=nC (dO S M (i:Int) D) (wrap i D):=by
 obtain⟨h1,h2⟩:=J4 b hi (k:=6) h (by decide)
 have h':(GX.ag S.ae i).aH=6:=h
 unfold aY gM
 rw[eP,fh (by omega),fh (by rw[b.iS.wl];omega),eP,fQ (b.wh hi),Int.toNat_natCast,fQ h1,h2,fh (by decide),ia,fh (by rw[h'];decide),fh (by rw[h'];decide),fh (by rw[h'];decide),fh (by rw[h'];decide),fh (by rw[h'];decide),fh (by rw[h'];decide),fQ h'];rfl
theorem I1(h:(act S i).aH=7):aY K S M (i:Int) D=nC (eH S M (i:Int) D) (wrap i D):=by
 obtain⟨h1,h2⟩:=J4 b hi (k:=7) h (by decide)
 have h':(GX.ag S.ae i).aH=7:=h
 unfold aY gM
 rw[eP,fh (by omega),fh (by rw[b.iS.wl];omega),eP,fQ (b.wh hi),Int.toNat_natCast,fQ h1,h2,fh (by decide),ia,fh (by rw[h'];decide),fh (by rw[h'];decide),fh (by rw[h'];decide),fh (by rw[h'];decide),fh (by rw[h'];decide),fh (by rw[h'];decide),fh (by rw[h'];decide),fQ h'];rfl
theorem zN(h:(act S i).aH=8):aY K S M (i:Int) D=nC (cw S M (i:Int) D) (wrap i D):=by
 obtain⟨h1,h2⟩:=J4 b hi (k:=8) h (by decide)
 have h':(GX.ag S.ae i).aH=8:=h
 unfold aY gM
 rw[eP,fh (by omega),fh (by rw[b.iS.wl];omega),eP,fQ (b.wh hi),Int.toNat_natCast,fQ h1,h2,fh (by decide),ia,fh (by rw[h'];decide),fh (by rw[h'];decide),fh (by rw[h'];decide),fh (by rw[h'];decide),fh (by rw[h'];decide),fh (by rw[h'];decide),fh (by rw[h'];decide),fh (by rw[h'];decide),fQ h'];rfl
theorem NS(h:(act S i).aH=9):aY K S M (i:Int) D=C2 (fc K S M (i:Int) D) (λe a c d=>wrap i d e a c):=by
 obtain⟨h1,h2⟩:=J4 b hi (k:=9) h (by decide)
 have h':(GX.ag S.ae i).aH=9:=h
 unfold aY gM
 rw[eP,fh (by omega),fh (by rw[b.iS.wl];omega),eP,fQ (b.wh hi),Int.toNat_natCast,fQ h1,h2,fh (by decide),ia,fh (by rw[h'];decide),fh (by rw[h'];decide),fh (by rw[h'];decide),fh (by rw[h'];decide),fh (by rw[h'];decide),fh (by rw[h'];decide),fh (by rw[h'];decide),fh (by rw[h'];decide),fh (by rw[h'];decide),fQ h'];rfl
theorem zO(h:(act S i).aH=10):aY K S M (i:Int) D=nC (cn S M (i:Int) D) (wrap i D):=by
 obtain⟨h1,h2⟩:=J4 b hi (k:=10) h (by decide)
 have h':(GX.ag S.ae i).aH=10:=h
 unfold aY gM
 rw[eP,fh (by omega),fh (by rw[b.iS.wl];omega),eP,fQ (b.wh hi),Int.toNat_natCast,fQ h1,h2,fh (by decide),ia,fh (by rw[h'];decide),fh (by rw[h'];decide),fh (by rw[h'];decide),fh (by rw[h'];decide),fh (by rw[h'];decide),fh (by rw[h'];decide),fh (by rw[h'];decide),fh (by rw[h'];decide),fh (by rw[h'];decide),fh (by rw[h'];decide),fQ h'];rfl
theorem SH(h:(act S i).aH=11):aY K S M (i:Int) D=nC (eI K S M (i:Int) D) (wrap i D):=by
 obtain⟨h1,h2⟩:=J4 b hi (k:=11) h (by decide)
 have h':(GX.ag S.ae i).aH=11:=h
 unfold aY gM
 rw[eP,fh (by omega),fh (by rw[b.iS.wl];omega),eP,fQ (b.wh hi),Int.toNat_natCast,fQ h1,h2,fh (by decide),ia,fh (by rw[h'];decide),fh (by rw[h'];decide),fh (by rw[h'];decide),fh (by rw[h'];decide),fh (by rw[h'];decide),fh (by rw[h'];decide),fh (by rw[h'];decide),fh (by rw[h'];decide),fh (by rw[h'];decide),fh (by rw[h'];decide),fh (by rw[h'];decide),fQ h'];rfl
theorem xg(h:(act S i).aH=12):aY K S M (i:Int) D=nC (bL S M (i:Int) D) (wrap i D):=by
 obtain⟨h1,h2⟩:=J4 b hi (k:=12) h (by decide)
 have h':(GX.ag S.ae i).aH=12:=h
 unfold aY gM
 rw[eP,fh (by omega),fh (by rw[b.iS.wl];omega),eP,fQ (b.wh hi),Int.toNat_natCast,fQ h1,h2,fh (by decide),ia,fh (by rw[h'];decide),fh (by rw[h'];decide),fh (by rw[h'];decide),fh (by rw[h'];decide),fh (by rw[h'];decide),fh (by rw[h'];decide),fh (by rw[h'];decide),fh (by rw[h'];decide),fh (by rw[h'];decide),fh (by rw[h'];decide),fh (by rw[h'];decide),fh (by rw[h'];decide),fQ h'];rfl
def drawn(q:Am.Pc)(D:aF):aF:=match q with
 | .oa=>Dg D
 | _=>D
theorem I2(hK:100<K):NR C p sz n i M (drawn (s.pc i) D) (Am.step C s i (AY D)) (aY K S M (i:Int) D):=by
 obtain⟨w1,w2,w3⟩:=b.iS.wk i hi
 cases hp:s.pc i with
 | halted =>
  rw[hp]at w3
  rw[QX b hi (k:=13) w3 (.inl rfl)]
  unfold Am.step;rw[hp]
  exact⟨S,M,rfl,b.iS,b.ar.keep rfl rfl rfl rfl,Lg.none_⟩
 | full =>
  rw[hp]at w3
  rw[QX b hi (k:=14) w3 (.inr rfl)]
  unfold Am.step;rw[hp]
  exact⟨S,M,rfl,b.iS,b.ar.keep rfl rfl rfl rfl,Lg.none_⟩
 | run =>
  rw[hp]at w3
  obtain⟨f,ci,t,I,hr⟩:=P4 (M:=M) (D:=D) b hi hp
  have hd:=Wg (K:=K) (D:=D) b hi w3
  rw[hr]at hd
  have hk:ci.aa6=0∨ci.aa6=1∨ci.aa6=2∨ci.aa6=3∨ci.aa6=4∨ci.aa6=5∨ci.aa6=6∨ci.aa6=7∨ci.aa6=8∨ci.aa6=9:=by have:=I.kd;omega
  rcases hk with k | k | k | k | k | k | k | k | k | k
  ·exact(V2 b hi I hp k).w hd
  ·exact(V3 b hi I hp k).w hd
  ·exact(V4 b hi I hp k).w hd
  ·exact(V5 b hi I hp k).w hd
  ·exact(V6 b hi I hp k).w hd
  ·exact(Wd b hi I hp k).w hd
  ·exact(Wa b hi I hp k).w hd
  ·exact(V9 b hi I hp k).w hd
  ·exact(V7 b hi I hp k).w hd
  ·exact(Wb b hi I hp k).w hd
 | oa =>
  rw[hp]at w3
  exact(Lw b hi hp).w (NS b hi w3.1)
 | AD =>
  rw[hp]at w3
  exact(PT b hi hK hp).w (SH b hi w3.1)
 | flag =>
  rw[hp]at w3
  rcases w3 with h | h
  ·exact(NI b hi hK hp h).w (NS b hi h.1)
  ·exact(PU b hi hp h).w (xg b hi h.1.1)
 | sleep =>
  rw[hp]at w3
  exact(NF b hi hp).w (xg b hi w3.1.1)
 | so =>
  rw[hp]at w3
  exact(G2 b hi hp).w (xg b hi w3.1.1)
 | AU j =>
  rw[hp]at w3
  obtain⟨_,k,h,_⟩:=w3
  exact(NG b hi hp).w (xg b hi h.1)
 | zB j t =>
  rw[hp]at w3
  obtain⟨_,k,h,_⟩:=w3
  exact(NH b hi hp).w (xg b hi h.1)
 | parked =>
  rw[hp]at w3
  obtain⟨_,k,h⟩:=w3
  exact(Lv b hi hp).w (xg b hi h.1)
 | back w =>
  rw[hp]at w3
  obtain⟨_,k,h,_⟩:=w3
  exact(PV b hi hp).w (xg b hi h.1)
 | s6 w =>
  rw[hp]at w3
  obtain⟨_,k,h,_⟩:=w3
  exact(IV b hi hp).w (xg b hi h.1)
 | start x =>
  rw[hp]at w3
  exact(NL b hi hp).w (P5 b hi w3.1)
 | fork c =>
  rw[hp]at w3
  exact(P0 b hi hp).w (SF b hi w3.1)
 | pI =>
  rw[hp]at w3
  exact(IY b hi hp).w (SG b hi w3.1)
 | out pp c =>
  rw[hp]at w3
  exact(SD b hi hp).w (G8 b hi w3.1)
 | take pp c =>
  rw[hp]at w3
  exact(P2 b hi hp).w (G8 b hi w3.1)
 | done =>
  rw[hp]at w3
  exact(PO b hi hp).w (I1 b hi w3.1)
 | tell j =>
  rw[hp]at w3
  exact(PR b hi hp).w (I1 b hi w3.1)
 | ug j =>
  rw[hp]at w3
  exact(IQ b hi hp).w (I1 b hi w3.1)
 | zA c =>
  rw[hp]at w3
  exact(Nw b hi hp).w (tJ b hi w3.1)
 | vR c bb =>
  rw[hp]at w3
  exact(Nx b hi hp).w (tJ b hi w3.1)
 | pJ c bb t =>
  rw[hp]at w3
  exact(ID b hi hp).w (tJ b hi w3.1)
 | pK c bb t =>
  rw[hp]at w3
  exact(IE b hi hp).w (tJ b hi w3.1)
 | grow c bb t cc =>
  rw[hp]at w3
  exact(PG b hi hp).w (tJ b hi w3.1)
 | nh c bb t cc =>
  rw[hp]at w3
  exact(IG b hi hp).w (tJ b hi w3.1)
 | kG c bb t cc m =>
  rw[hp]at w3
  exact(GS b hi hp).w (tJ b hi w3.1)
 | kO c bb t cc m x =>
  rw[hp]at w3
  exact(Fh b hi hp).w (tJ b hi w3.1)
 | ni c bb t cc =>
  rw[hp]at w3
  exact(II b hi hp).w (tJ b hi w3.1)
 | kH c bb cc =>
  rw[hp]at w3
  exact(GU b hi hp).w (tJ b hi w3.1)
 | oC c bb =>
  rw[hp]at w3
  exact(IK b hi hp).w (tJ b hi w3.1)
 | DA =>
  rw[hp]at w3
  exact(PN b hi hp).w (I0 b hi w3.1)
 | qG j =>
  rw[hp]at w3
  exact(IM b hi hp).w (I0 b hi w3.1)
 | s5 j =>
  rw[hp]at w3
  exact(IP b hi hp).w (I0 b hi w3.1)
 | CR =>
  rw[hp]at w3
  exact(PK b hi hp).w (zN b hi w3.1)
 | tH bb =>
  rw[hp]at w3
  exact(Li b hi hp).w (zN b hi w3.1)
 | og bb =>
  rw[hp]at w3
  exact(GV b hi hp).w (zN b hi w3.1)
 | AB bb =>
  rw[hp]at w3
  exact(PL b hi hp).w (zN b hi w3.1)
 | nQ t =>
  rw[hp]at w3
  exact(GW b hi hp).w (zN b hi w3.1)
 | sA bb t =>
  rw[hp]at w3
  exact(Lj b hi hp).w (zN b hi w3.1)
 | oR bb t cc =>
  rw[hp]at w3
  exact(IL b hi hp).w (zN b hi w3.1)
 | rC bb t x =>
  rw[hp]at w3
  exact(Ll b hi hp).w (zN b hi w3.1)
 | pR t x w =>
  rw[hp]at w3
  exact(Lm b hi hp).w (zN b hi w3.1)
 | sB v t =>
  rw[hp]at w3
  exact(Lo b hi hp).w (zO b hi w3.1)
 | oh v t =>
  rw[hp]at w3
  exact(GY b hi hp).w (zO b hi w3.1)
 | nR v t g =>
  rw[hp]at w3
  exact(GZ b hi hp).w (zO b hi w3.1)
 | me v t g cc =>
  rw[hp]at w3
  exact(Fi b hi hp).w (zO b hi w3.1)
 | nj v t x =>
  rw[hp]at w3
  exact(G0 b hi hp).w (zO b hi w3.1)
theorem NT{S':ai}{M':ah}(h1:Pz C p (Am.step C s i d).s S')(h2:AR C (Am.step C s i d).s M' sz (n+1))(hn:n+1≤1000000000):uB C p (Am.step C s i d).s S' M' sz (n+1):=
 ⟨b.ok,h1,h2,b.z.step b.ok b.dt hi d,b.bd.step d,b.dt.step hi d,Am.FI.step b.fi b.dt hi d,b.fr.step b.ok b.fi b.dt hi d,hn,b.vd,b.cf,b.room⟩
end
end Mo
end
section
namespace Mo
open Go SL GX
section
variable {K:Nat}
def cq(f m:Nat):Nat→Nat
 | 0=>f
 | g+1=>min (2*cq f m g) m
def tq(f m:Nat):Nat→Nat
 | 0=>0
 | g+1=>tq f m g+1+cq f m (g+1)
theorem QY{f m:Nat}(h:f≤m):∀g,cq f m g≤m
 | 0=>h
 | g+1=>by simp only[cq];omega
theorem I3{f m:Nat}(h1:1≤f)(h:f≤m):∀g,1≤cq f m g
 | 0=>h1
 | g+1=>by have:=I3 h1 h g;simp only[cq];omega
theorem NU{f m:Nat}(h1:1≤f)(hf:f≤m):∀(d g:Nat),m-cq f m g≤d→∃G,g≤G∧cq f m G=m∧(∀x,g≤x→x<G→cq f m x<m)∧tq f m g≤tq f m G∧(cq f m g=m→G=g)∧(2≤cq f m g→2*(tq f m G-tq f m g)+5*cq f m g≤7*m)∧2*(tq f m G-tq f m g)≤7*m
 | d,g,hd=>by
  have hl:=QY hf g
  have hp:=I3 h1 hf g
  by_cases e:cq f m g<m
  ·have hn:cq f m (g+1)=min (2*cq f m g) m:=rfl
   have hT:tq f m (g+1)=tq f m g+1+cq f m (g+1):=rfl
   obtain⟨d,rfl⟩ :∃n,d=n+1:=⟨d-1,by omega⟩
   obtain⟨G,a1,a2,a3,a4,a5,a6,a7⟩:=NU h1 hf d (g+1) (by omega)
   refine⟨G,by omega,a2,λx hx hG => ?_,by omega,λh=>by omega,λh => ?_,?_⟩
   ·by_cases ex:x=g
    ·rw[ex];exact e
    ·exact a3 x (by omega) hG
   ·by_cases e2:cq f m (g+1)=m
    ·have:=a5 e2;subst this;omega
    ·have:=a6 (by omega);omega
   ·by_cases e2:cq f m (g+1)=m
    ·have:=a5 e2;subst this;omega
    ·have:=a6 (by omega);omega
  ·have e':cq f m g=m:=by omega
   exact⟨g,Nat.le_refl _,e',λx h1 h2=>by omega,Nat.le_refl _,λ_=>rfl,λh=>by omega,by omega⟩
theorem J5{f m G:Nat}(hf:f≤m)(hm:m≤4096)(hG:cq f m G=m)(hT:tq f m G≤100000):∀(d g k:Nat) (z:Int),g+d=G→d<k→(∀x,g≤x→x<G→cq f m x<m)→0≤z→z+((tq f m G-tq f m g:Nat):Int)≤1000000→tq f m g≤tq f m G→
 fZ K (m:Int) k z (cq f m g:Nat)=some (z+((tq f m G-tq f m g:Nat):Int))
 | d,g,k,z,hd,hk,hx,hz,hz2,ht=>by
  obtain⟨k,rfl⟩ :∃n,k=n+1:=⟨k-1,by omega⟩
  have hl:=QY hf g
  rw[fZ]
  by_cases e:g=G
  ·subst e;rw[hG,fh (by omega),Nat.sub_self];simp
  ·obtain⟨d,rfl⟩ :∃n,d=n+1:=⟨d-1,by omega⟩
   have h1:=hx g (Nat.le_refl _) (by omega)
   have hn:cq f m (g+1)=min (2*cq f m g) m:=rfl
   have hT':tq f m (g+1)=tq f m g+1+cq f m (g+1):=rfl
   have Wh:∀y,g+1+y≤G→tq f m (g+1)≤tq f m (g+1+y):=λy=>by
    induction y with
    | zero=>intro _;exact Nat.le_refl _
    | succ y ih=>intro h;have:=ih (by omega);show _≤tq f m (g+1+y)+1+cq f m (g+1+y+1);omega
   have hle:tq f m (g+1)≤tq f m G:=by have:=Wh (G-(g+1)) (by omega);rwa [show g+1+(G-(g+1))=G by omega]at this
   have hc:(if(m:Int)<wi ((2:Int)*((cq f m g:Nat):Int))then(m:Int)else wi ((2:Int)*((cq f m g:Nat):Int)))=((cq f m (g+1):Nat):Int):=by
    rw[eM (by omega)];split<;>omega
   rw[fQ (by omega),hc,eM (x:=z+1) (by omega),eM (x:=z+1+_) (by omega),
    J5 hf hm hG hT d (g+1) k _ (by omega) (by omega) (λx h1 h2=>hx x (by omega) h2) (by omega) (by omega) hle]
   congr 1;omega
theorem J6{N F:Nat}{jV:cY}{f m:Nat}(hl:Sd jV.bO jV.dk jV.iU)(hF:jV.bO=F)(hf:jV.dk=f)(hm:jV.iU=m)(Xc:1≤N)(hN:N≤64)(hK:5000<K) :
 ∃G,cq f m G=m∧(∀x,x<G→cq f m x<m)∧tq f m G≤15000∧j1 K (N:Int) jV=some ((4+10*F+N+N*(4+f+tq f m G):Nat):Int)∧4+10*F+N+N*(4+f+tq f m G)≤1048576:=by
 have f1:=hl.f1
 have f2:=hl.f2
 have a1:=hl.a1
 have a2:=hl.a2
 have m2:=hl.m2
 obtain⟨G,g1,g2,g3,g4,g5,g6,g7⟩:=NU (f:=f) (m:=m) (by omega) (by omega) (m-cq f m 0) 0 (Nat.le_refl _)
 have h0:tq f m 0=0:=rfl
 have h0':cq f m 0=f:=rfl
 rw[h0']at g5 g6
 rw[h0]at g6 g7
 have hb:2*(4+f+tq f m G)≤28690:=by
  by_cases e:2≤f
  ·have:=g6 e;omega
  ·omega
 refine⟨G,g2,λx hx=>g3 x (Nat.zero_le _) hx,by omega,?_,?_⟩
 ·unfold j1 hU lj
  have hGK:G<K:=by
   have Wh:∀x,x≤G→x≤tq f m x:=λx=>by
    induction x with
    | zero=>intro _;exact Nat.le_refl _
    | succ y ih=>intro h;have:=ih (by omega);show _≤tq f m y+1+cq f m (y+1);omega
   have h9:∀x,x≤G→x≤cq f m x:=λx=>by
    induction x with
    | zero=>intro _;exact Nat.zero_le _
    | succ y ih =>
     intro h;have:=ih (by omega);have:=g3 y (Nat.zero_le _) (by omega);have:=I3 (f:=f) (m:=m) (by omega) (by omega) y;show _≤min (2*cq f m y) m;omega
   have:=h9 G (Nat.le_refl _);omega
  have e:=J5 (K:=K) (f:=f) (m:=m) (G:=G) (by omega) (by omega) g2 (by omega) G 0 K (4+(f:Int)) (by omega) hGK (λx h1 h2=>g3 x h1 h2) (by omega) (by omega) (by rw[h0];omega)
  rw[h0,h0',Nat.sub_zero]at e
  rw[fh (by omega),fh (by omega),fh (by omega),fh (by omega),fh (by omega),fh (by omega),aE,fh (by simp;omega),eP,hf,hm,eM (x:=4+(f:Int)) (by omega),e,aE,hF,
   eM (x:=(F:Int)*10) (by omega),eM (x:=(2:Int)+(F:Int)*10) (by omega),eM (x:=(2:Int)+(F:Int)*10+2) (by omega),eM (x:=(2:Int)+(F:Int)*10+2+(N:Int)) (by omega)]
  have hmul:(N:Int)*(4+(f:Int)+((tq f m G:Nat):Int))=((N*(4+f+tq f m G):Nat):Int):=by simp
  have UA:N*(4+f+tq f m G)≤64*14345:=Nat.mul_le_mul hN (by omega)
  rw[hmul,eM (x:=((N*(4+f+tq f m G):Nat):Int)) (by omega),eM (by omega)]
  congr 1;omega
 ·have UA:N*(4+f+tq f m G)≤64*14345:=Nat.mul_le_mul hN (by omega)
  omega
end
end Mo
end
section
namespace Mo
open Go SL GX
def init(C:Am.k8)(args:List Int):Am.St:=
 { mem:=λa=>match a with
    | .next=>1
    | .join _=>1
    | .buf i=>(Am.sD C i:Int)+3
    | .cap _ g=>if g=0 then(C.first:Int)else 0
    | _=>0
   pc:=λi=>if i=0 then .start (-1)else .oa
   hold:=λi=>if i=0 then some 0 else none
   tries:=λ_=>0
   fr:=λf=>{fn:=0,ag:=0,par:=0,slot:=0,ck:=0,nr:=if f=0 then 1 else 0,cg:=λr=>if f=0 then GX.ag args r else 0}
   nf:=1
   cur:=λ_=>0
   base:=λj _=>(Am.sD C j:Int)+3
   size:=Am.S0 C
   val:=none
   EZ:=false
   loc:=λf=>if f=0 then .held 0 else .free
   q:=λ_=>[]
   pop:=λ_=>none
   ck:=λ_=>[]}
section
variable {C:Am.k8}{args:List Int}
theorem P6(j:Nat):Am.jC ((init C args).pc j)=false:=by show Am.jC (if j=0 then _ else _)=false;split<;>rfl
theorem u5(j:Nat):Am.gen (init C args) j=0:=by unfold Am.gen;rw[P6];rfl
theorem P7(hC:C.OK):Am.SZ C (init C args) where
 cap:=λj hj g hg=>by
  have M7:g=0:=Nat.le_zero.1 hg
  subst M7;rfl
 Nn:=λj hj=>rfl
 size:=by
  show(Am.S0 C:Int)=_
  rw[Am.yA (g:=λ_=>0) (λj _=>by rw[u5];rfl)]
  have:∀n,Am.AG (λ_=>0) n=0:=λn=>by induction n with
   | zero=>rfl
   | succ n ih=>show Am.AG (λ_=>0) n+0=0;rw[ih]
  rw[this];simp
 bs:=λj hj g h1 h2=>by rw[u5]at h2;omega
 dj:=λj j' g g' _ _ h1 _ h2 _ _=>by rw[u5]at h2;omega
 gm:=λj hj g hg=>by rw[u5]at hg;omega
theorem P8:Am.BD (init C args) 0 where
 m:=λa ha=>by cases a<;>first | exact Bool.noConfusion ha | exact⟨by show -_≤(1:Int);omega,by show(1:Int)≤_;omega⟩ | exact⟨by show -_≤(0:Int);omega,by show(0:Int)≤_;omega⟩
 r:=λi x hx=>by
  have:Am.fM ((init C args).pc i)=[]:=by show Am.fM (if i=0 then _ else _)=[];split<;>rfl
  rw[this]at hx;cases hx
 k:=λf=>Nat.le_refl _
theorem P9(hC:C.OK):Am.DT C (init C args):=by
 refine⟨λj hj => ?_,λi hi => ?_⟩
 ·refine⟨Int.le_refl _,λg hg => ?_,?_,rfl,λm hm=>absurd hm (Nat.not_lt_zero _),?_⟩
  ·have M7:g=0:=Nat.le_zero.1 hg
   subst M7;have:=hC.c1;show(1:Int)≤(C.first:Int);omega
  ·have:=hC.cm;show(C.first:Int)≤C.most;omega
  ·refine(Am.n3.idle ?_).2 ⟨rfl,?_⟩
   ·show Am.Idle (if j=0 then _ else _);split<;>trivial
   ·show(0:Int)≤(C.first:Int);omega
 ·unfold Am.Th
  by_cases e:i=0
  ·rw[show(init C args).pc i= .start (-1)from fQ e];trivial
  ·rw[show(init C args).pc i= .oa from fh e];show C.N≠1;omega
theorem Qa(hC:C.OK):(Am.view (init C args)).FI C.N C.F:=by
 have hg:∀i,(Am.view (init C args)).g i=if i=0 then .start else .none:=λi=>by show Am.sig (if i=0 then _ else _)=_;split<;>rfl
 have hh:∀i,(Am.view (init C args)).hold i=if i=0 then some 0 else none:=λ_=>rfl
 have hl:∀f,(Am.view (init C args)).loc f=if f=0 then .held 0 else .free:=λ_=>rfl
 have hq:∀i,(Am.view (init C args)).q i=[]:=λ_=>rfl
 have hk:∀i,(Am.view (init C args)).ck i=[]:=λ_=>rfl
 have hpo:∀i,(Am.view (init C args)).pop i=none:=λ_=>rfl
 have hj:∀f,(Am.view (init C args)).join f=1:=λ_=>rfl
 have hm:∀f,(Am.view (init C args)).mark f=0:=λ_=>rfl
 have hp:∀f,(Am.view (init C args)).par f=0:=λ_=>rfl
 have hn:(Am.view (init C args)).nf=1:=rfl
 have hx:(Am.view (init C args)).next=1:=rfl
 have f1:=hC.f1
 constructor
 ·omega
 ·omega
 ·left;rw[hx,hn];rfl
 ·intro f hf;rw[hl,fh (by omega)]
 ·intro f hf;rw[hl,fQ (by omega)];simp
 ·intro f hf;rw[hk,hj];exact⟨rfl,rfl⟩
 ·intro i f hi h;rw[hh]at h;split at h
  ·next e=>cases h;right;rw[hg,fQ e,hl,fQ rfl,e];exact⟨by simp,rfl⟩
  ·cases h
 ·intro i hi h;rw[hg]at h;split at h
  ·next e=>rw[hh,fQ e];simp
  ·cases h
 ·intro i hi h;rw[hg]at h;split at h
  ·cases h
  ·next e=>rw[hh,fh e]
 ·intro i c hi h;rw[hg]at h;split at h<;>cases h
 ·intro i c hi h;rw[hg]at h;split at h<;>cases h
 ·intro j x hj h;rw[hq]at h;cases h
 ·intro j hj;rw[hq];exact List.nodup_nil
 ·intro i x hi h;rw[hpo]at h;cases h
 ·intro i pp c hi h;rw[hg]at h;split at h<;>cases h
 ·intro i pp c hi h;rw[hg]at h;split at h<;>cases h
 ·intro i pp c hi h;rw[hg]at h;split at h<;>cases h
 ·intro pp;rw[hk];exact List.nodup_nil
 ·intro pp c h;rw[hk]at h;cases h
 ·intro c h0 hc;omega
 ·intro c hc;rw[hp];omega
 ·intro f hf;rw[hl,fQ (by omega),hj,hk];rfl
 ·intro f _;exact hm f
 ·intro i f _ _ _;exact hm f
theorem Qb(hC:C.OK):Am.FR C (init C args):=λf hf=>⟨hC.fn0,by show(0:Nat)<8;decide,λ_=>hC.Sm 0 hC.fn0⟩
theorem Qc{N F:Nat}{c:List Int}(hC:C.OK)(hN:C.N=N)(hF:C.F=F){W:Nat}(hW:W=4+C.first)(L:CQ N F W (C.first:Int) c):Am.CL C (init C args) c:=by
 subst hN;subst hF;subst hW
 have aaj:∀i,Am.sD C i=4+10*C.F+C.N+i*(4+C.first):=λ_=>rfl
 refine⟨by show(c.length:Int)=(Am.S0 C:Int);rw[L.len];rfl,λa ha => ?_⟩
 have key:∀k:Nat,Am.place C (init C args) a=(k:Int)→c.getD (Am.place C (init C args) a).toNat 0=GX.ag c k:=λk hk=>by rw[hk];rfl
 have dq:=λi hi r hr=>L.dq i hi r hr
 cases a with
 | result=>exact(key 0 rfl).trans L.c0
 | next=>exact(key 1 rfl).trans L.c1
 | join f=>exact(key (2+10*f+0) (by show(2:Int)+10*f=_;omega)).trans (L.fr f ha 0 (by omega))
 | mark f=>exact(key (2+10*f+1) (by show(3:Int)+10*f=_;omega)).trans (L.fr f ha 1 (by omega))
 | slot f k=>have h8:=ha.2;exact(key (2+10*f+(2+k)) (by show(4:Int)+10*f+k=_;omega)).trans ((L.fr f ha.1 (2+k) (by omega)).trans (fh (by omega)))
 | qa=>exact(key (2+10*C.F+0) (by show(2:Int)+10*C.F=_;omega)).trans (L.Vw 0 (by omega))
 | AA=>exact(key (2+10*C.F+1) (by show(3:Int)+10*C.F=_;omega)).trans (L.Vw 1 (by omega))
 | flag i=>have hi:i<C.N:=ha;exact(key (2+10*C.F+(2+i)) (by show(4:Int)+10*C.F+i=_;omega)).trans (L.Vw (2+i) (by omega))
 | top i=>exact(key (4+10*C.F+C.N+i*(4+C.first)+0) rfl).trans (dq i ha 0 (by omega))
 | bot i=>exact(key (4+10*C.F+C.N+i*(4+C.first)+1) rfl).trans (dq i ha 1 (by omega))
 | buf i=>exact(key (4+10*C.F+C.N+i*(4+C.first)+2) rfl).trans (dq i ha 2 (by omega))
 | cap i g =>
  have hg:g=0:=by have:=ha.2;rw[u5]at this;omega
  subst hg
  exact(key (4+10*C.F+C.N+i*(4+C.first)+3) rfl).trans (dq i ha.1 3 (by omega))
 | el i g m =>
  have hg:g=0:=by have:=ha.2.1;rw[u5]at this;omega
  subst hg
  have hm:m<C.first:=ha.2.2
  exact(key (4+10*C.F+C.N+i*(4+C.first)+(4+m)) (by show(Am.sD C i:Int)+3+1+m=_;rw[aaj];omega)).trans ((dq i ha.1 (4+m) (by omega)).trans (by rw[fh (by omega),fh (by omega)];rfl))
end
theorem I4(C:Am.k8):∀g,Am.qY C g=cq C.first C.most g
 | 0=>rfl
 | g+1=>by show min (2*Am.qY C g) C.most=min (2*cq C.first C.most g) C.most;rw[I4 C g]
theorem NV(C:Am.k8):∀g,Am.tot C g=tq C.first C.most g
 | 0=>rfl
 | g+1=>by show Am.tot C g+1+Am.qY C (g+1)=tq C.first C.most g+1+cq C.first C.most (g+1);rw[NV C g,I4 C (g+1)]
theorem NW{p:aO}{args:List Int}{N F f m sz G:Nat}{c:List Int}{l:List be}{w:Bool}(hv:Valid p)(ha:(args.length:Int)=(GX.ag p.aq 0).aU)(N0:1≤N)(hn:N≤64)(ZT:1≤F)(hf:F≤4096)(h1:1≤f)(ZU:f≤m)(hm:m≤4096)
 (hG:cq f m G=m) (hsz:sz=4+10*F+N+N*(4+f+tq f m G)) (Xv:sz≤1048576) (L:CQ N F (4+f) (f:Int) c) (hl:l=[]) {x:Int}:uB (cfg p N F f m) p (init (cfg p N F f m) args) (Vy p args N F (4+f) m) (ar sz c l x w) sz 0:=by
 have hC:=Sq (p:=p) (N:=N) (F:=F) (f:=f) (m:=m) hv N0 hn ZT hf h1 ZU hm
 have hz:=P7 (args:=args) hC
 have hroom:(sz:Int)=Am.S0 (cfg p N F f m)+(cfg p N F f m).N*Am.tot (cfg p N F f m) G:=by
  rw[NV];show(sz:Int)=((4+10*F+N+N*(4+f):Nat):Int)+(N:Int)*(tq f m G:Int)
  rw[hsz,show 4+f+tq f m G=(4+f)+tq f m G from rfl,Nat.mul_add];simp;omega
 have hcap:Am.qY (cfg p N F f m) G=(cfg p N F f m).most:=by rw[I4];exact hG
 have hp8:=(hv.Ho 0 hv.n1).p8
 subst hl
 refine⟨hC,?_,⟨rfl,Xv,GR hz hroom hcap,rfl,Qc hC rfl rfl rfl L,Nat.le_refl _⟩,hz,P8,P9 hC,Qa hC,Qb hC,by omega,hv,rfl,G,hroom,hcap⟩
 refine⟨rfl,rfl,rfl,rfl,rfl,rfl,?_,λv Xe => ?_,?_,λg hg => ?_,?_,λi hi => ?_,rfl,rfl⟩
 ·exact JO N 0
 ·have h:=Nf (B:=4+10*F+N) (W:=4+f) (most:=(m:Int)) N 0 v Xe
  rw[Nat.zero_add]at h;exact h
 ·show((List.replicate F Ni).set 0 _).length=F;rw[List.length_set,List.length_replicate]
 ·have M7:g=0:=by have:g<1:=hg;omega
  subst M7
  show Ld _ 0 (GX.ag ((List.replicate F Ni).set 0 _) 0)
  rw[oe (by rw[List.length_replicate];omega),fQ rfl]
  refine⟨rfl,rfl,rfl,rfl,rfl,rfl,λr hr => ?_⟩
  show GX.ag (xx 16 args (List.replicate 16 0)) r=GX.ag args r
  rw[QV hr];split
  ·rfl
  ·next e=>rw[CZ];unfold GX.ag;rw[List.getD_eq_getElem?_getD,List.getElem?_eq_none (by omega)];rfl
 ·show((uz 0 N).set 0 _).length=N;rw[List.length_set,vw]
 ·show VD _ _ i (GX.ag ((uz 0 N).set 0 _) i)
  have hiN:i<N:=hi
  rw[oe (by rw[vw];omega)]
  by_cases e:i=0
  ·subst e;rw[fQ rfl];exact⟨rfl,rfl,rfl,rfl⟩
  ·rw[fh e,Az N 0 i hiN,Nat.zero_add]
   refine⟨rfl,by show(-1:Int)=fi (if i=0 then some 0 else none);rw[fh e];rfl,?_⟩
   rw[show(init (cfg p N F f m) args).pc i= .oa from fh e];exact⟨rfl,rfl,by show(0:Nat)<3;decide⟩
end Mo
end
section
namespace Mo
open Go SL GX
set_option maxRecDepth 100000
section
variable {K:Nat}
theorem Qd{x n:Int}(h1:1≤n)(h2:n≤1000) :∃i:Nat,mb x n=some (i:Int)∧(i:Int)<n:=by
 have e1:=Int.emod_nonneg x (b:=n) (by omega)
 have e2:=Int.emod_lt_of_pos x (show 0<n by omega)
 have e4:x.tmod n=if 0≤x∨n∣x then x%n else x%n-n:=by
  rw[Int.tmod_eq_emod];split
  ·omega
  ·rw[show((n.natAbs:Nat):Int)=n by omega]
 refine⟨(x%n).toNat,?_,by omega⟩
 rw[show(((x%n).toNat:Nat):Int)=x%n by omega]
 unfold mb
 rw[fQ (by omega),e4]
 by_cases h:0≤x∨n∣x
 ·rw[fQ h,fh (by omega)]
 ·rw[fh h,fQ (by omega),eM (by omega)];congr 1;omega
theorem NX(n:Int)(jV:cY)(hK:5000<K) :∃r:Int,j1 K n jV=some r∧0≤r∧r≤1048576:=by
 by_cases h:1≤n∧n≤64∧Sd jV.bO jV.dk jV.iU
 ·obtain⟨h1,h2,hl⟩:=h
  have f1:=hl.f1;have a1:=hl.a1;have a2:=hl.a2
  obtain⟨G,_,_,_,q4,q5⟩:=J6 (K:=K) (N:=n.toNat) (F:=jV.bO.toNat) (jV:=jV) (f:=jV.dk.toNat) (m:=jV.iU.toNat) hl (by omega) (by omega) (by omega) (by omega) (by omega) hK
  rw[show((n.toNat:Nat):Int)=n by omega]at q4
  exact⟨_,q4,by omega,by omega⟩
 ·refine⟨0,?_,by decide,by decide⟩
  unfold j1 hU
  by_cases c1:n<1
  ·rw[fQ c1,sP]
  ·rw[fh c1]
   by_cases c2:n>64
   ·rw[fQ c2,sP]
   ·rw[fh c2]
    by_cases d1:jV.bO<1
    ·rw[fQ d1,aE,fQ rfl,sP]
    ·rw[fh d1]
     by_cases d2:jV.bO>4096
     ·rw[fQ d2,aE,fQ rfl,sP]
     ·rw[fh d2]
      by_cases d3:jV.dk<1
      ·rw[fQ d3,aE,fQ rfl,sP]
      ·rw[fh d3]
       by_cases d4:jV.dk>jV.iU
       ·rw[fQ d4,aE,fQ rfl,sP]
       ·rw[fh d4,aE,fQ (decide_eq_true (by
         by_cases d5:jV.iU>4096
         ·exact d5
         ·exact absurd ⟨by omega,by omega,by omega,by omega,by omega,by omega,by omega⟩ h)),sP]
section
variable {C:Am.k8}{p:aO}{s:Am.St}{S:ai}{M:ah}{sz n i:Nat}{D:aF}
theorem C0(h:Pz C p s S){j:Nat}(hj:j<C.N):jD S M (j:Int)=some (fi (s.hold j)):=by
 unfold jD
 rw[fh (by omega),fh (by rw[h.wl];omega),fQ ⟨by omega,by rw[h.wl];omega⟩,Int.toNat_natCast,(h.wk j hj).aj]
end
end
end Mo
end
section
namespace Mo
open Go SL GX
set_option maxRecDepth 100000
section
variable {K:Nat}
theorem abd{C:Am.k8}{s:Am.St}{i:Nat}:(Am.instr C s i).acc=none→(Am.instr C s i).ev=none:=by
 unfold Am.instr
 dsimp only
 split<;>(repeat' split)<;>(intro h;first | rfl | cases h)
theorem ZK{C:Am.k8}{s:Am.St}{i j:Nat}{a:Option Am.Acc}:(Am.nk s C i j a).acc=a:=by
 unfold Am.nk;split<;>rfl
theorem aa7{C:Am.k8}{s:Am.St}{i j:Nat}{a:Option Am.Acc}:(Am.looking s C i j a).acc=a:=by
 unfold Am.looking;split<;>rfl
theorem abp{C:Am.k8}{s:Am.St}{i:Nat}{h:Bool}{a:Option Am.Acc}:(Am.zC s C i h a).acc=a:=by
 unfold Am.zC;split<;>rfl
theorem aa8{C:Am.k8}{s:Am.St}{i:Nat}{d:Int}(h:s.pc i≠.halted)(h2:s.pc i≠.full)(h3:s.pc i≠.run):(Am.step C s i d).acc≠none:=by
 unfold Am.step
 dsimp only
 cases hp:s.pc i with
 | halted=>exact absurd hp h
 | full=>exact absurd hp h2
 | run=>exact absurd hp h3
 | _ =>
  dsimp only
  repeat' split
  all_goals first
   | (intro h;cases h;done)
   | (rw[ZK];intro h;cases h;done)
   | (rw[aa7];intro h;cases h;done)
   | (rw[abp];intro h;cases h;done)
theorem abw{C:Am.k8}{s:Am.St}{i:Nat}{d:Int}(h:(Am.step C s i d).acc=none):(Am.step C s i d).ev=none:=by
 by_cases h1:s.pc i= .halted
 ·unfold Am.step;rw[h1]
 ·by_cases h2:s.pc i= .full
  ·unfold Am.step;rw[h2]
  ·by_cases h3:s.pc i= .run
   ·have e:Am.step C s i d=Am.instr C s i:=by unfold Am.step;rw[h3]
    rw[e]at h⊢
    exact abd h
   ·exact absurd h (aa8 h1 h2 h3)
theorem abH{C:Am.k8}{i cj tr:Nat}{p:Am.Pc}{bs:Nat→Nat→Int}{a:bB}(h:ph C i p tr cj bs a)(h13:a.aH=13):p= .halted:=by
 cases p<;>first | rfl | (exfalso;dsimp only [ph,RO]at h;first | omega | (have:=h.1;omega))
section
variable {C:Am.k8}{p:aO}{s:Am.St}{S:ai}{M:ah}{sz n i:Nat}{D:aF}
theorem abe(h:Pz C p s S)(hi:i<C.N):D3 S M (i:Int)=some ((act S i).aH==13):=by
 unfold D3
 rw[fQ (by omega),fQ (by rw[h.wl];omega),fQ ⟨by omega,by rw[h.wl];omega⟩,Int.toNat_natCast]
theorem abA(h:M.log.length≤2000000000):Fy M=some M.log:=by
 unfold Fy
 rw[fQ ⟨by omega,by omega⟩,fQ (by rw[List.length_replicate])]
theorem abq{c:fo}(hK:2000000<K)(hp:c.jQ.length≤1048576):∀(e k g l:Nat) (s:Am.St) (S:ai) (M:ah) (D:aF),uB C p s S M sz g→M.watched=true→M.log.length=l→c.cX=C.N→g+e=c.jQ.length→e<k→
 (g=0→∀i,i<C.N→s.pc i≠.halted∧s.pc i≠.full∧s.pc i≠.run)→(0<g→0<l)→
 ∃S' M' l' s',iM K c k M S D (l:Int) (g:Int)=some (.inl (S',M',((l':Nat):Int)))∧Pz C p s' S'∧(0<c.jQ.length→0<l')
 | e,k,g,l,s,S,M,D,b,hw,hl,hN,he,hk,hs,M7=>by
  obtain⟨k,rfl⟩ :∃m,k=m+1:=⟨k-1,by omega⟩
  have n64:=b.ok.n64
  have n1:=b.ok.n1
  rw[iM]
  by_cases hg:g<c.jQ.length
  ·rw[fQ (by omega)]
   by_cases h4:g<400
   ·obtain⟨e,rfl⟩ :∃m,e=m+1:=⟨e-1,by omega⟩
    obtain⟨i,hm,hin⟩:=Qd (x:=GX.ag c.jQ g) (n:=c.cX) (by rw[hN];omega) (by rw[hN];omega)
    have hi:i<C.N:=by rw[hN]at hin;omega
    obtain⟨S',M',e1,e2,e3,e4⟩:=I2 (K:=K) (D:=D) b hi (by omega)
    have b':=NT b hi e2 e3 (by omega)
    obtain⟨f1,f2,f3⟩:=e4
    rw[fQ hw]at f3
    have hlen:M'.log.length=l+(Am.step C s i (AY D)).acc.toList.length:=by rw[f3,List.length_append,List.length_map,hl]
    have VF:=b'.ar.lg
    have hn:=b'.n
    have ih:=abq hK hp e k (g+1) M'.log.length _ _ _ (drawn (s.pc i) D) b' (by rw[f2,hw]) rfl hN (by omega) (by omega) (by omega)
    rw[fQ (by omega),fQ ⟨by omega,by omega⟩,Int.toNat_natCast,hm,aE,abe b.iS hi,aE,e1,L1,abA (by omega),aE,fQ rfl]
    rw[Ds (by omega)]
    have hne:0<g+1→0<M'.log.length:=by
     intro _
     by_cases g0:g=0
     ·obtain⟨a1,a2,a3⟩:=hs g0 i hi
      have:=aa8 (C:=C) (d:=AY D) a1 a2 a3
      cases hh:(Am.step C s i (AY D)).acc with
      | none=>exact absurd hh this
      | some x=>rw[hlen,hh];show 0<l+1;omega
     ·have:=M7 (by omega);rw[hlen];omega
    cases hh:(Am.step C s i (AY D)).acc with
    | none =>
     have Tz:=abw hh
     rw[hh]at hlen
     have hlen:M'.log.length=l:=hlen
     have k0:wi (((M'.log.length:Nat):Int)-(l:Int))=0:=by rw[hlen,Int.sub_self];rfl
     rw[Tz,k0,fh (by decide),fh (by decide)]
     split
     ·rw[fQ rfl,fQ (show(VE i none).aa6=0 from rfl)];exact ih hne
     ·rw[fQ (show(VE i none).aa6=0 from rfl)];exact ih hne
    | some x =>
     rw[hh]at hlen
     have hlen:M'.log.length=l+1:=hlen
     have k1:wi (((M'.log.length:Nat):Int)-(l:Int))=1:=by rw[hlen,show(((l+1:Nat):Int)-(l:Int))=1 by omega];rfl
     rw[k1,fh (by decide),fh (by decide)]
     split
     ·rename_i h13
      exfalso
      have h13:(act S i).aH=13:=by simpa using h13
      have VA:s.pc i= .halted:=abH (b.iS.wk i hi).3 h13
      have:(Am.step C s i (AY D)).acc=none:=by unfold Am.step;rw[VA]
      rw[this]at hh;cases hh
     ·split
      ·exact ih hne
      ·rw[fQ rfl];exact ih hne
   ·rw[fh (by omega)]
    exact⟨S,M,l,s,rfl,b.iS,λ_=>M7 (by omega)⟩
  ·rw[fh (by omega)]
   exact⟨S,M,l,s,rfl,b.iS,λh=>M7 (by omega)⟩
end
theorem abf{C:Am.k8}{p:aO}{s:Am.St}{S:ai}{M:ah}{sz n:Nat}(b:uB C p s S M sz n)(w:Bool):uB C p s S {M with watched:=w} sz n:=
 { b with ar:=⟨b.ar.size,b.ar.s1,b.ar.fit,b.ar.mark,b.ar.cl,b.ar.lg⟩}
theorem abr{c:fo}(h:c.nD.length≤1048576)(hp:c.jQ.length≤1048576)(hK:4000000<K):sZ K c=some true:=by
 unfold sZ
 obtain⟨e,r1,r2,r3,r4⟩:=K8 (K:=K) ⟨c.mG⟩ c.Dh c.cX ⟨c.gw,c.gB,c.jf⟩ (by omega)
 by_cases he:e=0
 ·subst he
  obtain⟨hv,ha,N0,SR,hl⟩:=r4 rfl
  obtain⟨N,hN⟩ :∃N:Nat,c.cX=N:=⟨c.cX.toNat,by omega⟩
  have f1:=hl.f1
  have f2:=hl.f2
  have a1:=hl.a1
  have a2:=hl.a2
  have m2:=hl.m2
  simp only at f1 f2 a1 a2 m2
  obtain⟨F,hF⟩ :∃F:Nat,c.gw=F:=⟨c.gw.toNat,by omega⟩
  obtain⟨f,hf⟩ :∃f:Nat,c.gB=f:=⟨c.gB.toNat,by omega⟩
  obtain⟨m,hm⟩ :∃m:Nat,c.jf=m:=⟨c.jf.toNat,by omega⟩
  rw[hN]at r1 r2 N0 SR
  obtain⟨G,q1,q2,q3,q4,q5⟩:=J6 (K:=K) (N:=N) (F:=F) (jV:=⟨c.gw,c.gB,c.jf⟩) (f:=f) (m:=m) hl hF hf hm (by omega) (by omega) (by omega)
  obtain⟨sz,hsz⟩ :∃sz:Nat,sz=4+10*F+N+N*(4+f+tq f m G):=⟨_,rfl⟩
  rw[←hsz]at q4 q5
  have hNW:N*(4+f)≤N*(4+f+tq f m G):=Nat.mul_le_mul_left _ (by omega)
  rw[hN,q4,aE]
  unfold rh tA
  rw[fQ (show((sz:Nat):Int)≥0 by omega),decide_eq_true (show((sz:Nat):Int)≤1048576 by omega),aE,fQ rfl,ej]
  dsimp only
  rw[r1,aE]
  obtain⟨n1,n2⟩:=Sg (K:=K) (sz:=sz) (a:=0) (w:=false) (N:=N) (F:=F) (W:=4+f) hv ha hl hF (by omega) (by omega) (by first | omega | (simp only;omega)) (by omega) (by omega) (by omega) r2
  obtain⟨cs,e1,e2,e3⟩:=n1 (by omega)
  dsimp only at e1 e2
  rw[show(⟨((sz:Nat):Int),0,([]:List Int),([]:List be),0,false⟩:ah)=ar sz [] [] 0 false from rfl,e1,cW]
  dsimp only
  have hfe:((f:Nat):Int)=c.gB:=hf.symm
  have b:=NW (p:=⟨c.mG⟩) (args:=c.Dh) (N:=N) (F:=F) (f:=f) (m:=m) (sz:=sz) (G:=G) (c:=cs) (l:=wl false [] (pF 0 N F c.gB)) (w:=false) (x:=0) hv ha (by omega) (by omega) (by omega) (by omega) (by omega) (by omega) (by omega) q1 hsz q5 (by rw[hfe];exact e3) rfl
  rw[←hm]at b
  rw[fQ rfl,fQ rfl,fQ (by omega)]
  unfold G9
  rw[aE]
  have b':=abf b true
  obtain⟨S',M',l',s',x1,x2,x3⟩:=abq (K:=K) (c:=c) (by omega) hp c.jQ.length K 0 0 _ _ _ ⟨c.nD⟩ b' rfl rfl hN (by omega) (by omega) (by
   intro _ i hi
   show(if i=0 then Am.Pc.start (-1)else Am.Pc.oa)≠_∧(if i=0 then Am.Pc.start (-1)else Am.Pc.oa)≠_∧(if i=0 then Am.Pc.start (-1)else Am.Pc.oa)≠_
   split<;>refine⟨?_,?_,?_⟩<;>(intro h;cases h)) (by omega)
  rw[Int.ofNat_zero]at x1
  rw[x1,Oq]
  have h0:=C0 (M:=M') x2 (j:=0) (by show 0<N;omega)
  rw[Int.ofNat_zero]at h0
  rw[h0,aE]
  split
  ·split
   ·rfl
   ·rename_i hl'
    by_cases hz:c.jQ.length=0
    ·rw[fQ (by omega)]
    ·have:=x3 (by omega);omega
  ·rfl
 ·obtain⟨r,q1,q2,q3⟩:=NX (K:=K) c.cX ⟨c.gw,c.gB,c.jf⟩ (by omega)
  rw[q1,aE]
  unfold rh tA
  rw[fQ (show r≥0 by omega),decide_eq_true (show r≤1048576 by omega),aE,fQ rfl,ej]
  dsimp only
  rw[r1,aE,Sh r2 he,cW]
  dsimp only
  rw[fQ rfl,fh he]
end
end Mo
end
section
namespace workerAccessesUptoRow
open Go.ChangeShapes Go.WideShapes Go.ChangeAt Go.RowKit
open SL GX RK Mo
set_option maxRecDepth 100000
theorem own:ownKnob Tryz.prog.godebug=none:=by kernel_rfl
theorem J7:Tryz.prog.cellsOf 248=1:=by kernel_rfl
theorem aak:Tryz.prog.cellsOf 97=1:=by kernel_rfl
theorem aal:Tryz.prog.cellsOf 30=2:=by kernel_rfl
theorem Wi:Tryz.prog.cellsOf 28=1:=by kernel_rfl
theorem aam:Tryz.prog.cellsOf 27=3:=by kernel_rfl
theorem aan:Tryz.prog.cellsOf 25=1:=by kernel_rfl
theorem aao:Tryz.prog.cellsOf 24=1:=by kernel_rfl
theorem aap:Tryz.prog.cellsOf 22=1:=by kernel_rfl
theorem cl4:Tryz.prog.cellsOf 4=1:=by kernel_rfl
theorem NY:Tryz.prog.cellsOf 3=1:=by kernel_rfl
theorem cl2:Tryz.prog.cellsOf 2=1:=by kernel_rfl
def dE1(x:rf):DataW Unit:=.agg [.lit (.int .i64 x.a),.lit (.int .i64 x.b),.lit (.int .i64 x.c),.lit (.int .i64 x.k),.lit (.bool x.next)]
theorem aaq{W:World}:∀m cs y (x:rf),DataW.trod (λ_=>()) Tryz.prog W 0 (λ_=>true) false m 249 cs=some y→cs.length=5→y.1=dE1 x→cs=gh x:=by
 intro m cs y x h hl hd
 obtain⟨xs,m',_,hx,_,hxl,hg⟩:=DataW.trod_struct Tryz.underlying249 h
 match cs,hl,xs,hxl with
 | [c0,c1,c2,c3,c4],_,[x0,x1,x2,x3,x4],_ =>
  have g0:=hg 0 _ rfl
  simp only[J7,List.drop_succ_cons,List.drop_zero,List.take_succ_cons,List.take_zero,List.getElem_toArray,List.getElem_cons_zero,List.getElem_cons_succ,Array.getInternal_eq_getElem,List.getElem?_cons_succ,List.getElem?_cons_zero]at g0
  obtain⟨y0,e0,f0,_⟩:=DataW.trod_int Tryz.underlying248 g0
  have g1:=hg 1 _ rfl
  simp only[J7,List.drop_succ_cons,List.drop_zero,List.take_succ_cons,List.take_zero,List.getElem_toArray,List.getElem_cons_zero,List.getElem_cons_succ,Array.getInternal_eq_getElem,List.getElem?_cons_succ,List.getElem?_cons_zero]at g1
  obtain⟨y1,e1,f1,_⟩:=DataW.trod_int Tryz.underlying248 g1
  have g2:=hg 2 _ rfl
  simp only[J7,List.drop_succ_cons,List.drop_zero,List.take_succ_cons,List.take_zero,List.getElem_toArray,List.getElem_cons_zero,List.getElem_cons_succ,Array.getInternal_eq_getElem,List.getElem?_cons_succ,List.getElem?_cons_zero]at g2
  obtain⟨y2,e2,f2,_⟩:=DataW.trod_int Tryz.underlying248 g2
  have g3:=hg 3 _ rfl
  simp only[J7,List.drop_succ_cons,List.drop_zero,List.take_succ_cons,List.take_zero,List.getElem_toArray,List.getElem_cons_zero,List.getElem_cons_succ,Array.getInternal_eq_getElem,List.getElem?_cons_succ,List.getElem?_cons_zero]at g3
  obtain⟨y3,e3,f3,_⟩:=DataW.trod_int Tryz.underlying248 g3
  have g4:=hg 4 _ rfl
  simp only[cl4,List.drop_succ_cons,List.drop_zero,List.take_succ_cons,List.take_zero,List.getElem_toArray,List.getElem_cons_zero,List.getElem_cons_succ,Array.getInternal_eq_getElem,List.getElem?_cons_succ,List.getElem?_cons_zero]at g4
  obtain⟨y4,e4,f4⟩:=DataW.trod_bool Tryz.underlying4 g4
  rw[hx]at hd
  simp only[dE1,List.map_cons,List.map_nil,DataW.agg.injEq,List.cons.injEq,and_true,f0,f1,f2,f3,f4,DataW.lit.injEq,Lit.int.injEq,Lit.bool.injEq,true_and]at hd
  simp only[List.cons.injEq,and_true]at e0 e1 e2 e3 e4
  obtain⟨h0,h1,h2,h3,h4⟩:=hd
  simp only[e0,e1,e2,e3,e4,h0,h1,h2,h3,h4];rfl
def dE0(x:Bool):DataW Unit:=.lit (.bool x)
theorem aar{W:World}:∀m cs y (x:Bool),DataW.trod (λ_=>()) Tryz.prog W 0 (λ_=>true) false m 4 cs=some y→cs.length=1→y.1=dE0 x→cs=FN x:=by
 intro m cs y x h hl hd
 obtain⟨y0,e0,f0⟩:=DataW.trod_bool Tryz.underlying4 h
 rw[f0]at hd
 simp only[dE0,DataW.lit.injEq,Lit.bool.injEq]at hd
 rw[e0,hd];rfl
theorem Qe{W:World}(h:laidMetH Tryz.prog Rows.workerAccessesUptoRow.laid W):cu [old W] 5 gh (some ⟨1,0,none⟩) tY∧cu [old W] 1 FN (some ⟨0,0,none⟩) LJ:=by
 rw[MakeChecks.laidMetH_plain _ _ _ (by kernel_rfl)]at h
 obtain⟨ps,hV,_,_⟩:=h
 have hV0:DataW.LaidVars Tryz.prog W [("plunder/prog.fields",.agg (tY.map dE1)),("plunder/worker.idle",.agg (LJ.map dE0))] ps:=hV
 obtain⟨r0,ps0,hV1⟩:=FX (by decide) (show Tryz.prog.globalNamed "plunder/prog.fields" = some 1 by kernel_rfl) (show(Tryz.prog.globals[1]?).map (·.type)=some 250 by kernel_rfl) Tryz.underlying250 (show Tryz.prog.cellsOf 249=5 by kernel_rfl) (show Tryz.prog.cellsOf 250=50 by kernel_rfl) rfl (λx=>rfl) aaq hV0
 obtain⟨r1,ps1,hV2⟩:=FX (by decide) (show Tryz.prog.globalNamed "plunder/worker.idle" = some 0 by kernel_rfl) (show(Tryz.prog.globals[0]?).map (·.type)=some 136 by kernel_rfl) Tryz.underlying136 (show Tryz.prog.cellsOf 4=1 by kernel_rfl) (show Tryz.prog.cellsOf 136=15 by kernel_rfl) rfl (λx=>rfl) aar hV1
 exact⟨r0,r1⟩
def SI(x:bW):Prop:=BS x.aa6∧BS x.A∧BS x.B∧BS x.C∧BS x.K
theorem Wj{H:Type}{zY:TypeId×Value→H}{W:World}{n:Nat}{cs:List Value}{y:DataW H×List MemPlace}(h:DataW.trod zY Tryz.prog W 0 (λ_=>true) true n 146 cs=some y)(hl:cs.length=5) :∃x:bW,cs=cA x∧SI x:=by
 match cs,hl with
 | [c0,c1,c2,c3,c4],_ =>
  obtain⟨m0,z0,k0,b0⟩:=nJ Tryz.underlying146 h 0 rfl
  simp only[NY,List.drop_succ_cons,List.drop_zero,List.take_succ_cons,List.take_zero,List.getElem_toArray,List.getElem_cons_zero,List.getElem_cons_succ,Array.getInternal_eq_getElem]at k0
  obtain⟨y0,e0,i0⟩:=q7 Tryz.underlying3 k0
  obtain⟨m1,z1,k1,b1⟩:=nJ Tryz.underlying146 h 1 rfl
  simp only[NY,List.drop_succ_cons,List.drop_zero,List.take_succ_cons,List.take_zero,List.getElem_toArray,List.getElem_cons_zero,List.getElem_cons_succ,Array.getInternal_eq_getElem]at k1
  obtain⟨y1,e1,i1⟩:=q7 Tryz.underlying3 k1
  obtain⟨m2,z2,k2,b2⟩:=nJ Tryz.underlying146 h 2 rfl
  simp only[NY,List.drop_succ_cons,List.drop_zero,List.take_succ_cons,List.take_zero,List.getElem_toArray,List.getElem_cons_zero,List.getElem_cons_succ,Array.getInternal_eq_getElem]at k2
  obtain⟨y2,e2,i2⟩:=q7 Tryz.underlying3 k2
  obtain⟨m3,z3,k3,b3⟩:=nJ Tryz.underlying146 h 3 rfl
  simp only[NY,List.drop_succ_cons,List.drop_zero,List.take_succ_cons,List.take_zero,List.getElem_toArray,List.getElem_cons_zero,List.getElem_cons_succ,Array.getInternal_eq_getElem]at k3
  obtain⟨y3,e3,i3⟩:=q7 Tryz.underlying3 k3
  obtain⟨m4,z4,k4,b4⟩:=nJ Tryz.underlying146 h 4 rfl
  simp only[cl2,List.drop_succ_cons,List.drop_zero,List.take_succ_cons,List.take_zero,List.getElem_toArray,List.getElem_cons_zero,List.getElem_cons_succ,Array.getInternal_eq_getElem]at k4
  obtain⟨y4,e4,i4⟩:=q7 Tryz.underlying2 k4
  simp only[List.cons.injEq,and_true]at e0 e1 e2 e3 e4
  subst e0 e1 e2 e3 e4
  exact⟨⟨y0,y1,y2,y3,y4⟩,rfl,i0,i1,i2,i3,i4⟩
def Q99{H:Type}(x:aG)(d:DataW H):Prop:=BS x.aU∧BS x.cO∧BS x.bJ∧x.Code.length+1≤Rows.uptoBulk d∧∀y∈x.Code,SI y
theorem aas{H:Type}{zY:TypeId×Value→H}{W:World}{n:Nat}{cs:List Value}{y:DataW H×List MemPlace}(h:DataW.trod zY Tryz.prog W 0 (λ_=>true) true n 99 cs=some y)(hl:cs.length=4) :∃(a:Option Addr) (c:Nat) (x:aG),cs=ON a c x∧cu [old W] 5 cA a x.Code∧Q99 x y.1:=by
 match cs,hl with
 | [c0,c1,c2,c3],_ =>
  obtain⟨m0,z0,k0,b0⟩:=nJ Tryz.underlying99 h 0 rfl
  simp only[NY,List.drop_succ_cons,List.drop_zero,List.take_succ_cons,List.take_zero,List.getElem_toArray,List.getElem_cons_zero,List.getElem_cons_succ,Array.getInternal_eq_getElem]at k0
  obtain⟨y0,e0,i0⟩:=q7 Tryz.underlying3 k0
  obtain⟨m1,z1,k1,b1⟩:=nJ Tryz.underlying99 h 1 rfl
  simp only[NY,List.drop_succ_cons,List.drop_zero,List.take_succ_cons,List.take_zero,List.getElem_toArray,List.getElem_cons_zero,List.getElem_cons_succ,Array.getInternal_eq_getElem]at k1
  obtain⟨y1,e1,i1⟩:=q7 Tryz.underlying3 k1
  obtain⟨m2,z2,k2,b2⟩:=nJ Tryz.underlying99 h 2 rfl
  simp only[NY,List.drop_succ_cons,List.drop_zero,List.take_succ_cons,List.take_zero,List.getElem_toArray,List.getElem_cons_zero,List.getElem_cons_succ,Array.getInternal_eq_getElem]at k2
  obtain⟨y2,e2,i2⟩:=q7 Tryz.underlying3 k2
  obtain⟨m3,z3,k3,b3⟩:=nJ Tryz.underlying99 h 3 rfl
  simp only[aak,List.drop_succ_cons,List.drop_zero,List.take_succ_cons,List.take_zero,List.getElem_toArray,List.getElem_cons_zero,List.getElem_cons_succ,Array.getInternal_eq_getElem]at k3
  obtain⟨va,l,cap,e3,r3,q3,g3,_⟩:=HD (Q:=λx _=>SI x) iW Tryz.underlying97 (by kernel_rfl) (λn cs y h hl=>Wj h hl) k3
  simp only[List.cons.injEq,and_true]at e0 e1 e2 e3
  subst e0 e1 e2 e3
  exact⟨va,cap,⟨y0,y1,y2,l⟩,rfl,r3,i0,i1,i2,by show l.length+1≤_;omega,λx hx=>by obtain⟨_,h,_⟩:=q3 x hx;exact h⟩
set_option maxRecDepth 100000 in
theorem contract(H:Type)(enc:TypeId×Value→H)(W:World)(base:Nat)(args:Array Value)(ds gs:List (DataW H))(before:List MemPlace)
 (hval:∀(j:Nat) t v,Tryz.f6.params[j]? = some t→args[j]? = some v→Value.okWide Tryz.prog W .any base t v)
 (hW:DataW.Whole enc Tryz.prog Tryz.f6.params.toList Rows.workerAccessesSpec.vars false W args.toList ds gs before) (hk:Rows.uptoSmall H (ds++gs)=true) (hL:laidMetH Tryz.prog Rows.workerAccessesUptoRow.laid W) :
 Calls Tryz.prog 6 args W λe W' =>∃v,e= .returned v∧Rows.workerAccessesSpec.post enc Tryz.prog Tryz.f6 false true false false W args v W':=by
 have hG:=Qe hL
 have hW':=hW
 obtain⟨p,q,hA0,hV,rfl,hfz,Uz⟩:=hW
 have hA:DataW.TrodAll enc Tryz.prog W 0 (λ_=>true) true Tryz.f6.params.toList args.toList ds p:=hA0
 rw[Tryz.params6]at hA hval
 have aat:=hA
 obtain⟨v0,vs0,d0,ds0,p0,q0,hargs,rfl,rfl,h0,r0⟩:=trodAll_cons hA
 obtain⟨rfl,rfl,rfl⟩:=trodAll_nil r0
 obtain rfl:args=#[v0]:=by cases args;simp_all
 obtain⟨rfl,rfl⟩:=trodVars_none hV
 have Wk:Rows.uptoBulkAll _≤1048576:=of_decide_eq_true hk
 have hBc:Rows.uptoBulk (d0,p0).1≤1048576:=Nat.le_trans (DM (d:=d0) (by simp)) Wk
 obtain⟨csc,rfl,_⟩:=okWide_struct Tryz.underlying32 (hval 0 32 v0 rfl rfl)
 obtain⟨fuc,QZ⟩:=h0
 have QZ:DataW.trod enc Tryz.prog W 0 (λ_=>true) true fuc 32 csc.toList=some (d0,p0):=QZ
 have hlc:=Rf Tryz.underlying32 QZ
 rw[show Tryz.prog.cellsOf 32=8 by kernel_rfl]at hlc
 obtain⟨lc⟩:=csc
 obtain⟨Xg,Xh,Xi,Xj,Xk,Xl,Xm,Xn,rfl⟩ :∃Xg Xh Xi Xj Xk Xl Xm Xn,lc=[Xg,Xh,Xi,Xj,Xk,Xl,Xm,Xn]:=by match lc,hlc with | [Xg,Xh,Xi,Xj,Xk,Xl,Xm,Xn],_=>exact⟨Xg,Xh,Xi,Xj,Xk,Xl,Xm,Xn,rfl⟩
 obtain⟨mc1,zc1,SS,bc1⟩:=nJ Tryz.underlying32 QZ 0 rfl
 simp only[aao,List.drop_succ_cons,List.drop_zero,List.take_succ_cons,List.take_zero,List.getElem_toArray,List.getElem_cons_zero,List.getElem_cons_succ,Array.getInternal_eq_getElem]at SS
 obtain⟨mc2,zc2,SU,bc2⟩:=nJ Tryz.underlying24 SS 0 rfl
 simp only[aap,List.drop_succ_cons,List.drop_zero,List.take_succ_cons,List.take_zero,List.getElem_toArray,List.getElem_cons_zero,List.getElem_cons_succ,Array.getInternal_eq_getElem]at SU
 obtain⟨aau,aav,lc2,aaw,ec2,rc2,qc2,gc2,aaU⟩:=Oz (Q:=Q99) (enc:=ON) (kY:=cA) (DN:=aG.Code) (sz:=4) (tO:=5) (λa c=>⟨λ_=>rfl,λx u h=>by simp only[ON,List.mem_cons,List.not_mem_nil,or_false]at h;rcases h with rfl | rfl | rfl | rfl<;>rfl,by decide⟩) Tryz.underlying22 (by kernel_rfl) (λn cs y h hl=>aas h hl) SU
 simp only[List.cons.injEq,and_true]at ec2
 subst ec2
 obtain⟨mc3,zc3,SV,bc3⟩:=nJ Tryz.underlying32 QZ 1 rfl
 simp only[aan,List.drop_succ_cons,List.drop_zero,List.take_succ_cons,List.take_zero,List.getElem_toArray,List.getElem_cons_zero,List.getElem_cons_succ,Array.getInternal_eq_getElem]at SV
 obtain⟨aax,lc3,aay,ec3,rc3,qc3,gc3,aaV⟩:=Ej Tryz.underlying25 Tryz.underlying2 (by kernel_rfl) SV
 simp only[List.cons.injEq,and_true]at ec3
 subst ec3
 obtain⟨mc4,zc4,XE,bc4⟩:=nJ Tryz.underlying32 QZ 2 rfl
 simp only[NY,List.drop_succ_cons,List.drop_zero,List.take_succ_cons,List.take_zero,List.getElem_toArray,List.getElem_cons_zero,List.getElem_cons_succ,Array.getInternal_eq_getElem]at XE
 obtain⟨jz,ec4,ic4⟩:=q7 Tryz.underlying3 XE
 simp only[List.cons.injEq,and_true]at ec4
 subst ec4
 obtain⟨mc5,zc5,TY,bc5⟩:=nJ Tryz.underlying32 QZ 3 rfl
 simp only[aam,List.drop_succ_cons,List.drop_zero,List.take_succ_cons,List.take_zero,List.getElem_toArray,List.getElem_cons_zero,List.getElem_cons_succ,Array.getInternal_eq_getElem]at TY
 obtain⟨mc6,zc6,XH,bc6⟩:=nJ Tryz.underlying27 TY 0 rfl
 simp only[NY,List.drop_succ_cons,List.drop_zero,List.take_succ_cons,List.take_zero,List.getElem_toArray,List.getElem_cons_zero,List.getElem_cons_succ,Array.getInternal_eq_getElem]at XH
 obtain⟨UD,ec6,ic6⟩:=q7 Tryz.underlying3 XH
 simp only[List.cons.injEq,and_true]at ec6
 subst ec6
 obtain⟨mc7,zc7,XJ,bc7⟩:=nJ Tryz.underlying27 TY 1 rfl
 simp only[NY,List.drop_succ_cons,List.drop_zero,List.take_succ_cons,List.take_zero,List.getElem_toArray,List.getElem_cons_zero,List.getElem_cons_succ,Array.getInternal_eq_getElem]at XJ
 obtain⟨X8,ec7,ic7⟩:=q7 Tryz.underlying3 XJ
 simp only[List.cons.injEq,and_true]at ec7
 subst ec7
 obtain⟨mc8,zc8,XL,bc8⟩:=nJ Tryz.underlying27 TY 2 rfl
 simp only[NY,List.drop_succ_cons,List.drop_zero,List.take_succ_cons,List.take_zero,List.getElem_toArray,List.getElem_cons_zero,List.getElem_cons_succ,Array.getInternal_eq_getElem]at XL
 obtain⟨X9,ec8,ic8⟩:=q7 Tryz.underlying3 XL
 simp only[List.cons.injEq,and_true]at ec8
 subst ec8
 obtain⟨mc9,zc9,WI,bc9⟩:=nJ Tryz.underlying32 QZ 4 rfl
 simp only[aal,List.drop_succ_cons,List.drop_zero,List.take_succ_cons,List.take_zero,List.getElem_toArray,List.getElem_cons_zero,List.getElem_cons_succ,Array.getInternal_eq_getElem]at WI
 obtain⟨aaW,aaX,Q4,aaY⟩:=nJ Tryz.underlying30 WI 0 rfl
 simp only[Wi,List.drop_succ_cons,List.drop_zero,List.take_succ_cons,List.take_zero,List.getElem_toArray,List.getElem_cons_zero,List.getElem_cons_succ,Array.getInternal_eq_getElem]at Q4
 obtain⟨Wl,SJ,Wm,Wn,aaz,aaZ,aa0,aaD⟩:=Ej Tryz.underlying28 Tryz.underlying3 (by kernel_rfl) Q4
 simp only[List.cons.injEq,and_true]at Wn
 subst Wn
 obtain⟨aa1,aa2,Q6,aa3⟩:=nJ Tryz.underlying30 WI 1 rfl
 simp only[Wi,List.drop_succ_cons,List.drop_zero,List.take_succ_cons,List.take_zero,List.getElem_toArray,List.getElem_cons_zero,List.getElem_cons_succ,Array.getInternal_eq_getElem]at Q6
 obtain⟨Wo,SK,Wp,Wq,aaA,aa4,aa5,aaE⟩:=Ej Tryz.underlying28 Tryz.underlying3 (by kernel_rfl) Q6
 simp only[List.cons.injEq,and_true]at Wq
 subst Wq
 have aaF :∃c:fo,c=⟨lc2,lc3,jz,UD,X8,X9,SJ,SK⟩:=⟨_,rfl⟩
 have H0:=(show sZ 5000000 (⟨lc2,lc3,jz,UD,X8,X9,SJ,SK⟩:fo)=some true from abr (by show SK.length≤_;omega) (by show SJ.length≤_;omega) (by decide))
 refine(Tt (fK:=aau) (fT:=aaw) (sk:=rc2) (p9:=aav) (ng:=aax) (nP:=aay) (w4:=rc3) (gf:=Wl) (jP:=Wm) (sn:=aaz) (kz:=Wo) (k6:=Wp) (w5:=aaA) (sS:=hG.1) (M7:=hG.2) (H:=H0) (h:=Fit.begin W)).mono λe W' ⟨he,hF⟩ => ?_
 subst he
 have rH:=hF.below
 exact⟨_,rfl,_,_,_,[],_,[],hW',trodAll_mk1 (shut_bool Tryz.underlying4 _),xY (by kernel_rfl) rH (by kernel_rfl) aat,rfl,rH.frame _,λh=>by cases h⟩
def SM:Array Value:=(tY.flatMap gh).toArray
def SN:Array Value:=(LJ.flatMap FN).toArray
noncomputable def AL(os:Os):World:={World.holding Tryz.prog os ⟨#[],#[],[]⟩with heap:=(((World.holding Tryz.prog os ⟨#[],#[],[]⟩).heap.modify 1 (fun | .cells _ t frozen=>.cells SM t frozen | o=>o)).modify 0 (fun | .cells _ t frozen=>.cells SN t frozen | o=>o))}
theorem NZ(os:Os):laidMet Tryz.prog Rows.workerAccessesUptoRow.laid ((AL os).forCall (λ_ _=>0) ⟨#[],#[.agg #[.slice none 0 0,.slice none 0 0,.int .i64 0,.int .i64 0,.int .i64 0,.int .i64 0,.slice none 0 0,.slice none 0 0]],[]⟩).memory:=
 laidMet_of_run' 40 (by kernel_rfl) (by kernel_rfl)
theorem reads(os:Os){H:Type}(enc:TypeId×Value→H) :∃places,DataW.whole enc Tryz.prog ((AL os).forCall (λ_ _=>0) ⟨#[],#[.agg #[.slice none 0 0,.slice none 0 0,.int .i64 0,.int .i64 0,.int .i64 0,.int .i64 0,.slice none 0 0,.slice none 0 0]],[]⟩).memory Tryz.f6.params.toList Rows.workerAccessesSpec.vars false (#[.agg #[.slice none 0 0,.slice none 0 0,.int .i64 0,.int .i64 0,.int .i64 0,.int .i64 0,.slice none 0 0,.slice none 0 0]]:Array Value).toList 16=some ([.agg [.agg [.nil],.nil,.lit (.int .i64 0),.agg [.lit (.int .i64 0),.lit (.int .i64 0),.lit (.int .i64 0)],.agg [.nil,.nil]]],[],places):=
 ⟨[],by kernel_rfl⟩
set_option maxRecDepth 100000 in
theorem lifted(os:Os)(started:os.Started)(H:Type)(enc:TypeId×Value→H)(F:Stop.Interp) :
 ReturnsInHanded {} Tryz.checked os 6 .any ((Rows.OpenSpec.upto Rows.workerAccessesSpec).preRow enc Tryz.prog Tryz.f6 Rows.workerAccessesUptoRow.domain false Rows.workerAccessesUptoRow.laid) (((Rows.OpenSpec.upto Rows.workerAccessesSpec).at F).post enc Tryz.prog Tryz.f6 false true false false):=by
 obtain⟨places,hx⟩:=reads os enc
 refine returnsInHanded_of_row (C:=Tryz.checked) (s:=Rows.OpenSpec.upto Rows.workerAccessesSpec) own started (by kernel_rfl) Tryz.func6
  (witness_row_at (enc:=enc) (C:=Tryz.checked) false (AL os) #[.agg #[.slice none 0 0,.slice none 0 0,.int .i64 0,.int .i64 0,.int .i64 0,.int .i64 0,.slice none 0 0,.slice none 0 0]] rfl (by kernel_rfl) (by kernel_rfl) (by kernel_rfl)
   (OpenSpec.preRow_of_cond 16 hx (by kernel_rfl) (λk hk=>by cases hk;kernel_rfl) (by kernel_rfl) (NZ os))) ?_
 intro W base args ds gs before hval hW _ Wr _ hL _ _
 exact contract H enc W base args ds gs before hval hW (Wr _ rfl) hL
theorem gO{a b:Bool}(h1:a=true)(h2:b=true):(a&&b)=true:=by rw[h1,h2];rfl
set_option maxHeartbeats 4000000 in
theorem facts:joinedFacts Tryz.pinned.checked.prog 6 Tryz.f6 (Rows.OpenSpec.upto Rows.workerAccessesSpec).bare Rows.workerAccessesUptoRow=true:=by
 unfold joinedFacts
 refine gO (gO (gO (gO (gO (gO (gO (gO (gO (gO (gO (gO (gO (gO (gO (gO (gO (gO (gO (gO (gO (gO (gO (gO (gO (gO (gO (gO (gO (gO (gO ?_ ?_) ?_) ?_) ?_) ?_) ?_) ?_) ?_) ?_) ?_) ?_) ?_) ?_) ?_) ?_) ?_) ?_) ?_) ?_) ?_) ?_) ?_) ?_) ?_) ?_) ?_) ?_) ?_) ?_) ?_) ?_
 all_goals as_aux_lemma=>kernel_rfl
theorem proved:Rows.WorkerAccessesUptoSaid:=
 OpenClaim.holds_of_cond 6 Tryz.f6 rfl rfl rfl rfl rfl rfl rfl ⟨rfl,rfl,rfl,rfl,rfl⟩ rfl rfl rfl rfl rfl (by kernel_rfl) Tryz.func6 facts
  (of_decide_eq_true (by kernel_rfl)) (by unfold Func.isWrapper;first | (rw[fQ (by decide +kernel)];kernel_rfl) | (rw[fh (by decide +kernel)];exact⟨rfl,rfl⟩))
  (λos started H enc _ F=>by rw[OpenClaim.pre_eq_preRow];exact lifted os started H enc F)
theorem plain(f:FuncId)(fn:Func)(hf:Tryz.pinned.checked.prog.funcNamed "plunder/plunderlaw11.WorkerAccesses" = some f) (hfn:Tryz.pinned.checked.prog.funcs[f]? = some fn) :
 true=Tryz.pinned.checked.prog.looks []∧∀(j:Nat) t,fn.params[j]? = some t→Tryz.pinned.checked.prog.wantsStandIn t=false:=by
 obtain rfl:f=6:=Option.some.inj ((show Tryz.prog.funcNamed "plunder/plunderlaw11.WorkerAccesses" = some 6 by kernel_rfl).symm.trans hf) |>.symm
 obtain rfl:fn=Tryz.f6:=(Option.some.inj (Tryz.func6.symm.trans hfn)).symm
 refine⟨by kernel_rfl,λj t ht => ?_⟩
 rw[Tryz.params6]at ht
 have ht:=Array.mem_of_getElem? ht
 simp only[List.mem_toArray,List.mem_cons,List.not_mem_nil,or_false]at ht
 subst ht
 exact(show Tryz.prog.wantsStandIn 32=false by kernel_rfl)
theorem card:Rows.WorkerAccessesUptoCardSaid:=
 Claim7.holds_tied_plain_at .later [] _ _ _ _ proved (λ_ h=>by cases h) (by kernel_rfl) (λ_ h=>by cases h) workerAccessesUpto_row_tie rfl ⟨rfl,rfl⟩ (by kernel_rfl) rfl plain (by kernel_rfl)
#print axioms card
end workerAccessesUptoRow
section
theorem workerAccessesUpto_holds:Rows.WorkerAccessesUptoCardSaid:=workerAccessesUptoRow.card
end
end
end Go.Proofs.YtpikpffbcjpmcaaGreatDoor
