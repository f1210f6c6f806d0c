/- plunderlaw11.WorkerCounts answers true for every input of the bulk that the statement names, and leaves its input alone. Conditions: none. -/
import Derived.Test.YtaiffafelihaaaaGreatDoorV3
set_option linter.unusedVariables false
set_option linter.unusedSimpArgs false
set_option linter.unusedSectionVars false
set_option maxRecDepth 100000
set_option maxHeartbeats 4000000
set_option autoImplicit true
set_option relaxedAutoImplicit true
namespace Go.Proofs.YtaiffafelihaaaaGreatDoor
section
namespace Mo
open Go SL GX
abbrev E0:aB:=⟨0,0,0,0,0,0⟩
section
variable {K:Nat}{C:Am.jt}{p:aH}{s:Am.St}{S:af}{M M':ag}{sz n i f:Nat}{D:aV}{d:Int}{T:List aU}{a:bE}
theorem jE.Xm{o:Am.Out}{q:Am.Pc}{x:Int}{l:Bool}{r:Option (aB×af×ag)}(b:zj C p s S M sz n)(hi:i<C.N)(hr:r=some (CZ o.ev,{gE (lp S T) i a with value:=x,left:=l},M'))
 (Hg:a.bx=i) (hfr:a.ax=fi (o.s.hold i)) (hq:o.s.pc=Am.bJ s.pc i q) (hph:ph C i q (o.s.fW i) (o.s.cur i) o.s.base a) (har:AR C o.s M' sz (n+1)) (QF:Lg C o.s M M' o.acc) (VP:Uy o.ev)
 (hT:T.length=C.F) (htk:∀g,g<o.s.nf->RN (o.s.fr g) g (GX.J T g)) (hl:l=o.s.val.isSome) (hx:x=o.s.val.getD 0)
 (hh:∀j,j≠i->o.s.hold j=s.hold j:=by intros;rfl) (RP:o.s.fW=s.fW:=by rfl) (hc:o.s.cur=s.cur:=by rfl) (hb:o.s.base=s.base:=by rfl):jE C p sz n M o r:=by
 refine⟨_,_,hr,?_,har,QF,VP⟩;have h:=b.jX;have hwl:=h.wl;refine⟨h.code,h.res,h.tb,h.tf,h.lb,h.lw,h.dl,h.dq,hT,htk,by show(gE (lp S T) i a).aj.length=_;rw[jW];exact h.wl,λj hj => ?_,hl,hx⟩;show aOK C o.s j (GX.J (S.aj.set i a) j);by_cases e:j=i
 ·subst e;rw[qU I,aM rfl];exact⟨Hg,hfr,by rw[hq,Am.aF];exact hph⟩
 ·rw[qU I,bZ e];obtain⟨w1,w2,w3⟩:=h.wk j hj;have ep:o.s.pc j=s.pc j:=by rw[hq];exact Am.aA e
  exact⟨w1,by rw[hh j e];exact w2,by rw[ep,RP,hc,hb];exact w3⟩
theorem DW(b:zj C p s S M sz n)(hf:f<s.nf){t:aU}{y:Am.Fr}(ht:RN y f t):∀g,g<s.nf->RN (Am.bJ s.fr f y g) g (GX.J (S.aJ.set f t) g):=λg hg=>by
 have hl:=b.jX.tl;have hn:s.nf<=C.F:=b.fi.xC;rw[qU I,Am.cA];by_cases e:g=f
 ·subst e;rw[aM rfl,aM rfl];exact ht
 ·rw[bZ e,bZ e];exact b.jX.tk g hg
def wY(S:af)(M:ag)(i:Nat)(D:aV)(f:Nat)(ci:cG)(t:aU):Option (aB×af×ag):=
 let fr:Int:=f
 if ci.aP=0 then if bM ci.A 16 then some (E0,lp S ((S.aJ.set f t).set f ({t with bw:=mB 16 t.bw ci.A.toNat ci.K})),M)else none
 else if ci.aP=1 then if bM ci.B 16 then if bM ci.A 16 then some (E0,lp S ((S.aJ.set f t).set f ({t with bw:=mB 16 t.bw ci.A.toNat (GX.J t.bw ci.B.toNat)})),M)else none else none
 else if ci.aP=2 then if bM ci.B 16 then if bM ci.C 16 then tL (rH ci.K (GX.J t.bw ci.B.toNat) (GX.J t.bw ci.C.toNat)) (λtu vx=>if bM ci.A 16 then some (E0,lp S ((S.aJ.set f t).set f ({t with bw:=mB 16 t.bw ci.A.toNat tu})),M)else none)else none else none
 else if ci.aP=3 then some (E0,lp S ((S.aJ.set f t).set f ({t with J:=ci.A})),M)
 else if ci.aP=4 then if bM ci.A 16 then(if(GX.J t.bw ci.A.toNat)=0 then some (E0,lp S (S.aJ.set f t),M)else some (E0,lp S ((S.aJ.set f t).set f ({t with J:=ci.B})),M))else none
 else if ci.aP=8 then if bM ci.A 16 then some (E0,lp S ((S.aJ.set f t).set f ({t with bw:=mB 16 t.bw ci.A.toNat t.k8})),M)else none
 else if ci.aP=7 then eA (vh (⟨S.dx,S.cJ⟩:bj) fr ci.B) (λr51=>II (eW (gE (lp S (S.aJ.set f t)) i {act S i with dB:=r51}) M (i:Int)) (λr54 MR E4 Qt=>(if r54=15 then if bM fr E4.aJ.length then if bM ci.A 16 then some (E0,{E4 with aJ:=E4.aJ.set f ({GX.J E4.aJ f with bw:=mB 16 (GX.J E4.aJ f).bw ci.A.toNat MR})},Qt)else none else none else if bM (i:Int) E4.aj.length then tL (dK E4 Qt (i:Int)) (λVH Qu=>some (VH,Qu,Qt))else none)))
 else if ci.aP=5 then ql (lX (lp S (S.aJ.set f t)) M (i:Int) ci) (λRw Jf Rx=>some (Rw,Jf,Rx))
 else if ci.aP=6 then eA (wH (⟨S.dx,S.cJ⟩:bj) fr) (λVI=>ql (cY ({S with aJ:=S.aJ.set f t,aj:=(S.aj.set i ({act S i with dB:=VI})).set i ({({act S i with dB:=VI}:bE)with aK:=5})}) M (i:Int) D) (λr86 S87 S88=>some (r86,S87,S88)))
 else if bM ci.A 16 then ql (lY (lp S (S.aJ.set f t)) M (i:Int) (GX.J t.bw ci.A.toNat)) (λr96 S97 S98=>some (r96,S97,S98))else none
variable (b:zj C p s S M sz n)(hi:i<C.N)
include b hi
structure ZQ(p:aH)(C:Am.jt)(s:Am.St)(S:af)(i f:Nat)(ci:cG)(t:aU):Prop where
 hh:s.hold i=some f
 hn:f<s.nf
 hF:f<C.F
 fr:(act S i).ax=f
 fn:(s.fr f).fn<p.ah.length
 J:(s.fr f).J<512
 ok:Qm p (GX.J p.ah (s.fr f).fn) ci
 GO:LR (GX.J p.ah (s.fr f).fn)
 kd:0<=ci.aP/\ci.aP<10
 code:C.code (s.fr f).fn (s.fr f).J=mU ci
 t:RN {s.fr f with J:=(s.fr f).J+1} f t
theorem Xn(hp:s.pc i= .run) :∃f ci t,ZQ p C s S i f ci t/\kW S M (i:Int) D=wY S M i D f ci t:=by
 obtain⟨f,hh,hn,hF,hfr⟩:=GW b hi (by rw[hp];rfl);obtain⟨r1,r2,r3⟩:=b.fr f hn;have r3:=r3 (Am.nA b.fi hi hh).1;have cf:=b.cf;have e1:C.QA=p.ah.length:=by rw[cf];rfl
 have e2:C.len (s.fr f).fn=(GX.J p.ah (s.fr f).fn).ai.length:=by rw[cf];rfl
 have e3:C.code (s.fr f).fn (s.fr f).J=mU (GX.J (GX.J p.ah (s.fr f).fn).ai (s.fr f).J):=by rw[cf];rfl
 rw[e1]at r1;rw[e2]at r3;have hs:=b.vd.GO _ r1;have hc:=b.vd.code _ r1;have c5:=hs.Jc;have hk:=(Code.snd hs hc).kind ((s.fr f).J:Int) I I;rw[cL]at hk;have ht:=b.jX.tk f hn;have h1:bM (act S i).ax S.aJ.length:=by rw[hfr];exact b.task hn
 have h2:bM (GX.J S.aJ (act S i).ax.toNat).fn S.code.length:=by rw[hfr,cL,ht.fn,b.jX.code];exact⟨I,I⟩
 have h3:bM (GX.J S.aJ (act S i).ax.toNat).J (GX.J S.code (GX.J S.aJ (act S i).ax.toNat).fn.toNat).ai.length:=by rw[hfr,cL,ht.fn,ht.J,b.jX.code,cL];exact⟨I,I⟩
 refine⟨f,GX.J (GX.J p.ah (s.fr f).fn).ai (s.fr f).J,{GX.J S.aJ f with J:=wi ((GX.J S.aJ f).J+1)},⟨hh,hn,hF,hfr,r1,I,hc.ins _ r3,hs,hk,e3,⟨ht.fn,by show wi ((GX.J S.aJ f).J+1)=_;rw[ht.J,eO I];rfl,ht.par,ht.slot,ht.bt,ht.k8,ht.bw⟩⟩,?_⟩;have J1:GX.J (GX.J S.code (GX.J S.aJ f).fn.toNat).ai (GX.J S.aJ f).J.toNat=GX.J (GX.J p.ah (s.fr f).fn).ai (s.fr f).J:=by rw[ht.fn,ht.J,b.jX.code,cL,cL]
 unfold kW dY Ep fC DH ey jT qK an;rw[cL,aM h1,ju,aM h1,aM h2,aM h3];have aeN:(GX.J S.aj i).ax=(f:Int):=hfr;rw[aeN,cL,J1]
 rfl
end
theorem IB(r:Nat):J (List.replicate 16 (0:Int)) r=0:=by
 unfold J;rw[List.getD_eq_getElem?_getD,List.getElem?_replicate];split<;>rfl
theorem RN.Ln{x:Am.Fr}{f A:Nat}{t:aU}(h:RN x f t)(v:Int):RN {x with bw:=Am.bJ x.bw A v} f {t with bw:=mB 16 t.bw A v}:=
 ⟨h.fn,h.J,h.par,h.slot,h.bt,h.k8,λr hr=>by show GX.J (mB 16 t.bw A v) r=Am.bJ x.bw A v r;rw[EV hr,Am.cA,h.bw r hr]⟩
section
variable {K:Nat}{C:Am.jt}{p:aH}{s:Am.St}{S:af}{M M':ag}{sz n i f:Nat}{D:aV}{d:Int}{T:List aU}{a:bE}{ci:cG}{t:aU}
theorem Sa(b:zj C p s S M sz n)(hi:i<C.N):gE (lp S T) i (act S i)=lp S T:=by
 have:=kr b hi;show({S with aJ:=T,aj:=S.aj.set i (act S i)}:af)=_;have e:S.aj.set i (act S i)=S.aj:=nu (·.aj) this;rw[e];rfl
variable (b:zj C p s S M sz n)(hi:i<C.N)(afW:ZQ p C s S i f ci t)(hp:s.pc i= .run)
include b hi afW hp
theorem AL{y:Am.Fr}{t2:aU}{o:Am.Out}{r:Option (aB×af×ag)}(hr:r=some (E0,lp S (S.aJ.set f t2),M))(ho:o=⟨s.lay f y,none,none⟩)(ht:RN y f t2):jE C p sz n M o r:=by
 subst ho;obtain⟨w1,w2,w3⟩:=b.jX.wk i hi;rw[hp]at w3;refine jE.Xm (T:=S.aJ.set f t2) (a:=act S i) (x:=S.value) (l:=S.left) (q:=.run) b hi (by rw[hr,Sa b hi];rfl) w1 w2 (by rw[<-hp,Am.rL];rfl) w3 (b.ar.keep rfl rfl rfl rfl) Lg.none_ trivial (by rw[gV];exact b.jX.tl) (DW b afW.hn ht) b.jX.left b.jX.val
theorem th:Am.aC C s i d=Am.instr C s i:=by unfold Am.aC;rw[hp]
theorem zb{A:Int}(h:tM A (GX.J p.ah (s.fr f).fn).cZ=true):bM A 16/\A.toNat<16:=by
 have h1:=DS h;have h2:=afW.GO.r16;exact⟨⟨I,I⟩,I⟩
theorem Pr{t2:aU}:(S.aJ.set f t).set f t2=S.aJ.set f t2:=iP ..
theorem acw(k:ci.aP=0):jE C p sz n M (Am.aC C s i d) (wY S M i D f ci t):=by
 have ok:=afW.ok.1;unfold nl at ok;rw[aM (.inl k)]at ok;obtain⟨r1,r2⟩:=zb b hi afW hp ok;refine AL b hi afW hp (t2:={t with bw:=mB 16 t.bw ci.A.toNat ci.K}) ?_ ?_ (afW.t.Ln ci.K)
 ·unfold wY;simp only;rw[aM k,aM r1,Pr b hi afW hp]
 ·rw[th b hi afW hp];unfold Am.instr;simp only[afW.hh,nQ];rw[afW.code];unfold mU;rw[aM k]
theorem acy(k:ci.aP=1):jE C p sz n M (Am.aC C s i d) (wY S M i D f ci t):=by
 have ok:=afW.ok.1;unfold nl at ok;rw[eu,aM k,mE]at ok;obtain⟨r1,r2⟩:=zb b hi afW hp ok.1;obtain⟨q1,q2⟩:=zb b hi afW hp ok.2;refine AL b hi afW hp (t2:={t with bw:=mB 16 t.bw ci.A.toNat (GX.J t.bw ci.B.toNat)}) ?_ ?_ (afW.t.Ln _)
 ·unfold wY;simp only;rw[eu,aM k,aM q1,aM r1,Pr b hi afW hp]
 ·rw[th b hi afW hp];unfold Am.instr;simp only[afW.hh,nQ];rw[afW.code];unfold mU;rw[eu,aM k,afW.t.bw _ q2]
theorem acz(k:ci.aP=2):jE C p sz n M (Am.aC C s i d) (wY S M i D f ci t):=by
 have ok:=afW.ok.1;unfold nl at ok;rw[eu,eu,aM k,mE,mE,mE]at ok;obtain⟨r1,r2⟩:=zb b hi afW hp ok.1.1.1;obtain⟨q1,q2⟩:=zb b hi afW hp ok.1.1.2;obtain⟨u1,u2⟩:=zb b hi afW hp ok.1.2;have ko:=DS ok.2;have hap:C.ap=Ut:=by rw[b.cf];rfl
 refine AL b hi afW hp (t2:={t with bw:=mB 16 t.bw ci.A.toNat (Ut ci.K (GX.J t.bw ci.B.toNat) (GX.J t.bw ci.C.toNat))}) ?_ ?_ (afW.t.Ln _)
 ·unfold wY;simp only;rw[eu,eu,aM k,aM q1,aM u1,Iw ko.1 ko.2,eF,aM r1,Pr b hi afW hp]
 ·rw[th b hi afW hp];unfold Am.instr;simp only[afW.hh,nQ];rw[afW.code];unfold mU;rw[eu,eu,aM k,afW.t.bw _ q2,afW.t.bw _ u2,hap]
theorem acA(k:ci.aP=3):jE C p sz n M (Am.aC C s i d) (wY S M i D f ci t):=by
 have ok:=afW.ok.1;unfold nl at ok;rw[eu,eu,eu,aM k]at ok;have h1:=DS ok;refine AL b hi afW hp (y:={s.fr f with J:=ci.A.toNat}) (t2:={t with J:=ci.A}) ?_ ?_ ⟨afW.t.fn,by show ci.A=((ci.A.toNat:Nat):Int);omega,afW.t.par,afW.t.slot,afW.t.bt,afW.t.k8,afW.t.bw⟩
 ·unfold wY;simp only;rw[eu,eu,eu,aM k,Pr b hi afW hp]
 ·rw[th b hi afW hp];unfold Am.instr;simp only[afW.hh,nQ];rw[afW.code];unfold mU;rw[eu,eu,eu,aM k]
theorem acB(k:ci.aP=4):jE C p sz n M (Am.aC C s i d) (wY S M i D f ci t):=by
 have ok:=afW.ok.1;unfold nl at ok;rw[eu,eu,eu,eu,aM k,mE]at ok;obtain⟨r1,r2⟩:=zb b hi afW hp ok.1;have h1:=DS ok.2;by_cases e:(s.fr f).bw ci.A.toNat=0
 ·refine AL b hi afW hp (y:={s.fr f with J:=(s.fr f).J+1}) (t2:=t) ?_ ?_ afW.t
  ·unfold wY;simp only;rw[eu,eu,eu,eu,aM k,aM r1,aM (by rw[afW.t.bw _ r2];exact e)]
  ·rw[th b hi afW hp];unfold Am.instr;simp only[afW.hh,nQ];rw[afW.code];unfold mU;rw[eu,eu,eu,eu,aM k];simp only;rw[bZ (by simpa using e)]
 ·refine AL b hi afW hp (y:={s.fr f with J:=ci.B.toNat}) (t2:={t with J:=ci.B}) ?_ ?_ ⟨afW.t.fn,by show ci.B=((ci.B.toNat:Nat):Int);omega,afW.t.par,afW.t.slot,afW.t.bt,afW.t.k8,afW.t.bw⟩
  ·unfold wY;simp only;rw[eu,eu,eu,eu,aM k,aM r1,bZ (by rw[afW.t.bw _ r2];exact e),Pr b hi afW hp]
  ·rw[th b hi afW hp];unfold Am.instr;simp only[afW.hh,nQ];rw[afW.code];unfold mU;rw[eu,eu,eu,eu,aM k];simp only;rw[aM e]
theorem acC(k:ci.aP=8):jE C p sz n M (Am.aC C s i d) (wY S M i D f ci t):=by
 have ok:=afW.ok.1;unfold nl at ok;rw[aM (.inr (.inl k))]at ok;obtain⟨r1,r2⟩:=zb b hi afW hp ok;refine AL b hi afW hp (t2:={t with bw:=mB 16 t.bw ci.A.toNat t.k8}) ?_ ?_ (afW.t.Ln _)
 ·unfold wY;simp only;rw[eu,eu,eu,eu,eu,aM k,aM r1,Pr b hi afW hp]
 ·rw[th b hi afW hp];unfold Am.instr;simp only[afW.hh,nQ];rw[afW.code];unfold mU;rw[eu,eu,eu,eu,eu,eu,eu,eu,aM k,afW.t.k8]
theorem UU:GX.J (S.aJ.set f t) f=t:=by
 have h:=b.jX.tl;have hF:=afW.hF;rw[qU I,aM rfl]
theorem acD:bM (f:Int) (S.aJ.set f t).length:=by rw[gV];exact b.task afW.hn
theorem acE(k:ci.aP=7):jE C p sz n M (Am.aC C s i d) (wY S M i D f ci t):=by
 obtain⟨w1,w2,w3⟩:=b.jX.wk i hi;rw[hp]at w3;have ok:=afW.ok.1;unfold nl at ok;rw[eu,eu,eu,eu,eu,eu,eu,aM k,mE]at ok;obtain⟨r1,r2⟩:=zb b hi afW hp ok.1;have h1:=DS ok.2;have s8:=afW.GO.s8;obtain⟨B,hB⟩ :∃B:Nat,ci.B=B:=⟨ci.B.toNat,I⟩;have hB8:B<8:=by omega
 have hs:=Xh b.ar b.z b.cN afW.hF hB8;have h:=yd (T:=S.aJ.set f t) b hi (a:={act S i with dB:=jZ C 5 f B 0}) hs (LC rfl rfl);have hst:Am.aC C s i d=⟨s.lay f {s.fr f with J:=(s.fr f).J+1,bw:=Am.bJ (s.fr f).bw ci.A.toNat (s.mem (.slot f B))},none,Am.qX (.slot f B) (s.mem (.slot f B))⟩:=by
  rw[th b hi afW hp];unfold Am.instr;simp only[afW.hh,nQ];rw[afW.code];unfold mU;rw[eu,eu,eu,eu,eu,eu,eu,aM k,hB,cL]
 rw[hst];refine jE.Xm (M':=nt M M.cell 0 (Am.cB C s (.slot f B)) (s.mem (.slot f B)) 0 true) (T:=S.aJ.set f {t with bw:=mB 16 t.bw ci.A.toNat (s.mem (.slot f B))}) (a:={act S i with dB:={jZ C 5 f B 0 with az:=0,fh:=15,mC:=s.mem (.slot f B)}}) (x:=S.value) (l:=S.left) (q:=.run) b hi ?_ w1 w2 (by show s.pc=_;rw[<-hp,Am.rL]) w3 (b.ar.same (s':=s.lay f {s.fr f with J:=(s.fr f).J+1,bw:=Am.bJ (s.fr f).bw ci.A.toNat (s.mem (.slot f B))}) rfl rfl rfl rfl _ _ _ _ _) (Lg.nt rfl) trivial (by rw[gV];exact b.jX.tl) (DW b afW.hn (afW.t.Ln _)) b.jX.left b.jX.val;unfold wY vh;simp only;rw[eu,eu,eu,eu,eu,eu,aM k,R6 b hi,hB,Po b.ok afW.hF hB8,aq,aq,h,gu,aM rfl];rw[aM (by exact acD b hi afW hp),aM r1];rw[show(gE (lp S (S.aJ.set f t)) i _).aJ=S.aJ.set f t from rfl,UU b hi afW hp,Pr b hi afW hp];rfl
theorem acF(k:ci.aP=6):jE C p sz n M (Am.aC C s i d) (wY S M i D f ci t):=by
 obtain⟨w1,w2,w3⟩:=b.jX.wk i hi;have afr:=b.fi.jn f afW.hn;have hl:s.loc f= .uz i∨s.loc f= .held i:=(b.fi.hold i f hi afW.hh).elim (λa=>.inl a.2) (λa=>.inr a.2);have hjn:0<=s.mem (.join f)-1:=by
  have hg:(Am.view s).g i= .run:=by show Am.sig (s.pc i)=_;rw[hp];rfl
  rcases b.fi.hold i f hi afW.hh with h | h
  ·rw[hg]at h;exact absurd h.1 (by simp)
  ·rw[h.2]at afr;change s.mem (.join f)=1+(((s.bt f).length:Nat):Int)at afr;omega
 have hs:=Xg b.ar b.z b.cN afW.hF (b.Nr rfl);have hst:Am.aC C s i d=(if 0<s.mem (.join f)-1 then⟨((((s.wr (.join f) (s.mem (.join f)-1)).lay f {s.fr f with J:=(s.fr f).J+1}).holds i none).to i .Bw).put f .waiting,Am.ev 4 f 0 0,Am.CY (.join f) (-1) (s.mem (.join f)-1)⟩
  else ⟨((((s.wr (.join f) (s.mem (.join f)-1)).lay f {s.fr f with J:=(s.fr f).J+1}).to i .nP).put f (.uz i)),none,Am.CY (.join f) (-1) (s.mem (.join f)-1)⟩):=by
  rw[th b hi afW hp];unfold Am.instr;simp only[afW.hh,nQ];rw[afW.code];unfold mU;rw[eu,eu,eu,eu,eu,eu,aM k]
 have hr:wY S M i D f ci t=cY (gE (lp S (S.aJ.set f t)) i {act S i with dB:=jZ C 3 f 0 0,aK:=5}) M (i:Int) D:=by
  unfold wY wH;simp only;rw[eu,eu,eu,eu,eu,eu,eu,eu,aM k,R6 b hi,GV b.ok afW.hF,aq,aq,iP];show ql (cY (gE (lp S (S.aJ.set f t)) i {act S i with dB:=jZ C 3 f 0 0,aK:=5}) M (i:Int) D) _=_;cases cY (gE (lp S (S.aJ.set f t)) i {act S i with dB:=jZ C 3 f 0 0,aK:=5}) M (i:Int) D<;>rfl
 rw[hr,hst];by_cases h0:0<s.mem (.join f)-1
 ·rw[aM h0];rw[eu]at hs;refine jE.Xm (T:=S.aJ.set f t) (x:=S.value) (l:=S.left) (q:=.Bw) b hi (R9 b hi (a:={act S i with dB:=jZ C 3 f 0 0,aK:=5}) w1 hs rfl rfl rfl afW.fr) w1 (by show(-1:Int)=fi (Am.bJ s.hold i none i);rw[Am.aF];rfl) rfl ⟨rfl,⟨rfl,rfl,rfl,rfl⟩,rfl,rfl⟩ (b.Bx (c:=.join f) rfl (by rw[hp];rfl) afW.hF _ _ _ _ _) (Lg.nt rfl) (by show(4:Nat)≠0;decide) (by rw[gV];exact b.jX.tl) (DW b afW.hn afW.t) b.jX.left b.jX.val (hh:=λj hj=>Am.aA hj)
 ·rw[bZ h0];rw[sR]at hs;refine jE.Xm (T:=S.aJ.set f t) (x:=S.value) (l:=S.left) (q:=.nP) b hi (UR b hi (a:={act S i with dB:=jZ C 3 f 0 0,aK:=5}) hs rfl (by show(2:Int)>0;decide)) w1 w2 rfl ⟨rfl,rfl,rfl,?_,rfl,rfl⟩ (b.Bx (c:=.join f) rfl (by rw[hp];rfl) afW.hF _ _ _ _ _) (Lg.nt rfl) trivial (by rw[gV];exact b.jX.tl) (DW b afW.hn afW.t) b.jX.left b.jX.val;show(f:Int)=(((act S i).ax.toNat:Nat):Int);rw[afW.fr];rfl
end
def aad(C:Am.jt)(i:Nat):bQ:=⟨2+10*(C.F:Int),C.N,i,4,10,1,0,0,0,List.replicate 64 ⟨0,0⟩,⟨0,0,0,0,0,0,0,0,0,0,0,0,0,false,0,0⟩⟩
section
variable {K:Nat}{C:Am.jt}{p:aH}{s:Am.St}{S:af}{M M':ag}{sz n i f:Nat}{D:aV}{d:Int}{T:List aU}{a:bE}{ci:cG}{t:aU}
theorem Sb(b:zj C p s S M sz n)(hi:i<C.N):tc (⟨S.fo,S.cH⟩:fc) (i:Int)=some (aad C i):=by
 have h1:=b.ok.n1;have h2:=b.ok.n64;unfold tc nh pD cy bK;rw[b.jX.lb,b.jX.lw];simp only;rw[eu,eu,aq,eO (x:=2+(C.N:Int)) I,sR,sR,tJ I,aq,aM rfl];rfl
variable (b:zj C p s S M sz n)(hi:i<C.N)(afW:ZQ p C s S i f ci t)(hp:s.pc i= .run)
include b hi afW hp
theorem NL:bM (act S i).ax (S.aJ.set f t).length:=by rw[afW.fr];exact acD b hi afW hp
theorem acG(k:ci.aP=9):jE C p sz n M (Am.aC C s i d) (wY S M i D f ci t):=by
 obtain⟨w1,w2,w3⟩:=b.jX.wk i hi;have ok:=afW.ok.1;unfold nl at ok;rw[aM (.inr (.inr k))]at ok;obtain⟨r1,r2⟩:=zb b hi afW hp ok;obtain⟨v,hv⟩ :∃v,v=(s.fr f).bw ci.A.toNat:=⟨_,rfl⟩;have hst:Am.aC C s i d=(if f=0 then⟨{((((s.lay f {s.fr f with J:=(s.fr f).J+1}).wr .result v).holds i none).to i .done).put 0 (.fin i)with val:=some v},Am.ev 6 0 (-1) v,Am.tR .result v⟩
  else ⟨((((s.lay f {s.fr f with J:=(s.fr f).J+1}).wr (.slot (s.fr f).par (s.fr f).slot) v).holds i none).to i (.out (s.fr f).par f)).put f (.fin i),Am.ev 6 f (s.fr f).par v,Am.tR (.slot (s.fr f).par (s.fr f).slot) v⟩):=by
  rw[th b hi afW hp];unfold Am.instr;simp only[afW.hh,nQ];rw[afW.code];unfold mU;rw[eu,eu,eu,eu,eu,eu,eu,eu,eu,hv]
 have hin:=NL b hi afW hp;have hgt:GX.J (S.aJ.set f t) (act S i).ax.toNat=t:=by rw[afW.fr,cL];exact UU b hi afW hp
 have hr:wY S M i D f ci t=lY (lp S (S.aJ.set f t)) M (i:Int) v:=by
  unfold wY;simp only;rw[eu,eu,eu,eu,eu,eu,eu,eu,eu,aM r1,afW.t.bw _ r2,hv];cases lY (lp S (S.aJ.set f t)) M (i:Int) _<;>rfl
 rw[hr];unfold lY dY jT qK an;rw[cL,aM (by exact hin),ju,aM (by exact hin),hst];by_cases h0:f=0
 ·rw[aM h0,aM (by show(act S i).ax=0;rw[afW.fr,h0];rfl)];have aeO:=v9 b.ar b.z b.cN (a:=.result) trivial v;have acH:dP M (lp S (S.aJ.set f t)).result v=some (0,nt M (M.cell.set (Am.cB C s .result).toNat v) 1 (Am.cB C s .result) v 0 true):=by rw[show(lp S (S.aJ.set f t)).result=Am.cB C s .result from b.jX.res];exact aeO
  rw[acH,eF,aM rfl];have hfi:tc (⟨(lp S (S.aJ.set f t)).fo,(lp S (S.aJ.set f t)).cH⟩:fc) (J (lp S (S.aJ.set f t)).aj i).bx=some (aad C i):=by
   show tc (⟨S.fo,S.cH⟩:fc) (act S i).bx=_;rw[show(act S i).bx=i from w1];exact Sb b hi
  rw[hfi,aq];refine jE.Xm (T:=S.aJ.set f t) (a:={act S i with cF:=aad C i,ax:=-1,aK:=7}) (x:=v) (l:=true) (q:=.done) b hi ?_ w1 (by show(-1:Int)=fi (Am.bJ s.hold i none i);rw[Am.aF];rfl) rfl ⟨rfl,rfl,rfl,rfl,rfl,rfl,rfl⟩ (b.Bx (c:=.result) rfl (by rw[hp];rfl) trivial _ _ _ _ _) (Lg.nt rfl) (by show(6:Nat)≠0;decide) (by rw[gV];exact b.jX.tl) (DW b afW.hn afW.t) rfl rfl (hh:=λj hj=>Am.aA hj);show some ((⟨0,0,6,0,-1,v⟩:aB),({S with aJ:=S.aJ.set f t,aj:=((S.aj.set i _).set i _).set i _,value:=v,left:=true}:af),_)=_;rw[iP,iP];rfl
 ·rw[bZ h0,bZ (by show ¬(act S i).ax=0;rw[afW.fr];omega)];have hfr:=b.fr f afW.hn;have Ps:(s.fr f).par<s.nf:=b.fi.pr f afW.hn;have hpF:(s.fr f).par<C.F:=Nat.lt_of_lt_of_le Ps b.fi.xC;have hs:=aab b.ar b.z b.cN hpF hfr.2.1 v;have htb:=yd (T:=S.aJ.set f t) b hi (a:={act S i with dB:=jZ C 2 (s.fr f).par (s.fr f).slot v}) hs (UN rfl (by show(2:Int)>0;decide));have hbg:uo (⟨(lp S (S.aJ.set f t)).dx,(lp S (S.aJ.set f t)).cJ⟩:bj) (J (lp S (S.aJ.set f t)).aJ (J (lp S (S.aJ.set f t)).aj i).ax.toNat).parent (J (lp S (S.aJ.set f t)).aJ (J (lp S (S.aJ.set f t)).aj i).ax.toNat).slot v=some (jZ C 2 (s.fr f).par (s.fr f).slot v):=by
   have aeP:J (lp S (S.aJ.set f t)).aJ (J (lp S (S.aJ.set f t)).aj i).ax.toNat=t:=hgt;rw[aeP,afW.t.par,afW.t.slot,bZ h0];unfold uo;rw[show(⟨(lp S (S.aJ.set f t)).dx,(lp S (S.aJ.set f t)).cJ⟩:bj)=⟨1,C.F⟩from(show(⟨S.dx,S.cJ⟩:bj)=⟨1,C.F⟩from R6 b hi),Po b.ok hpF hfr.2.1,aq]
  rw[hbg,aq];rw[show({lp S (S.aJ.set f t)with aj:=(lp S (S.aJ.set f t)).aj.set i {J (lp S (S.aJ.set f t)).aj i with dB:=jZ C 2 (s.fr f).par (s.fr f).slot v}}:af)=gE (lp S (S.aJ.set f t)) i {act S i with dB:=jZ C 2 (s.fr f).par (s.fr f).slot v}from rfl,htb,gu,aM rfl,aM (UQ b hi)];rw[show J (gE (lp S (S.aJ.set f t)) i {act S i with dB:={jZ C 2 (s.fr f).par (s.fr f).slot v with az:=2}}).aj i={act S i with dB:={jZ C 2 (s.fr f).par (s.fr f).slot v with az:=2}}from oa (b.wl hi)];refine jE.Xm (T:=S.aJ.set f t) (a:={act S i with dB:={jZ C 2 (s.fr f).par (s.fr f).slot v with az:=2},ax:=-1,done:=(act S i).ax,aK:=6}) (x:=S.value) (l:=S.left) (q:=.out (s.fr f).par f) b hi ?_ w1 (by show(-1:Int)=fi (Am.bJ s.hold i none i);rw[Am.aF];rfl) rfl ⟨rfl,afW.fr,rfl,rfl,rfl,rfl,rfl⟩ (b.Bx (c:=.slot (s.fr f).par (s.fr f).slot) rfl (by rw[hp];rfl) ⟨hpF,hfr.2.1⟩ _ _ _ _ _) (Lg.nt rfl) (by show(6:Nat)≠0;decide) (by rw[gV];exact b.jX.tl) (DW b afW.hn afW.t) b.jX.left b.jX.val (hh:=λj hj=>Am.aA hj);show some ((⟨0,0,6,(act S i).ax,(GX.J (S.aJ.set f t) (act S i).ax.toNat).parent,v⟩:aB),({S with aJ:=S.aJ.set f t,aj:=(((S.aj.set i _).set i _).set i _).set i _}:af),_)=_;rw[iP,iP,iP];refine nu some (BJ ?_ rfl);show(⟨0,0,6,(act S i).ax,(GX.J (S.aJ.set f t) (act S i).ax.toNat).parent,v⟩:aB)=_;rw[hgt,afW.t.par,afW.fr,bZ h0];rfl
def QM(L:List aU)(k:Nat):List aU:=L.set k {GX.J L k with bt:=wi ((GX.J L k).bt+1)}
def DX(ci:cG)(f:Nat)(pd:Int):aU:=⟨ci.B,0,(f:Int),ci.A,0,pd,List.replicate 16 (0:Int)⟩
theorem NM{A B Cc:Nat}{Gx:aU}(hk:RN (Am.kD C (s.fr f) f A B Cc) s.nf Gx)(hlt:s.nf<C.F){L:List aU}(hL:L=(S.aJ.set f t).set s.nf Gx) :
 ∀g,g<s.nf+1->RN (Am.bJ (Am.bJ (Am.bJ s.fr f {s.fr f with J:=(s.fr f).J+1}) f {s.fr f with J:=(s.fr f).J+1,bt:=(s.fr f).bt+1}) s.nf (Am.kD C (s.fr f) f A B Cc) g) g (GX.J (L.set f {GX.J L f with bt:=wi ((GX.J L f).bt+1)}) g):=λg hg=>by
 subst hL;have hl:=b.jX.tl;have hne:f≠s.nf:=Nat.ne_of_lt afW.hn;have hF:=afW.hF;have hkb:=b.bd.k f;have hbn:=b.n;have e1:GX.J ((S.aJ.set f t).set s.nf Gx) f=t:=by rw[qU (by rw[gV];omega),bZ hne];exact UU b hi afW hp
 rw[e1,qU (by rw[gV,gV];omega),Am.cA];by_cases e:g=s.nf
 ·rw[aM e,eu,qU (by rw[gV];omega),aM e,e];exact hk
 ·rw[bZ e,Am.cA];by_cases e2:g=f
  ·rw[aM e2,aM e2,e2];exact⟨afW.t.fn,afW.t.J,afW.t.par,afW.t.slot,by show wi (t.bt+1)=(((s.fr f).bt+1:Nat):Int);rw[show t.bt=((s.fr f).bt:Int)from afW.t.bt,eO I];rfl,afW.t.k8,afW.t.bw⟩
  ·rw[bZ e2,bZ e2,Am.aA e2,qU (by rw[gV];omega),bZ e,qU I,bZ e2];exact b.jX.tk g I
theorem acI(k:ci.aP=5):jE C p sz n M (Am.aC C s i d) (wY S M i D f ci t):=by
 obtain⟨w1,w2,w3⟩:=b.jX.wk i hi;have ok:=afW.ok.1;have cl:=afW.ok.2;unfold nl at ok;rw[eu,eu,eu,eu,eu,aM k]at ok;unfold vY at cl;rw[aM k,mE,BH,BI,mE,BI,BI]at cl;have hA:=DS ok;have hB:=DS cl.1;have s8:=afW.GO.s8;have r16:=afW.GO.r16;have hPs:=b.vd.GO ci.B.toNat I;have O:=hPs.O;have p8:=hPs.p8;obtain⟨P,hP⟩ :∃P:Nat,(GX.J p.ah ci.B.toNat).aS=P:=⟨(GX.J p.ah ci.B.toNat).aS.toNat,I⟩;have hcp:C.params ci.B.toNat=P:=by rw[b.cf];show(GX.J p.ah ci.B.toNat).aS.toNat=P;omega
 have hpd:C.pd (s.fr f).k8 (s.fr f).bt=wi (wi (wi ((s.fr f).k8*1000003)+((s.fr f).bt:Int))+1):=by rw[b.cf];rfl
 have hkb:=b.bd.k f;have hbn:=b.n;obtain⟨pd,acJ⟩ :∃pd,pd=C.pd (s.fr f).k8 (s.fr f).bt:=⟨_,rfl⟩;have aeQ:0<=s.mem .next/\s.mem .next<=1000000000000:=by
  have h2:=b.Nr (a:=.next) rfl;have h1:s.mem .next=s.nf∨(s.nf=C.F/\(C.F:Int)<=s.mem .next):=b.fi.nx;omega
 have hst:Am.aC C s i d=(if(C.F:Int)<=s.mem .next+1-1 then⟨{((s.wr .next (s.mem .next+1)).lay f {s.fr f with J:=(s.fr f).J+1})with Ld:=true}.to i .full,Am.ev 11 (-1) 0 0,Am.CY .next 1 (s.mem .next+1)⟩
  else ⟨{((((s.wr .next (s.mem .next+1)).lay f {s.fr f with J:=(s.fr f).J+1}).lay f {s.fr f with J:=(s.fr f).J+1,bt:=(s.fr f).bt+1}).lay s.nf (Am.kD C (s.fr f) f ci.A.toNat ci.B.toNat ci.C.toNat))with nf:=s.nf+1}.put s.nf (.bW i) |>.to i (.fork s.nf),none,Am.CY .next 1 (s.mem .next+1)⟩):=by
  rw[th b hi afW hp];unfold Am.instr;simp only[afW.hh,nQ];rw[afW.code];unfold mU;rw[eu,eu,eu,eu,eu,aM k];rfl
 have hr:wY S M i D f ci t=lX (lp S (S.aJ.set f t)) M (i:Int) ci:=by
  unfold wY;simp only;rw[eu,eu,eu,eu,eu,eu,eu,aM k];cases lX (lp S (S.aJ.set f t)) M (i:Int) _<;>rfl
 have hs:=Xi b.ar b.z b.cN aeQ;have hTl:(S.aJ.set f t).length=C.F:=by rw[gV];exact b.jX.tl
 have F0:0<C.F:=by have:=b.ok.f1;omega
 rw[hr];unfold lX jT qK an;rw[show nO (⟨(lp S (S.aJ.set f t)).dx,(lp S (S.aJ.set f t)).cJ⟩:bj)=some (jZ C 0 0 0 0) by
  unfold nO;rw[show(⟨(lp S (S.aJ.set f t)).dx,(lp S (S.aJ.set f t)).cJ⟩:bj)=⟨1,C.F⟩from(show(⟨S.dx,S.cJ⟩:bj)=⟨1,C.F⟩from R6 b hi)];show eA (kU 0 (⟨1,C.F⟩:bj) ((0:Nat):Int) 0 0) _=_;rw[GV b.ok F0];rfl,aq]
 rw[show({lp S (S.aJ.set f t)with aj:=(lp S (S.aJ.set f t)).aj.set (i:Int).toNat {J (lp S (S.aJ.set f t)).aj (i:Int).toNat with dB:=jZ C 0 0 0 0}}:af)=gE (lp S (S.aJ.set f t)) i {act S i with dB:=jZ C 0 0 0 0}from rfl];by_cases h0:s.mem .next+1<=C.F
 ·rw[aM h0]at hs;have htb:=yd (T:=S.aJ.set f t) b hi (a:={act S i with dB:=jZ C 0 0 0 0}) hs (LC rfl rfl);have D7:s.mem .next=s.nf:=by
   have h1:s.mem .next=s.nf∨(s.nf=C.F/\(C.F:Int)<=s.mem .next):=b.fi.nx;rcases h1 with h | h
   ·exact h
   ·omega
  have hlt:s.nf<C.F:=by omega
  have GB:s.nf≠0:=by have:1<=s.nf:=b.fi.zQ;omega
  have hne:f≠s.nf:=Nat.ne_of_lt afW.hn;have hin:=NL b hi afW hp;have UF:bM (s.mem .next) (S.aJ.set f t).length:=by rw[D7,hTl];exact⟨I,I⟩
  have aeR:bM ci.B S.code.length:=by rw[b.jX.code];exact⟨I,I⟩
  have LD:(GX.J S.code ci.B.toNat).aS=P:=by rw[b.jX.code];exact hP
  have hgt:GX.J (S.aJ.set f t) (act S i).ax.toNat=t:=by rw[afW.fr,cL];exact UU b hi afW hp
  have XR:wi (wi (wi ((GX.J (S.aJ.set f t) (act S i).ax.toNat).k8*1000003)+(GX.J (S.aJ.set f t) (act S i).ax.toNat).bt)+1)=pd:=by
   rw[hgt,acJ,hpd,show t.k8=(s.fr f).k8 from afW.t.k8,show t.bt=((s.fr f).bt:Int)from afW.t.bt]
  have hkt:∀R:List Int,(∀r,r<16->GX.J R r=if r<P then(s.fr f).bw (ci.C.toNat+r)else 0)->RN (Am.kD C (s.fr f) f ci.A.toNat ci.B.toNat ci.C.toNat) s.nf {DX ci f pd with bw:=R}:=λR hR =>
   ⟨by show ci.B=((ci.B.toNat:Nat):Int);omega,rfl,by rw[bZ GB];rfl,by show ci.A=((ci.A.toNat:Nat):Int);omega,rfl,by show pd=C.pd (s.fr f).k8 (s.fr f).bt;exact acJ,λr hr=>by show GX.J R r=if r<C.params ci.B.toNat then(s.fr f).bw (ci.C.toNat+r)else 0;rw[hcp];exact hR r hr⟩
  unfold dY;rw[htb,gu,bZ (by show ¬(4:Int)=3;decide),aM (by rfl),aM (UQ b hi),wM b hi,cL];rw[aM (by exact hin),ju,aM (by exact hin),aM (by exact UF),ju,aM (by exact UF)];unfold Av;rw[aq,aM (by exact aeR)];have XO:((s.mem .next).toNat:Nat)=s.nf:=by rw[D7];rfl
  by_cases hP0:P=0
  ·rw[bZ (by show ¬(GX.J S.code ci.B.toNat).aS>0;rw[LD];omega),aq,aM (by rw[gV];exact hin),hst,eu];refine jE.Xm (T:=((S.aJ.set f t).set s.nf (DX ci f pd)).set f {GX.J ((S.aJ.set f t).set s.nf (DX ci f pd)) f with bt:=wi ((GX.J ((S.aJ.set f t).set s.nf (DX ci f pd)) f).bt+1)}) (a:={act S i with dB:={jZ C 0 0 0 0 with az:=0,fh:=4,mC:=s.mem .next},bW:=s.mem .next,aK:=2}) (x:=S.value) (l:=S.left) (q:=.fork s.nf) b hi ?_ w1 w2 rfl ⟨rfl,D7⟩ (b.Bx (c:=.next) rfl (by rw[hp];rfl) trivial _ _ _ _ _) (Lg.nt rfl) trivial (by rw[gV,gV];exact hTl) (NM b hi afW hp (hkt _ (λr hr=>by rw[eu];exact IB r)) hlt rfl) b.jX.left b.jX.val;refine nu some (BJ rfl (BJ ?_ rfl));have hX:QM ((S.aJ.set f t).set (s.mem .next).toNat (⟨ci.B,0,(act S i).ax,ci.A,0,wi (wi (wi ((GX.J (S.aJ.set f t) (act S i).ax.toNat).k8*1000003)+(GX.J (S.aJ.set f t) (act S i).ax.toNat).bt)+1),List.replicate 16 (0:Int)⟩:aU)) (act S i).ax.toNat=((S.aJ.set f t).set s.nf (DX ci f pd)).set f {GX.J ((S.aJ.set f t).set s.nf (DX ci f pd)) f with bt:=wi ((GX.J ((S.aJ.set f t).set s.nf (DX ci f pd)) f).bt+1)}:=by
    rw[XR,XO,afW.fr,cL];rfl
   show({S with aJ:=QM ((S.aJ.set f t).set (s.mem .next).toNat (⟨ci.B,0,(act S i).ax,ci.A,0,wi (wi (wi ((GX.J (S.aJ.set f t) (act S i).ax.toNat).k8*1000003)+(GX.J (S.aJ.set f t) (act S i).ax.toNat).bt)+1),List.replicate 16 (0:Int)⟩:aU)) (act S i).ax.toNat,aj:=((S.aj.set i _).set i _).set i _}:af)=_;rw[hX,iP,iP];rfl
  ·have hC:=cl.2.resolve_left (by rw[hP];omega);rw[hP]at hC;have hw:wi (ci.C+(P:Int))=ci.C+P:=eO I;have hw':wi (ci.C+(GX.J S.code ci.B.toNat).aS)=ci.C+P:=by rw[LD];exact hw
   rw[aM (by show(GX.J S.code ci.B.toNat).aS>0;rw[LD];omega),aM (by show 0<=ci.C/\ci.C<=wi (ci.C+(GX.J S.code ci.B.toNat).aS)/\wi (ci.C+(GX.J S.code ci.B.toNat).aS)<=16/\ci.C<16;rw[hw'];omega),aq,aM (by rw[gV,gV];exact hin),hst,eu];refine jE.Xm (T:=((S.aJ.set f t).set s.nf {DX ci f pd with bw:=Ej 16 (zC t.bw ci.C.toNat ((ci.C+(P:Int)).toNat-ci.C.toNat)) (List.replicate 16 (0:Int))}).set f {GX.J ((S.aJ.set f t).set s.nf {DX ci f pd with bw:=Ej 16 (zC t.bw ci.C.toNat ((ci.C+(P:Int)).toNat-ci.C.toNat)) (List.replicate 16 (0:Int))}) f with bt:=wi ((GX.J ((S.aJ.set f t).set s.nf {DX ci f pd with bw:=Ej 16 (zC t.bw ci.C.toNat ((ci.C+(P:Int)).toNat-ci.C.toNat)) (List.replicate 16 (0:Int))}) f).bt+1)}) (a:={act S i with dB:={jZ C 0 0 0 0 with az:=0,fh:=4,mC:=s.mem .next},bW:=s.mem .next,aK:=2}) (x:=S.value) (l:=S.left) (q:=.fork s.nf) b hi ?_ w1 w2 rfl ⟨rfl,D7⟩ (b.Bx (c:=.next) rfl (by rw[hp];rfl) trivial _ _ _ _ _) (Lg.nt rfl) trivial (by rw[gV,gV];exact hTl) (NM b hi afW hp (hkt _ (λr hr=>by
    have hm:(ci.C+(P:Int)).toNat-ci.C.toNat=P:=by omega
    rw[hm,Ym hr,Eo];by_cases e:r<P
    ·rw[aM e,aM e,Z9 e,afW.t.bw _ I]
    ·rw[bZ e,bZ e,IB])) hlt rfl) b.jX.left b.jX.val
   refine nu some (BJ rfl (BJ ?_ rfl));have e1:GX.J ((S.aJ.set f t).set s.nf (DX ci f pd)) f=t:=by rw[qU (by rw[hTl];omega),bZ hne];exact UU b hi afW hp
   have hX:QM (((S.aJ.set f t).set (s.mem .next).toNat (⟨ci.B,0,(act S i).ax,ci.A,0,wi (wi (wi ((GX.J (S.aJ.set f t) (act S i).ax.toNat).k8*1000003)+(GX.J (S.aJ.set f t) (act S i).ax.toNat).bt)+1),List.replicate 16 (0:Int)⟩:aU)).set (s.mem .next).toNat (⟨ci.B,0,(act S i).ax,ci.A,0,wi (wi (wi ((GX.J (S.aJ.set f t) (act S i).ax.toNat).k8*1000003)+(GX.J (S.aJ.set f t) (act S i).ax.toNat).bt)+1),Ej 16 (zC (GX.J ((S.aJ.set f t).set (s.mem .next).toNat (⟨ci.B,0,(act S i).ax,ci.A,0,wi (wi (wi ((GX.J (S.aJ.set f t) (act S i).ax.toNat).k8*1000003)+(GX.J (S.aJ.set f t) (act S i).ax.toNat).bt)+1),List.replicate 16 (0:Int)⟩:aU)) (act S i).ax.toNat).bw ci.C.toNat ((wi (ci.C+(GX.J S.code ci.B.toNat).aS)).toNat-ci.C.toNat)) (List.replicate 16 (0:Int))⟩:aU)) (act S i).ax.toNat=((S.aJ.set f t).set s.nf {DX ci f pd with bw:=Ej 16 (zC t.bw ci.C.toNat ((ci.C+(P:Int)).toNat-ci.C.toNat)) (List.replicate 16 (0:Int))}).set f {GX.J ((S.aJ.set f t).set s.nf {DX ci f pd with bw:=Ej 16 (zC t.bw ci.C.toNat ((ci.C+(P:Int)).toNat-ci.C.toNat)) (List.replicate 16 (0:Int))}) f with bt:=wi ((GX.J ((S.aJ.set f t).set s.nf {DX ci f pd with bw:=Ej 16 (zC t.bw ci.C.toNat ((ci.C+(P:Int)).toNat-ci.C.toNat)) (List.replicate 16 (0:Int))}) f).bt+1)}:=by
    rw[XR,XO,hw',afW.fr,cL,iP,show(⟨ci.B,0,(f:Int),ci.A,0,pd,List.replicate 16 (0:Int)⟩:aU)=DX ci f pd from rfl,e1];rfl
   show({S with aJ:=QM (((S.aJ.set f t).set (s.mem .next).toNat (⟨ci.B,0,(act S i).ax,ci.A,0,wi (wi (wi ((GX.J (S.aJ.set f t) (act S i).ax.toNat).k8*1000003)+(GX.J (S.aJ.set f t) (act S i).ax.toNat).bt)+1),List.replicate 16 (0:Int)⟩:aU)).set (s.mem .next).toNat (⟨ci.B,0,(act S i).ax,ci.A,0,wi (wi (wi ((GX.J (S.aJ.set f t) (act S i).ax.toNat).k8*1000003)+(GX.J (S.aJ.set f t) (act S i).ax.toNat).bt)+1),Ej 16 (zC (GX.J ((S.aJ.set f t).set (s.mem .next).toNat (⟨ci.B,0,(act S i).ax,ci.A,0,wi (wi (wi ((GX.J (S.aJ.set f t) (act S i).ax.toNat).k8*1000003)+(GX.J (S.aJ.set f t) (act S i).ax.toNat).bt)+1),List.replicate 16 (0:Int)⟩:aU)) (act S i).ax.toNat).bw ci.C.toNat ((wi (ci.C+(GX.J S.code ci.B.toNat).aS)).toNat-ci.C.toNat)) (List.replicate 16 (0:Int))⟩:aU)) (act S i).ax.toNat,aj:=((S.aj.set i _).set i _).set i _}:af)=_;rw[hX,iP,iP];rfl
 ·rw[bZ h0]at hs;have htb:=yd (T:=S.aJ.set f t) b hi (a:={act S i with dB:=jZ C 0 0 0 0}) hs (LC rfl rfl);rw[htb,gu,aM (by rfl),aM (UQ b hi),wM b hi,cL,hst,sR];refine jE.Xm (T:=S.aJ.set f t) (a:={act S i with dB:={jZ C 0 0 0 0 with az:=0,fh:=3,mC:=0},aK:=14}) (x:=S.value) (l:=S.left) (q:=.full) b hi ?_ w1 w2 rfl rfl (b.Bx (c:=.next) rfl (by rw[hp];rfl) trivial _ _ _ _ _) (Lg.nt rfl) (by show(11:Nat)≠0;decide) hTl (DW b afW.hn afW.t) b.jX.left b.jX.val;show some (_,({S with aJ:=S.aJ.set f t,aj:=(S.aj.set i _).set i _}:af),_)=_;rw[iP];rfl
end
def wrap(i:Nat)(D:aV)(r:aB)(S:af)(M:ag):Option (aB×Int×af×ag×aV):=if r.aP=0 then some (r,0,S,M,D)else some ({r with uR:=(i:Int)},0,S,M,D)
def UW(C:Am.jt)(p:aH)(sz n i:Nat)(M:ag)(D':aV)(o:Am.Out)(r:Option (aB×Int×af×ag×aV)):Prop:=
 ∃S' M',r=some (Ux i o.ev,0,S',M',D')/\WW C p o.s S'/\AR C o.s M' sz (n+1)/\Lg C o.s M M' o.acc
section
variable {K:Nat}{C:Am.jt}{p:aH}{s:Am.St}{S:af}{M:ag}{sz n i:Nat}{D:aV}{d:Int}
theorem QN{e:Option Am.Ev}(h:Uy e){S':af}{M':ag}:wrap i D (CZ e) S' M'=some (Ux i e,0,S',M',D):=by
 unfold wrap;cases e with
 | none=>rw[aM (show(CZ none).aP=0 from rfl)];rfl
 | some e=>rw[bZ (by show ¬((e.kind:Nat):Int)=0;have:e.kind≠0:=h;omega)];rfl
theorem jE.w{o:Am.Out}{r:Option (aB×af×ag)}{r':Option (aB×Int×af×ag×aV)}(h:jE C p sz n M o r)(hr:r'=ql r (wrap i D)):UW C p sz n i M D o r':=by
 obtain⟨S',M',rfl,h1,h2,h3,h4⟩:=h;exact⟨S',M',by rw[hr,dc,QN h4],h1,h2,h3⟩
theorem NI.w{D':aV}{o:Am.Out}{r:Option (aB×af×ag×aV)}{r':Option (aB×Int×af×ag×aV)}(h:NI C p sz n M D' o r)(hr:r'=II r (λe a c d=>wrap i d e a c)):UW C p sz n i M D' o r':=by
 obtain⟨S',M',rfl,h1,h2,h3,h4⟩:=h;exact⟨S',M',by rw[hr,gu,QN h4],h1,h2,h3⟩
variable (b:zj C p s S M sz n)(hi:i<C.N)
include b hi
theorem QO{k:Nat}(h:(act S i).aK=k)(hk:k<15):bM (GX.J S.aj i).aK So.length/\GX.J So (GX.J S.aj i).aK.toNat=GX.J So k:=by
 have h':(GX.J S.aj i).aK=k:=h;refine⟨by rw[h'];exact⟨I,by show(k:Int)<15;omega⟩,by rw[h',cL]⟩
theorem Yo{k:Nat}(h:(act S i).aK=k)(hk:k=13∨k=14):be K S M (i:Int) D=some (⟨0,0,0,0,0,0⟩,0,S,M,D):=by
 obtain⟨h1,h2⟩:=QO b hi h I;unfold be an;rw[fB,eu,bZ (by rw[b.jX.wl];omega),fB,aM (b.BE hi),cL,aM h1,h2,aM (by rcases hk with rfl | rfl<;>rfl)]
theorem Xo(h:(act S i).aK=0):be K S M (i:Int) D=ql (jB S M (i:Int) D) (wrap i D):=by
 obtain⟨h1,h2⟩:=QO b hi (k:=0) h dO;have h':(GX.J S.aj i).aK=0:=h;unfold be iT an;rw[fB,eu,bZ (by rw[b.jX.wl];omega),fB,aM (b.BE hi),cL,aM h1,h2,bZ dO,ju,aM h'];rfl
theorem acK(h:(act S i).aK=1):be K S M (i:Int) D=ql (kW S M (i:Int) D) (wrap i D):=by
 obtain⟨h1,h2⟩:=QO b hi (k:=1) h dO;have h':(GX.J S.aj i).aK=1:=h;unfold be iT an;rw[fB,eu,bZ (by rw[b.jX.wl];omega),fB,aM (b.BE hi),cL,aM h1,h2,bZ dO,ju,dD h',aM h'];rfl
theorem aae(h:(act S i).aK=2):be K S M (i:Int) D=ql (j7 S M (i:Int) D) (wrap i D):=by
 obtain⟨h1,h2⟩:=QO b hi (k:=2) h dO;have h':(GX.J S.aj i).aK=2:=h;unfold be iT an;rw[fB,eu,bZ (by rw[b.jX.wl];omega),fB,aM (b.BE hi),cL,aM h1,h2,bZ dO,ju,dD h',dD h',aM h'];rfl
theorem ye(h:(act S i).aK=3):be K S M (i:Int) D=ql (cz S M (i:Int) D) (wrap i D):=by
 obtain⟨h1,h2⟩:=QO b hi (k:=3) h dO;have h':(GX.J S.aj i).aK=3:=h;unfold be iT an;rw[fB,eu,bZ (by rw[b.jX.wl];omega),fB,aM (b.BE hi),cL,aM h1,h2,bZ dO,ju,dD h',dD h',dD h',aM h'];rfl
theorem Pu(h:(act S i).aK=4):be K S M (i:Int) D=ql (eG S M (i:Int) D) (wrap i D):=by
 obtain⟨h1,h2⟩:=QO b hi (k:=4) h dO;have h':(GX.J S.aj i).aK=4:=h;unfold be iT an;rw[fB,eu,bZ (by rw[b.jX.wl];omega),fB,aM (b.BE hi),cL,aM h1,h2,bZ dO,ju,dD h',dD h',dD h',dD h',aM h'];rfl
theorem aaf(h:(act S i).aK=5):be K S M (i:Int) D=ql (cY S M (i:Int) D) (wrap i D):=by
 obtain⟨h1,h2⟩:=QO b hi (k:=5) h dO;have h':(GX.J S.aj i).aK=5:=h;unfold be iT an;rw[fB,eu,bZ (by rw[b.jX.wl];omega),fB,aM (b.BE hi),cL,aM h1,h2,bZ dO,ju,dD h',dD h',dD h',dD h',dD h',aM h'];rfl
theorem NN(h:(act S i).aK=6):be K S M (i:Int) D=ql (eU S M (i:Int) D) (wrap i D):=by
 obtain⟨h1,h2⟩:=QO b hi (k:=6) h dO;have h':(GX.J S.aj i).aK=6:=h;unfold be iT an;rw[fB,eu,bZ (by rw[b.jX.wl];omega),fB,aM (b.BE hi),cL,aM h1,h2,bZ dO,ju,dD h',dD h',dD h',dD h',dD h',dD h',aM h'];rfl
theorem Pv(h:(act S i).aK=7):be K S M (i:Int) D=ql (fy S M (i:Int) D) (wrap i D):=by
 obtain⟨h1,h2⟩:=QO b hi (k:=7) h dO;have h':(GX.J S.aj i).aK=7:=h;unfold be iT an;rw[fB,eu,bZ (by rw[b.jX.wl];omega),fB,aM (b.BE hi),cL,aM h1,h2,bZ dO,ju,dD h',dD h',dD h',dD h',dD h',dD h',dD h',aM h'];rfl
theorem EY(h:(act S i).aK=8):be K S M (i:Int) D=ql (cK S M (i:Int) D) (wrap i D):=by
 obtain⟨h1,h2⟩:=QO b hi (k:=8) h dO;have h':(GX.J S.aj i).aK=8:=h;unfold be iT an;rw[fB,eu,bZ (by rw[b.jX.wl];omega),fB,aM (b.BE hi),cL,aM h1,h2,bZ dO,ju,dD h',dD h',dD h',dD h',dD h',dD h',dD h',dD h',aM h'];rfl
theorem UX(h:(act S i).aK=9):be K S M (i:Int) D=II (fV K S M (i:Int) D) (λe a c d=>wrap i d e a c):=by
 obtain⟨h1,h2⟩:=QO b hi (k:=9) h dO;have h':(GX.J S.aj i).aK=9:=h;unfold be iT an;rw[fB,eu,bZ (by rw[b.jX.wl];omega),fB,aM (b.BE hi),cL,aM h1,h2,bZ dO,ju,dD h',dD h',dD h',dD h',dD h',dD h',dD h',dD h',dD h',aM h'];rfl
theorem EZ(h:(act S i).aK=10):be K S M (i:Int) D=ql (cC S M (i:Int) D) (wrap i D):=by
 obtain⟨h1,h2⟩:=QO b hi (k:=10) h dO;have h':(GX.J S.aj i).aK=10:=h;unfold be iT an;rw[fB,eu,bZ (by rw[b.jX.wl];omega),fB,aM (b.BE hi),cL,aM h1,h2,bZ dO,ju,dD h',dD h',dD h',dD h',dD h',dD h',dD h',dD h',dD h',dD h',aM h'];rfl
theorem aag(h:(act S i).aK=11):be K S M (i:Int) D=ql (fz K S M (i:Int) D) (wrap i D):=by
 obtain⟨h1,h2⟩:=QO b hi (k:=11) h dO;have h':(GX.J S.aj i).aK=11:=h;unfold be iT an;rw[fB,eu,bZ (by rw[b.jX.wl];omega),fB,aM (b.BE hi),cL,aM h1,h2,bZ dO,ju,dD h',dD h',dD h',dD h',dD h',dD h',dD h',dD h',dD h',dD h',dD h',aM h'];rfl
theorem Cr(h:(act S i).aK=12):be K S M (i:Int) D=ql (bY S M (i:Int) D) (wrap i D):=by
 obtain⟨h1,h2⟩:=QO b hi (k:=12) h dO;have h':(GX.J S.aj i).aK=12:=h;unfold be iT an;rw[fB,eu,bZ (by rw[b.jX.wl];omega),fB,aM (b.BE hi),cL,aM h1,h2,bZ dO,ju,dD h',dD h',dD h',dD h',dD h',dD h',dD h',dD h',dD h',dD h',dD h',dD h',aM h'];rfl
def drawn(q:Am.Pc)(D:aV):aV:=match q with
 | .jQ=>I3 D
 | _=>D
theorem Pw(hK:100<K):UW C p sz n i M (drawn (s.pc i) D) (Am.aC C s i (BU D)) (be K S M (i:Int) D):=by
 obtain⟨w1,w2,w3⟩:=b.jX.wk i hi;cases hp:s.pc i with
 | halted =>
  rw[hp]at w3;rw[Yo b hi (k:=13) w3 (.inl rfl)];unfold Am.aC;rw[hp];exact⟨S,M,rfl,b.jX,b.ar.keep rfl rfl rfl rfl,Lg.none_⟩
 | full =>
  rw[hp]at w3;rw[Yo b hi (k:=14) w3 (.inr rfl)];unfold Am.aC;rw[hp];exact⟨S,M,rfl,b.jX,b.ar.keep rfl rfl rfl rfl,Lg.none_⟩
 | run =>
  rw[hp]at w3;obtain⟨f,ci,t,afW,hr⟩:=Xn (M:=M) (D:=D) b hi hp;have hd:=acK (K:=K) (D:=D) b hi w3;rw[hr]at hd;have hk:ci.aP=0∨ci.aP=1∨ci.aP=2∨ci.aP=3∨ci.aP=4∨ci.aP=5∨ci.aP=6∨ci.aP=7∨ci.aP=8∨ci.aP=9:=by have:=afW.kd;omega
  rcases hk with k | k | k | k | k | k | k | k | k | k
  ·exact(acw b hi afW hp k).w hd
  ·exact(acy b hi afW hp k).w hd
  ·exact(acz b hi afW hp k).w hd
  ·exact(acA b hi afW hp k).w hd
  ·exact(acB b hi afW hp k).w hd
  ·exact(acI b hi afW hp k).w hd
  ·exact(acF b hi afW hp k).w hd
  ·exact(acE b hi afW hp k).w hd
  ·exact(acC b hi afW hp k).w hd
  ·exact(acG b hi afW hp k).w hd
 | jQ =>
  rw[hp]at w3;exact(R5 b hi hp).w (UX b hi w3.1)
 | EL =>
  rw[hp]at w3;exact(Xc b hi hK hp).w (aag b hi w3.1)
 | flag =>
  rw[hp]at w3;rcases w3 with h | h
  ·exact(UM b hi hK hp h).w (UX b hi h.1)
  ·exact(Xd b hi hp h).w (Cr b hi h.1.1)
 | sleep =>
  rw[hp]at w3;exact(UJ b hi hp).w (Cr b hi w3.1.1)
 | vn =>
  rw[hp]at w3;exact(NH b hi hp).w (Cr b hi w3.1.1)
 | Dp j =>
  rw[hp]at w3;obtain⟨_,k,h,_⟩:=w3;exact(UK b hi hp).w (Cr b hi h.1)
 | Dq j t =>
  rw[hp]at w3;obtain⟨_,k,h,_⟩:=w3;exact(UL b hi hp).w (Cr b hi h.1)
 | parked =>
  rw[hp]at w3;obtain⟨_,k,h⟩:=w3;exact(R4 b hi hp).w (Cr b hi h.1)
 | back w =>
  rw[hp]at w3;obtain⟨_,k,h,_⟩:=w3;exact(Xe b hi hp).w (Cr b hi h.1)
 | v8 w =>
  rw[hp]at w3;obtain⟨_,k,h,_⟩:=w3;exact(Pn b hi hp).w (Cr b hi h.1)
 | start x =>
  rw[hp]at w3;exact(UP b hi hp).w (Xo b hi w3.1)
 | fork c =>
  rw[hp]at w3;exact(Xj b hi hp).w (aae b hi w3.1)
 | nP =>
  rw[hp]at w3;exact(Pq b hi hp).w (aaf b hi w3.1)
 | out pp c =>
  rw[hp]at w3;exact(aac b hi hp).w (NN b hi w3.1)
 | take pp c =>
  rw[hp]at w3;exact(Xl b hi hp).w (NN b hi w3.1)
 | done =>
  rw[hp]at w3;exact(W9 b hi hp).w (Pv b hi w3.1)
 | tell j =>
  rw[hp]at w3;exact(Xa b hi hp).w (Pv b hi w3.1)
 | xA j =>
  rw[hp]at w3;exact(Pk b hi hp).w (Pv b hi w3.1)
 | zP c =>
  rw[hp]at w3;exact(UB b hi hp).w (ye b hi w3.1)
 | yc c bb =>
  rw[hp]at w3;exact(UC b hi hp).w (ye b hi w3.1)
 | q9 c bb t =>
  rw[hp]at w3;exact(O8 b hi hp).w (ye b hi w3.1)
 | rf c bb t =>
  rw[hp]at w3;exact(O9 b hi hp).w (ye b hi w3.1)
 | grow c bb t cc =>
  rw[hp]at w3;exact(W3 b hi hp).w (ye b hi w3.1)
 | mS c bb t cc =>
  rw[hp]at w3;exact(Pb b hi hp).w (ye b hi w3.1)
 | kP c bb t cc m =>
  rw[hp]at w3;exact(Ny b hi hp).w (ye b hi w3.1)
 | j8 c bb t cc m x =>
  rw[hp]at w3;exact(Ly b hi hp).w (ye b hi w3.1)
 | mT c bb t cc =>
  rw[hp]at w3;exact(Pd b hi hp).w (ye b hi w3.1)
 | jV c bb cc =>
  rw[hp]at w3;exact(Nz b hi hp).w (ye b hi w3.1)
 | n7 c bb =>
  rw[hp]at w3;exact(Pf b hi hp).w (ye b hi w3.1)
 | DQ =>
  rw[hp]at w3;exact(W8 b hi hp).w (Pu b hi w3.1)
 | sW j =>
  rw[hp]at w3;exact(Ph b hi hp).w (Pu b hi w3.1)
 | vm j =>
  rw[hp]at w3;exact(Pj b hi hp).w (Pu b hi w3.1)
 | Bw =>
  rw[hp]at w3;exact(W5 b hi hp).w (EY b hi w3.1)
 | wV bb =>
  rw[hp]at w3;exact(RS b hi hp).w (EY b hi w3.1)
 | rJ bb =>
  rw[hp]at w3;exact(NA b hi hp).w (EY b hi w3.1)
 | AB bb =>
  rw[hp]at w3;exact(W6 b hi hp).w (EY b hi w3.1)
 | pM t =>
  rw[hp]at w3;exact(NB b hi hp).w (EY b hi w3.1)
 | tP bb t =>
  rw[hp]at w3;exact(RT b hi hp).w (EY b hi w3.1)
 | pS bb t cc =>
  rw[hp]at w3;exact(Pg b hi hp).w (EY b hi w3.1)
 | sP bb t x =>
  rw[hp]at w3;exact(RU b hi hp).w (EY b hi w3.1)
 | qa t x w =>
  rw[hp]at w3;exact(RV b hi hp).w (EY b hi w3.1)
 | vU v t =>
  rw[hp]at w3;exact(RX b hi hp).w (EZ b hi w3.1)
 | rK v t =>
  rw[hp]at w3;exact(NC b hi hp).w (EZ b hi w3.1)
 | qB v t g =>
  rw[hp]at w3;exact(ND b hi hp).w (EZ b hi w3.1)
 | n8 v t g cc =>
  rw[hp]at w3;exact(Lz b hi hp).w (EZ b hi w3.1)
 | ny v t x =>
  rw[hp]at w3;exact(NF b hi hp).w (EZ b hi w3.1)
theorem UY{S':af}{M':ag}(h1:WW C p (Am.aC C s i d).s S')(h2:AR C (Am.aC C s i d).s M' sz (n+1))(hn:n+1<=1000000000):zj C p (Am.aC C s i d).s S' M' sz (n+1):=
 ⟨b.ok,h1,h2,b.z.aC b.ok b.dt hi d,b.bd.aC d,b.dt.aC hi d,Am.FI.aC b.fi b.dt hi d,b.fr.aC b.ok b.fi b.dt hi d,hn,b.vd,b.cf,b.room⟩
end
section
variable {K:Nat}
def cq(f m:Nat):Nat->Nat
 | 0=>f
 | g+1=>min (2*cq f m g) m
def tq(f m:Nat):Nat->Nat
 | 0=>0
 | g+1=>tq f m g+1+cq f m (g+1)
theorem Yp{f m:Nat}(h:f<=m):∀g,cq f m g<=m
 | 0=>h
 | g+1=>by simp only[cq];omega
theorem Px{f m:Nat}(h1:1<=f)(h:f<=m):∀g,1<=cq f m g
 | 0=>h1
 | g+1=>by have:=Px h1 h g;simp only[cq];omega
theorem UZ{f m:Nat}(h1:1<=f)(hf:f<=m):∀(d g:Nat),m-cq f m g<=d->∃afV,g<=afV/\cq f m afV=m/\(∀x,g<=x->x<afV->cq f m x<m)/\tq f m g<=tq f m afV/\(cq f m g=m->afV=g)/\(2<=cq f m g->2*(tq f m afV-tq f m g)+5*cq f m g<=7*m)/\2*(tq f m afV-tq f m g)<=7*m
 | d,g,hd=>by
  have hl:=Yp hf g;have hp:=Px h1 hf g;by_cases e:cq f m g<m
  ·have hn:cq f m (g+1)=min (2*cq f m g) m:=rfl;have hT:tq f m (g+1)=tq f m g+1+cq f m (g+1):=rfl;obtain⟨d,rfl⟩ :∃n,d=n+1:=⟨d-1,I⟩;obtain⟨afV,a1,a2,a3,a4,a5,a6,a7⟩:=UZ h1 hf d (g+1) I;refine⟨afV,I,a2,λx hx hG => ?_,I,λh=>I,λh => ?_,?_⟩
   ·by_cases ex:x=g
    ·rw[ex];exact e
    ·exact a3 x I hG
   ·by_cases e2:cq f m (g+1)=m
    ·have:=a5 e2;subst this;omega
    ·have:=a6 I;omega
   ·by_cases e2:cq f m (g+1)=m
    ·have:=a5 e2;subst this;omega
    ·have:=a6 I;omega
  ·have e':cq f m g=m:=by omega
   exact⟨g,ja _,e',λx h1 h2=>I,ja _,λ_=>rfl,λh=>I,I⟩
theorem QS{f m afV:Nat}(hf:f<=m)(hm:m<=4096)(hG:cq f m afV=m)(hT:tq f m afV<=100000):∀(d g k:Nat) (z:Int),g+d=afV->d<k->(∀x,g<=x->x<afV->cq f m x<m)->0<=z->z+((tq f m afV-tq f m g:Nat):Int)<=1000000->tq f m g<=tq f m afV->
 ia K (m:Int) k z (cq f m g:Nat)=some (z+((tq f m afV-tq f m g:Nat):Int))
 | d,g,k,z,hd,hk,hx,hz,hz2,ht=>by
  obtain⟨k,rfl⟩ :∃n,k=n+1:=⟨k-1,I⟩;have hl:=Yp hf g;rw[ia];by_cases e:g=afV
  ·subst e;rw[hG,eu,Nat.sub_self];simp
  ·obtain⟨d,rfl⟩ :∃n,d=n+1:=⟨d-1,I⟩;have h1:=hx g (ja _) I;have hn:cq f m (g+1)=min (2*cq f m g) m:=rfl;have hT':tq f m (g+1)=tq f m g+1+cq f m (g+1):=rfl;have acL:∀y,g+1+y<=afV->tq f m (g+1)<=tq f m (g+1+y):=λy=>by
    induction y with
    | zero=>intro _;exact ja _
    | succ y ih=>intro h;have:=ih I;show _<=tq f m (g+1+y)+1+cq f m (g+1+y+1);omega
   have hle:tq f m (g+1)<=tq f m afV:=by have:=acL (afV-(g+1)) I;rwa [show g+1+(afV-(g+1))=afV by omega]at this
   have hc:(if(m:Int)<wi ((2:Int)*((cq f m g:Nat):Int))then(m:Int)else wi ((2:Int)*((cq f m g:Nat):Int)))=((cq f m (g+1):Nat):Int):=by
    rw[eO I];split<;>omega
   rw[sR,hc,eO (x:=z+1) I,eO (x:=z+1+_) I,
    QS hf hm hG hT d (g+1) k _ I I (λx h1 h2=>hx x I h2) I I hle]
   congr 1;omega
theorem QT{N F:Nat}{mz:eL}{f m:Nat}(hl:ZL mz.ck mz.dU mz.kB)(hF:mz.ck=F)(hf:mz.dU=f)(hm:mz.kB=m)(hN1:1<=N)(hN:N<=64)(hK:5000<K) :
 ∃afV,cq f m afV=m/\(∀x,x<afV->cq f m x<m)/\tq f m afV<=15000/\mL K (N:Int) mz=some ((4+10*F+N+N*(4+f+tq f m afV):Nat):Int)/\4+10*F+N+N*(4+f+tq f m afV)<=1048576:=by
 have f1:=hl.f1;have f2:=hl.f2;have a1:=hl.a1;have a2:=hl.a2;have m2:=hl.m2;obtain⟨afV,g1,g2,g3,g4,g5,g6,g7⟩:=UZ (f:=f) (m:=m) I I (m-cq f m 0) 0 (ja _);have h0:tq f m 0=0:=rfl;have h0':cq f m 0=f:=rfl;rw[h0']at g5 g6;rw[h0]at g6 g7;have hb:2*(4+f+tq f m afV)<=28690:=by
  by_cases e:2<=f
  ·have:=g6 e;omega
  ·omega
 refine⟨afV,g2,λx hx=>g3 x (xM _) hx,I,?_,?_⟩
 ·unfold mL js n4;have hGK:afV<K:=by
   have acL:∀x,x<=afV->x<=tq f m x:=λx=>by
    induction x with
    | zero=>intro _;exact ja _
    | succ y ih=>intro h;have:=ih I;show _<=tq f m y+1+cq f m (y+1);omega
   have h9:∀x,x<=afV->x<=cq f m x:=λx=>by
    induction x with
    | zero=>intro _;exact xM _
    | succ y ih =>
     intro h;have:=ih I;have:=g3 y (xM _) I;have:=Px (f:=f) (m:=m) I I y;show _<=min (2*cq f m y) m;omega
   have:=h9 afV (ja _);omega
  have e:=QS (K:=K) (f:=f) (m:=m) (afV:=afV) I I g2 I afV 0 K (4+(f:Int)) I hGK (λx h1 h2=>g3 x h1 h2) I I (by rw[h0];omega);rw[h0,h0',Nat.sub_zero]at e;rw[eu,eu,eu,eu,eu,eu,aq,bZ (by simp;omega),fB,hf,hm,eO (x:=4+(f:Int)) I,e,aq,hF,
   eO (x:=(F:Int)*10) I,eO (x:=(2:Int)+(F:Int)*10) I,eO (x:=(2:Int)+(F:Int)*10+2) I,eO (x:=(2:Int)+(F:Int)*10+2+(N:Int)) I]
  have hmul:(N:Int)*(4+(f:Int)+((tq f m afV:Nat):Int))=((N*(4+f+tq f m afV):Nat):Int):=by simp
  have hb2:N*(4+f+tq f m afV)<=64*14345:=Nat.mul_le_mul hN I;rw[hmul,eO (x:=((N*(4+f+tq f m afV):Nat):Int)) I,eO I]
  congr 1;omega
 ·have hb2:N*(4+f+tq f m afV)<=64*14345:=Nat.mul_le_mul hN I;omega
end
def init(C:Am.jt)(args:List Int):Am.St:=
 { mem:=λa=>match a with
    | .next=>1
    | .join _=>1
    | .buf i=>(Am.wW C i:Int)+3
    | .cap _ g=>if g=0 then(C.first:Int)else 0
    | _=>0
   pc:=λi=>if i=0 then .start (-1)else .jQ
   hold:=λi=>if i=0 then some 0 else none
   fW:=λ_=>0
   fr:=λf=>{fn:=0,J:=0,par:=0,slot:=0,bt:=0,k8:=if f=0 then 1 else 0,bw:=λr=>if f=0 then GX.J args r else 0}
   nf:=1
   cur:=λ_=>0
   base:=λj _=>(Am.wW C j:Int)+3
   size:=Am.S0 C
   val:=none
   Ld:=false
   loc:=λf=>if f=0 then .held 0 else .free
   q:=λ_=>[]
   pop:=λ_=>none
   bt:=λ_=>[]}
section
variable {C:Am.jt}{args:List Int}
theorem Xp(j:Nat):Am.lV ((init C args).pc j)=false:=by show Am.lV (if j=0 then _ else _)=false;split<;>rfl
theorem zU(j:Nat):Am.gen (init C args) j=0:=by unfold Am.gen;rw[Xp];rfl
theorem Xq(hC:C.OK):Am.SZ C (init C args) where
 cap:=λj hj g hg=>by
  have RB:g=0:=Nat.le_zero.1 hg;subst RB;rfl
 Ur:=λj hj=>rfl
 size:=by
  show(Am.S0 C:Int)=_;rw[Am.pP (g:=λ_=>0) (λj _=>by rw[zU];rfl)];have:∀n,Am.fU (λ_=>0) n=0:=λn=>by induction n with
   | zero=>rfl
   | succ n ih=>show Am.fU (λ_=>0) n+0=0;rw[ih]
  rw[this];simp
 bs:=λj hj g h1 h2=>by rw[zU]at h2;omega
 dj:=λj j' g g' _ _ h1 _ h2 _ _=>by rw[zU]at h2;omega
 gm:=λj hj g hg=>by rw[zU]at hg;omega
theorem Xr:Am.BD (init C args) 0 where
 m:=λa ha=>by cases a<;>first | exact Bool.noConfusion ha | exact⟨by show -_<=(1:Int);omega,by show(1:Int)<=_;omega⟩ | exact⟨by show -_<=(0:Int);omega,by show(0:Int)<=_;omega⟩
 r:=λi x hx=>by
  have:Am.gR ((init C args).pc i)=[]:=by show Am.gR (if i=0 then _ else _)=[];split<;>rfl
  rw[this]at hx;cases hx
 k:=λf=>ja _
theorem Xs(hC:C.OK):Am.DT C (init C args):=by
 refine⟨λj hj => ?_,λi hi => ?_⟩
 ·refine⟨xN _,λg hg => ?_,?_,rfl,λm hm=>absurd hm (Nat.not_lt_zero _),?_⟩
  ·have RB:g=0:=Nat.le_zero.1 hg;subst RB;have:=hC.c1;show(1:Int)<=(C.first:Int);omega
  ·have:=hC.cm;show(C.first:Int)<=C.most;omega
  ·refine(Am.pT.idle ?_).2 ⟨rfl,?_⟩
   ·show Am.Idle (if j=0 then _ else _);split<;>trivial
   ·show(0:Int)<=(C.first:Int);omega
 ·unfold Am.Th;by_cases e:i=0
  ·rw[show(init C args).pc i= .start (-1)from aM e];trivial
  ·rw[show(init C args).pc i= .jQ from bZ e];show C.N≠1;omega
theorem Xt(hC:C.OK):(Am.view (init C args)).FI C.N C.F:=by
 have hg:∀i,(Am.view (init C args)).g i=if i=0 then .start else .none:=λi=>by show Am.sig (if i=0 then _ else _)=_;split<;>rfl
 have hh:∀i,(Am.view (init C args)).hold i=if i=0 then some 0 else none:=λ_=>rfl;have hl:∀f,(Am.view (init C args)).loc f=if f=0 then .held 0 else .free:=λ_=>rfl;have hq:∀i,(Am.view (init C args)).q i=[]:=λ_=>rfl;have hk:∀i,(Am.view (init C args)).bt i=[]:=λ_=>rfl;have hpo:∀i,(Am.view (init C args)).pop i=none:=λ_=>rfl;have hj:∀f,(Am.view (init C args)).join f=1:=λ_=>rfl;have hm:∀f,(Am.view (init C args)).mark f=0:=λ_=>rfl;have hp:∀f,(Am.view (init C args)).par f=0:=λ_=>rfl;have hn:(Am.view (init C args)).nf=1:=rfl;have hx:(Am.view (init C args)).next=1:=rfl;have f1:=hC.f1;constructor
 ·omega
 ·omega
 ·left;rw[hx,hn];rfl
 ·intro f hf;rw[hl,eu]
 ·intro f hf;rw[hl,sR];simp
 ·intro f hf;rw[hk,hj];exact⟨rfl,rfl⟩
 ·intro i f hi h;rw[hh]at h;split at h
  ·next e=>cases h;right;rw[hg,aM e,hl,aM rfl,e];exact⟨by simp,rfl⟩
  ·cases h
 ·intro i hi h;rw[hg]at h;split at h
  ·next e=>rw[hh,aM e];simp
  ·cases h
 ·intro i hi h;rw[hg]at h;split at h
  ·cases h
  ·next e=>rw[hh,bZ e]
 ·intro i c hi h;rw[hg]at h;split at h<;>cases h
 ·intro i c hi h;rw[hg]at h;split at h<;>cases h
 ·intro j x hj h;rw[hq]at h;cases h
 ·intro j hj;rw[hq];exact List.nodup_nil
 ·intro i x hi h;rw[hpo]at h;cases h
 ·intro i pp c hi h;rw[hg]at h;split at h<;>cases h
 ·intro i pp c hi h;rw[hg]at h;split at h<;>cases h
 ·intro i pp c hi h;rw[hg]at h;split at h<;>cases h
 ·intro pp;rw[hk];exact List.nodup_nil
 ·intro pp c h;rw[hk]at h;cases h
 ·intro c h0 hc;omega
 ·intro c hc;rw[hp];omega
 ·intro f hf;rw[hl,sR,hj,hk];rfl
 ·intro f _;exact hm f
 ·intro i f _ _ _;exact hm f
theorem Xu(hC:C.OK):Am.FR C (init C args):=λf hf=>⟨hC.fn0,by show(0:Nat)<8;decide,λ_=>hC.ZV 0 hC.fn0⟩
theorem Xv{N F:Nat}{c:List Int}(hC:C.OK)(hN:C.N=N)(hF:C.F=F){afU:Nat}(hW:afU=4+C.first)(L:Iq N F afU (C.first:Int) c):Am.CL C (init C args) c:=by
 subst hN;subst hF;subst hW;have aeS:∀i,Am.wW C i=4+10*C.F+C.N+i*(4+C.first):=λ_=>rfl;refine⟨by show(c.length:Int)=(Am.S0 C:Int);rw[L.len];rfl,λa ha => ?_⟩;have key:∀k:Nat,Am.cB C (init C args) a=(k:Int)->c.getD (Am.cB C (init C args) a).toNat 0=GX.J c k:=λk hk=>by rw[hk];rfl
 have dq:=λi hi r hr=>L.dq i hi r hr;cases a with
 | result=>exact(key 0 rfl).trans L.c0
 | next=>exact(key 1 rfl).trans L.c1
 | join f=>exact(key (2+10*f+0) (by show(2:Int)+10*f=_;omega)).trans (L.fr f ha 0 I)
 | mark f=>exact(key (2+10*f+1) (by show(3:Int)+10*f=_;omega)).trans (L.fr f ha 1 I)
 | slot f k=>have h8:=ha.2;exact(key (2+10*f+(2+k)) (by show(4:Int)+10*f+k=_;omega)).trans ((L.fr f ha.1 (2+k) I).trans (bZ I))
 | tW=>exact(key (2+10*C.F+0) (by show(2:Int)+10*C.F=_;omega)).trans (L.lot 0 I)
 | E5=>exact(key (2+10*C.F+1) (by show(3:Int)+10*C.F=_;omega)).trans (L.lot 1 I)
 | flag i=>have hi:i<C.N:=ha;exact(key (2+10*C.F+(2+i)) (by show(4:Int)+10*C.F+i=_;omega)).trans (L.lot (2+i) I)
 | top i=>exact(key (4+10*C.F+C.N+i*(4+C.first)+0) rfl).trans (dq i ha 0 I)
 | bot i=>exact(key (4+10*C.F+C.N+i*(4+C.first)+1) rfl).trans (dq i ha 1 I)
 | buf i=>exact(key (4+10*C.F+C.N+i*(4+C.first)+2) rfl).trans (dq i ha 2 I)
 | cap i g =>
  have hg:g=0:=by have:=ha.2;rw[zU]at this;omega
  subst hg;exact(key (4+10*C.F+C.N+i*(4+C.first)+3) rfl).trans (dq i ha.1 3 I)
 | el i g m =>
  have hg:g=0:=by have:=ha.2.1;rw[zU]at this;omega
  subst hg;have hm:m<C.first:=ha.2.2;exact(key (4+10*C.F+C.N+i*(4+C.first)+(4+m)) (by show(Am.wW C i:Int)+3+1+m=_;rw[aeS];omega)).trans ((dq i ha.1 (4+m) I).trans (by rw[eu,eu];rfl))
end
theorem Py(C:Am.jt):∀g,Am.tG C g=cq C.first C.most g
 | 0=>rfl
 | g+1=>by show min (2*Am.tG C g) C.most=min (2*cq C.first C.most g) C.most;rw[Py C g]
theorem U0(C:Am.jt):∀g,Am.tot C g=tq C.first C.most g
 | 0=>rfl
 | g+1=>by show Am.tot C g+1+Am.tG C (g+1)=tq C.first C.most g+1+cq C.first C.most (g+1);rw[U0 C g,Py C (g+1)]
theorem U1{p:aH}{args:List Int}{N F f m sz afV:Nat}{c:List Int}{l:List bl}{w:Bool}(hv:Valid p)(ha:(args.length:Int)=(GX.J p.ah 0).aS)(Vw:1<=N)(hn:N<=64)(hf1:1<=F)(hf:F<=4096)(h1:1<=f)(ZZ:f<=m)(hm:m<=4096)
 (hG:cq f m afV=m) (hsz:sz=4+10*F+N+N*(4+f+tq f m afV)) (hs1:sz<=1048576) (L:Iq N F (4+f) (f:Int) c) (hl:l=[]) {x:Int}:zj (cfg p N F f m) p (init (cfg p N F f m) args) (ab3 p args N F (4+f) m) (ar sz c l x w) sz 0:=by
 have hC:=ZY (p:=p) (N:=N) (F:=F) (f:=f) (m:=m) hv Vw hn hf1 hf h1 ZZ hm;have hz:=Xq (args:=args) hC;have hroom:(sz:Int)=Am.S0 (cfg p N F f m)+(cfg p N F f m).N*Am.tot (cfg p N F f m) afV:=by
  rw[U0];show(sz:Int)=((4+10*F+N+N*(4+f):Nat):Int)+(N:Int)*(tq f m afV:Int);rw[hsz,show 4+f+tq f m afV=(4+f)+tq f m afV from rfl,Nat.mul_add];simp;omega
 have hcap:Am.tG (cfg p N F f m) afV=(cfg p N F f m).most:=by rw[Py];exact hG
 have hp8:=(hv.GO 0 hv.n1).p8;subst hl;refine⟨hC,?_,⟨rfl,hs1,Nx hz hroom hcap,rfl,Xv hC rfl rfl rfl L,ja _⟩,hz,Xr,Xs hC,Xt hC,Xu hC,I,hv,rfl,afV,hroom,hcap⟩;refine⟨rfl,rfl,rfl,rfl,rfl,rfl,?_,λv hvN => ?_,?_,λg hg => ?_,?_,λi hi => ?_,rfl,rfl⟩
 ·exact Qz N 0
 ·have h:=Ul (B:=4+10*F+N) (afU:=4+f) (most:=(m:Int)) N 0 v hvN;rw[Dv]at h;exact h
 ·show((List.replicate F Uo).set 0 _).length=F;rw[gV,nX]
 ·have RB:g=0:=by have:g<1:=hg;omega
  subst RB;show RN _ 0 (GX.J ((List.replicate F Uo).set 0 _) 0);rw[qU (by rw[nX];omega),aM rfl];refine⟨rfl,rfl,rfl,rfl,rfl,rfl,λr hr => ?_⟩;show GX.J (Ej 16 args (List.replicate 16 0)) r=GX.J args r;rw[Ym hr];split
  ·rfl
  ·next e=>rw[IB];unfold GX.J;rw[List.getD_eq_getElem?_getD,List.getElem?_eq_none I];rfl
 ·show((yY 0 N).set 0 _).length=N;rw[gV,AA]
 ·show aOK _ _ i (GX.J ((yY 0 N).set 0 _) i);have hiN:i<N:=hi;rw[qU (by rw[AA];omega)];by_cases e:i=0
  ·subst e;rw[aM rfl];exact⟨rfl,rfl,rfl,rfl⟩
  ·rw[bZ e,FF N 0 i hiN,Dv];refine⟨rfl,by show(-1:Int)=fi (if i=0 then some 0 else none);rw[bZ e];rfl,?_⟩;rw[show(init (cfg p N F f m) args).pc i= .jQ from bZ e];exact⟨rfl,rfl,by show(0:Nat)<3;decide⟩
section
variable {K:Nat}
theorem QU{x n:Int}(h1:1<=n)(h2:n<=1000) :∃i:Nat,iF x n=some (i:Int)/\(i:Int)<n:=by
 have e1:=BK x (b:=n) I;have e2:=C6 x (show 0<n by omega);have e4:x.tmod n=if 0<=x∨n∣x then x%n else x%n-n:=by
  rw[JV];split
  ·omega
  ·rw[show((n.natAbs:Nat):Int)=n by omega]
 refine⟨(x%n).toNat,?_,I⟩;rw[show(((x%n).toNat:Nat):Int)=x%n by omega];unfold iF;rw[sR,e4];by_cases h:0<=x∨n∣x
 ·rw[aM h,eu]
 ·rw[bZ h,sR,eO I];congr 1;omega
theorem U2(n:Int)(mz:eL)(hK:5000<K) :∃r:Int,mL K n mz=some r/\0<=r/\r<=1048576:=by
 by_cases h:1<=n/\n<=64/\ZL mz.ck mz.dU mz.kB
 ·obtain⟨h1,h2,hl⟩:=h;have f1:=hl.f1;have a1:=hl.a1;have a2:=hl.a2;obtain⟨afV,_,_,_,q4,q5⟩:=QT (K:=K) (N:=n.toNat) (F:=mz.ck.toNat) (mz:=mz) (f:=mz.dU.toNat) (m:=mz.kB.toNat) hl I I I I I hK;rw[show((n.toNat:Nat):Int)=n by omega]at q4;exact⟨_,q4,I,I⟩
 ·refine⟨0,?_,dO,dO⟩;unfold mL js;by_cases c1:n<1
  ·rw[aM c1,xl]
  ·rw[bZ c1];by_cases c2:n>64
   ·rw[aM c2,xl]
   ·rw[bZ c2];by_cases d1:mz.ck<1
    ·rw[aM d1,aq,aM rfl,xl]
    ·rw[bZ d1];by_cases d2:mz.ck>4096
     ·rw[aM d2,aq,aM rfl,xl]
     ·rw[bZ d2];by_cases d3:mz.dU<1
      ·rw[aM d3,aq,aM rfl,xl]
      ·rw[bZ d3];by_cases d4:mz.dU>mz.kB
       ·rw[aM d4,aq,aM rfl,xl]
       ·rw[bZ d4,aq,aM (tJ (by
         by_cases d5:mz.kB>4096
         ·exact d5
         ·exact absurd ⟨I,I,I,I,I,I,I⟩ h)),xl]
section
variable {C:Am.jt}{p:aH}{s:Am.St}{S:af}{M:ag}{sz n i:Nat}{D:aV}
theorem NO(h:WW C p s S){j:Nat}(hj:j<C.N):nG S M (j:Int)=some (fi (s.hold j)):=by
 unfold nG;rw[eu,bZ (by rw[h.wl];omega),aM ⟨I,by rw[h.wl];omega⟩,cL,(h.wk j hj).ax]
end
end
end Mo
end
section
namespace Am
structure OnG where
 st:Nat->Nat
 k8:Nat->Int
 bt:Nat->Nat
def acM(C:jt)(o:OnG)(e:Ev):Prop:=
 if e.kind=2 then o.st e.ax.toNat=0/\o.st e.x.toNat=2/\e.v=C.pd (o.k8 e.x.toNat) (o.bt e.x.toNat)/\e.ax.toNat≠e.x.toNat
 else if e.kind=1 then o.st e.ax.toNat=1/\e.v=1
 else if e.kind=6 then o.st e.ax.toNat=2
 else True
def acN(C:jt)(o:OnG)(e:Ev):OnG:=
 if e.kind=2 then⟨bJ o.st e.ax.toNat 1,bJ o.k8 e.ax.toNat (C.pd (o.k8 e.x.toNat) (o.bt e.x.toNat)),bJ o.bt e.x.toNat (o.bt e.x.toNat+1)⟩
 else if e.kind=1 then {o with st:=bJ o.st e.ax.toNat 2}
 else if e.kind=6 then {o with st:=bJ o.st e.ax.toNat 3}
 else o
def acO:Loc->Option Nat
 | .free | .bW _=>some 0
 | .Lc _ | .pop _=>some 1
 | .uz _ | .waiting | .sQ _=>some 2
 | .fin _ | .gone=>some 3
 | .held _=>none
def plain:WT->Bool
 | .fork _ | .push _ | .full=>false
 | _=>true
structure OI(C:jt)(w:afU)(o:OnG):Prop where
 a:∀f n,acO (w.v.loc f)=some n->o.st f=n
 h:∀i f,i<C.N->w.v.hold i=some f->o.st f=if w.v.g i= .start then 1 else 2
 p:∀f,f<w.v.nf->o.st f≠0->o.k8 f=w.k8 f
 k:∀f,f<w.v.nf->(∀i,i<C.N->w.v.hold i=some f->plain (w.v.g i)=true)->o.bt f=w.kc f
 fk:∀i c f,i<C.N->w.v.hold i=some f->w.v.g i= .fork c->w.kc f=o.bt f+1/\w.k8 c=C.pd (w.k8 f) (o.bt f)
 ps:∀i c f,i<C.N->w.v.hold i=some f->w.v.g i= .push c->w.kc f=o.bt f+1/\w.k8 c=C.pd (w.k8 f) (o.bt f)
 nw:∀f,w.v.nf<=f->o.bt f=0
attribute [grind =] cA
attribute [grind] acO plain
theorem aah{C:jt}{o:OnG}{e:Ev}:acM C o e=(if e.kind=2 then o.st e.ax.toNat=0/\o.st e.x.toNat=2/\e.v=C.pd (o.k8 e.x.toNat) (o.bt e.x.toNat)/\e.ax.toNat≠e.x.toNat
 else if e.kind=1 then o.st e.ax.toNat=1/\e.v=1
 else if e.kind=6 then o.st e.ax.toNat=2
 else True):=rfl
section
variable {C:jt}{w:afU}{i:Nat}{o:OnG}
theorem tj{v:V}{N F:Nat}(h:v.FI N F){i j f:Nat}(hi:i<N)(hj:j<N)(h1:v.hold i=some f)(h2:v.hold j=some f):i=j:=by
 have a:=h.hold i f hi h1;have b:=h.hold j f hj h2;grind
theorem tH{v:V}{N F:Nat}(h:v.FI N F){i f:Nat}(hi:i<N)(h1:v.hold i=some f):f<v.nf:=by
 have a:=h.hold i f hi h1;have b:=h.free f;grind
theorem OI.kf(q:OI C w o)(h:w.v.FI C.N C.F)(hi:i<C.N)(hg:w.v.g i= .run){f:Nat}(hf:w.v.hold i=some f):f<w.v.nf/\o.bt f=w.kc f:=
 ⟨tH h hi hf,q.k f (tH h hi hf) (λj hj hjf=>by rw[<-tj h hi hj hf hjf,hg];rfl)⟩
theorem OI.full(q:OI C w o)(h:w.v.FI C.N C.F)(hi:i<C.N){c:Nat}(hg:w.v.g i= .push c) :
 OI C {w with v:={w.v with g:=bJ w.v.g i .full}} o where
 a:=q.a
 h:=by have z0:=q.h;have z1:=q.a;have y0:=h.hold;grind
 p:=q.p
 k:=by have z0:=q.k;have z1:=q.a;have z2:=q.h;have y0:=h.hold;grind
 fk:=by have z0:=q.fk;have z1:=q.a;have z2:=q.h;have y0:=h.hold;grind
 ps:=by have z0:=q.ps;have z1:=q.a;have z2:=q.h;have y0:=h.hold;grind
 nw:=q.nw
theorem OI.start(q:OI C w o)(h:w.v.FI C.N C.F)(hi:i<C.N){f:Nat}(hg:w.v.g i= .start)(hf:w.v.hold i=some f){m:Int} :
 OI C {w with v:={w.v with g:=bJ w.v.g i .run,mark:=bJ w.v.mark f m},fx:=bJ w.fx i 0} {o with st:=bJ o.st f 2} where
 a:=by have z0:=q.a;have z1:=q.h;have y0:=h.hold;grind
 h:=by have z0:=q.h;have z1:=q.a;have y0:=h.hold;grind
 p:=by have z0:=q.p;have z1:=q.a;have z2:=q.h;have y0:=h.hold;grind
 k:=by have z0:=q.k;have z1:=q.a;have z2:=q.h;have y0:=h.hold;grind
 fk:=by have z0:=q.fk;have z1:=q.a;have z2:=q.h;have y0:=h.hold;grind
 ps:=by have z0:=q.ps;have z1:=q.a;have z2:=q.h;have y0:=h.hold;grind
 nw:=q.nw
theorem OI.spawn(q:OI C w o)(h:w.v.FI C.N C.F)(hi:i<C.N){f:Nat}(hg:w.v.g i= .run)(hf:w.v.hold i=some f)(hn:w.v.next<C.F) :
 OI C {w with v:={w.v with g:=bJ w.v.g i (.fork w.v.nf),next:=w.v.next+1,nf:=w.v.nf+1,par:=bJ w.v.par w.v.nf f,loc:=bJ w.v.loc w.v.nf (.bW i)},k8:=bJ w.k8 w.v.nf (C.pd (w.k8 f) (w.kc f)),kc:=bJ (bJ w.kc f (w.kc f+1)) w.v.nf 0} o where
 a:=by have z0:=q.a;have z1:=q.h;have z2:=q.k;have z3:=q.nw;have y0:=h.hold;have y1:=h.free;have y2:=h.used;have y3:=h.fk;have y4:=h.ps;have y5:=h.new;grind
 h:=by have z0:=q.h;have z1:=q.a;have z2:=q.k;have z3:=q.nw;have y0:=h.hold;have y1:=h.free;have y2:=h.used;have y3:=h.fk;have y4:=h.ps;have y5:=h.new;grind
 p:=by have z0:=q.p;have z1:=q.a;have z2:=q.h;have z3:=q.k;have z4:=q.nw;have y0:=h.hold;have y1:=h.free;have y2:=h.used;have y3:=h.fk;have y4:=h.ps;have y5:=h.new;grind
 k:=by have z0:=q.k;have z1:=q.a;have z2:=q.h;have z3:=q.nw;have y0:=h.hold;have y1:=h.free;have y2:=h.used;have y3:=h.fk;have y4:=h.ps;have y5:=h.new;grind
 fk:=λj c g hj hh hgj=>by
  obtain⟨y1,y2⟩:=q.kf h hi hg hf;have y3:=tH h hj hh;have y4:=h.free w.v.nf (ja _);have y5:g=f->i=j:=λe=>tj h hi hj hf (by rw[<-e];exact hh);have y6:=q.fk j c g hj hh;have y7:=h.fk j c hj;simp only[cA]at hgj⊢;by_cases e:j=i
  ·subst e;have:g=f:=Option.some.inj (hh.symm.trans hf);grind
  ·rw[bZ e]at hgj;grind
 ps:=λj c g hj hh hgj=>by
  obtain⟨y1,y2⟩:=q.kf h hi hg hf;have y3:=tH h hj hh;have y4:=h.free w.v.nf (ja _);have y5:g=f->i=j:=λe=>tj h hi hj hf (by rw[<-e];exact hh);have y6:=q.ps j c g hj hh;have y7:=h.ps j c hj;simp only[cA]at hgj⊢;by_cases e:j=i
  ·subst e;have:g=f:=Option.some.inj (hh.symm.trans hf);grind
  ·rw[bZ e]at hgj;grind
 nw:=by have z0:=q.nw;have z1:=q.a;have z2:=q.h;have z3:=q.k;have y0:=h.hold;have y1:=h.free;have y2:=h.used;have y3:=h.fk;have y4:=h.ps;have y5:=h.new;grind
theorem OI.AE(q:OI C w o)(h:w.v.FI C.N C.F)(hi:i<C.N)(hg:w.v.g i= .run) :
 OI C {w with v:={w.v with g:=bJ w.v.g i .full,next:=w.v.next+1}} o where
 a:=q.a
 h:=by have z0:=q.h;have z1:=q.a;have y0:=h.hold;grind
 p:=q.p
 k:=by have z0:=q.k;have z1:=q.a;have z2:=q.h;have y0:=h.hold;grind
 fk:=by have z0:=q.fk;have z1:=q.a;have z2:=q.h;have y0:=h.hold;grind
 ps:=by have z0:=q.ps;have z1:=q.a;have z2:=q.h;have y0:=h.hold;grind
 nw:=q.nw
theorem OI.fork(q:OI C w o)(h:w.v.FI C.N C.F)(hi:i<C.N){c f:Nat}(hg:w.v.g i= .fork c)(hf:w.v.hold i=some f) :
 OI C {w with v:={w.v with g:=bJ w.v.g i (.push c),join:=bJ w.v.join f (w.v.join f+1),bt:=bJ w.v.bt f (c::w.v.bt f)}} o where
 a:=q.a
 h:=by have z0:=q.h;have z1:=q.a;have z2:=q.fk;have y0:=h.hold;grind
 p:=q.p
 k:=by have z0:=q.k;have z1:=q.a;have z2:=q.h;have z3:=q.fk;have y0:=h.hold;grind
 fk:=by have z0:=q.fk;have z1:=q.a;have z2:=q.h;have y0:=h.hold;grind
 ps:=by have z0:=q.ps;have z1:=q.a;have z2:=q.h;have z3:=q.fk;have y0:=h.hold;grind
 nw:=q.nw
theorem OI.push(q:OI C w o)(h:w.v.FI C.N C.F)(hi:i<C.N){c f:Nat}(hg:w.v.g i= .push c)(hf:w.v.hold i=some f) :
 OI C {w with v:={w.v with g:=bJ w.v.g i .run,q:=bJ w.v.q i (w.v.q i++[c]),loc:=bJ w.v.loc c (.Lc i)}} ⟨bJ o.st c 1,bJ o.k8 c (C.pd (o.k8 f) (o.bt f)),bJ o.bt f (o.bt f+1)⟩ where
 a:=by have z0:=q.a;have z1:=q.h;have z2:=q.ps;have z3:=q.p;have z4:=q.nw;have y0:=h.hold;have y1:=h.ps;have y2:=h.fk;have y3:=h.free;grind
 h:=by have z0:=q.h;have z1:=q.a;have z2:=q.ps;have z3:=q.p;have z4:=q.nw;have y0:=h.hold;have y1:=h.ps;have y2:=h.fk;have y3:=h.free;grind
 p:=by have z0:=q.p;have z1:=q.a;have z2:=q.h;have z3:=q.ps;have z4:=q.nw;have y0:=h.hold;have y1:=h.ps;have y2:=h.fk;have y3:=h.free;grind
 k:=by have z0:=q.k;have z1:=q.a;have z2:=q.h;have z3:=q.ps;have z4:=q.p;have z5:=q.nw;have y0:=h.hold;have y1:=h.ps;have y2:=h.fk;have y3:=h.free;grind
 fk:=by have z0:=q.fk;have z1:=q.a;have z2:=q.h;have z3:=q.ps;have z4:=q.p;have z5:=q.nw;have y0:=h.hold;have y1:=h.ps;have y2:=h.fk;have y3:=h.free;grind
 ps:=by have z0:=q.ps;have z1:=q.a;have z2:=q.h;have z3:=q.p;have z4:=q.nw;have y0:=h.hold;have y1:=h.ps;have y2:=h.fk;have y3:=h.free;grind
 nw:=by have z0:=q.nw;have z1:=q.a;have z2:=q.h;have z3:=q.ps;have z4:=q.p;have y0:=h.hold;have y1:=h.ps;have y2:=h.fk;have y3:=h.free;grind
theorem OI.wait(q:OI C w o)(h:w.v.FI C.N C.F)(hi:i<C.N){f:Nat}(hg:w.v.g i= .run)(hf:w.v.hold i=some f) :
 OI C {w with v:={w.v with g:=bJ w.v.g i .none,hold:=bJ w.v.hold i none,join:=bJ w.v.join f (w.v.join f-1),loc:=bJ w.v.loc f .waiting}} o where
 a:=by have z0:=q.a;have z1:=q.h;have y0:=h.hold;grind
 h:=by have z0:=q.h;have z1:=q.a;have y0:=h.hold;grind
 p:=q.p
 k:=by have z0:=q.k;have z1:=q.a;have z2:=q.h;have y0:=h.hold;grind
 fk:=by have z0:=q.fk;have z1:=q.a;have z2:=q.h;have y0:=h.hold;grind
 ps:=by have z0:=q.ps;have z1:=q.a;have z2:=q.h;have y0:=h.hold;grind
 nw:=q.nw
theorem OI.pass(q:OI C w o)(h:w.v.FI C.N C.F)(hi:i<C.N){f:Nat}(hg:w.v.g i= .run)(hf:w.v.hold i=some f) :
 OI C {w with v:={w.v with g:=bJ w.v.g i .one,join:=bJ w.v.join f (w.v.join f-1),loc:=bJ w.v.loc f (.uz i)}} o where
 a:=by have z0:=q.a;have z1:=q.h;have y0:=h.hold;grind
 h:=by have z0:=q.h;have z1:=q.a;have y0:=h.hold;grind
 p:=q.p
 k:=by have z0:=q.k;have z1:=q.a;have z2:=q.h;have y0:=h.hold;grind
 fk:=by have z0:=q.fk;have z1:=q.a;have z2:=q.h;have y0:=h.hold;grind
 ps:=by have z0:=q.ps;have z1:=q.a;have z2:=q.h;have y0:=h.hold;grind
 nw:=q.nw
theorem OI.one(q:OI C w o)(h:w.v.FI C.N C.F)(hi:i<C.N){f:Nat}(hg:w.v.g i= .one)(hf:w.v.hold i=some f) :
 OI C {w with v:={w.v with g:=bJ w.v.g i .run,join:=bJ w.v.join f 1,loc:=bJ w.v.loc f (.held i)}} o where
 a:=by have z0:=q.a;have z1:=q.h;have y0:=h.hold;grind
 h:=by have z0:=q.h;have z1:=q.a;have y0:=h.hold;grind
 p:=q.p
 k:=by have z0:=q.k;have z1:=q.a;have z2:=q.h;have y0:=h.hold;grind
 fk:=by have z0:=q.fk;have z1:=q.a;have z2:=q.h;have y0:=h.hold;grind
 ps:=by have z0:=q.ps;have z1:=q.a;have z2:=q.h;have y0:=h.hold;grind
 nw:=q.nw
theorem OI.It(q:OI C w o)(h:w.v.FI C.N C.F)(hi:i<C.N)(hg:w.v.g i= .run)(hf:w.v.hold i=some 0) :
 OI C {w with v:={w.v with g:=bJ w.v.g i .none,hold:=bJ w.v.hold i none,loc:=bJ w.v.loc 0 (.fin i)}} {o with st:=bJ o.st 0 3} where
 a:=by have z0:=q.a;have z1:=q.h;have y0:=h.hold;grind
 h:=by have z0:=q.h;have z1:=q.a;have y0:=h.hold;grind
 p:=by have z0:=q.p;have z1:=q.a;have z2:=q.h;have y0:=h.hold;grind
 k:=by have z0:=q.k;have z1:=q.a;have z2:=q.h;have y0:=h.hold;grind
 fk:=by have z0:=q.fk;have z1:=q.a;have z2:=q.h;have y0:=h.hold;grind
 ps:=by have z0:=q.ps;have z1:=q.a;have z2:=q.h;have y0:=h.hold;grind
 nw:=q.nw
theorem OI.ret(q:OI C w o)(h:w.v.FI C.N C.F)(hi:i<C.N){f:Nat}(hg:w.v.g i= .run)(hf:w.v.hold i=some f)(h0:f≠0) :
 OI C {w with v:={w.v with g:=bJ w.v.g i (.out (w.v.par f) f),hold:=bJ w.v.hold i none,loc:=bJ w.v.loc f (.fin i)}} {o with st:=bJ o.st f 3} where
 a:=by have z0:=q.a;have z1:=q.h;have y0:=h.hold;grind
 h:=by have z0:=q.h;have z1:=q.a;have y0:=h.hold;grind
 p:=by have z0:=q.p;have z1:=q.a;have z2:=q.h;have y0:=h.hold;grind
 k:=by have z0:=q.k;have z1:=q.a;have z2:=q.h;have y0:=h.hold;grind
 fk:=by have z0:=q.fk;have z1:=q.a;have z2:=q.h;have y0:=h.hold;grind
 ps:=by have z0:=q.ps;have z1:=q.a;have z2:=q.h;have y0:=h.hold;grind
 nw:=q.nw
theorem OI.Lm(q:OI C w o)(h:w.v.FI C.N C.F)(hi:i<C.N){p c:Nat}(hg:w.v.g i= .out p c) :
 OI C {w with v:={w.v with g:=bJ w.v.g i .none,join:=bJ w.v.join p (w.v.join p-1),bt:=bJ w.v.bt p ((w.v.bt p).erase c),loc:=bJ w.v.loc c .gone}} o where
 a:=by have z0:=q.a;have z1:=q.h;have y0:=h.hold;have y1:=h.out;grind
 h:=by have z0:=q.h;have z1:=q.a;have y0:=h.hold;have y1:=h.out;grind
 p:=q.p
 k:=by have z0:=q.k;have z1:=q.a;have z2:=q.h;have y0:=h.hold;have y1:=h.out;grind
 fk:=by have z0:=q.fk;have z1:=q.a;have z2:=q.h;have y0:=h.hold;have y1:=h.out;grind
 ps:=by have z0:=q.ps;have z1:=q.a;have z2:=q.h;have y0:=h.hold;have y1:=h.out;grind
 nw:=q.nw
theorem OI.JJ(q:OI C w o)(h:w.v.FI C.N C.F)(hi:i<C.N){p c:Nat}(hg:w.v.g i= .out p c)(hn:w.v.join p-1=0) :
 OI C {w with v:={w.v with g:=bJ w.v.g i (.take p c),join:=bJ w.v.join p (w.v.join p-1),bt:=bJ w.v.bt p ((w.v.bt p).erase c),loc:=bJ (bJ w.v.loc c .gone) p (.sQ i)}} o where
 a:=by have y8:=h.ie hi hg hn;have z0:=q.a;have z1:=q.h;have y0:=h.hold;have y1:=h.out;grind
 h:=by have y8:=h.ie hi hg hn;have z0:=q.h;have z1:=q.a;have y0:=h.hold;have y1:=h.out;grind
 p:=q.p
 k:=by have y8:=h.ie hi hg hn;have z0:=q.k;have z1:=q.a;have z2:=q.h;have y0:=h.hold;have y1:=h.out;grind
 fk:=by have y8:=h.ie hi hg hn;have z0:=q.fk;have z1:=q.a;have z2:=q.h;have y0:=h.hold;have y1:=h.out;grind
 ps:=by have y8:=h.ie hi hg hn;have z0:=q.ps;have z1:=q.a;have z2:=q.h;have y0:=h.hold;have y1:=h.out;grind
 nw:=q.nw
theorem OI.take(q:OI C w o)(h:w.v.FI C.N C.F)(hi:i<C.N){p c:Nat}(hg:w.v.g i= .take p c) :
 OI C {w with v:={w.v with g:=bJ w.v.g i .run,hold:=bJ w.v.hold i (some p),join:=bJ w.v.join p 1,loc:=bJ w.v.loc p (.held i)}} o where
 a:=by have z0:=q.a;have z1:=q.h;have y0:=h.hold;have y1:=h.tk;grind
 h:=by have z0:=q.h;have z1:=q.a;have y0:=h.hold;have y1:=h.tk;grind
 p:=q.p
 k:=by have z0:=q.k;have z1:=q.a;have z2:=q.h;have y0:=h.hold;have y1:=h.tk;grind
 fk:=by have z0:=q.fk;have z1:=q.a;have z2:=q.h;have y0:=h.hold;have y1:=h.tk;grind
 ps:=by have z0:=q.ps;have z1:=q.a;have z2:=q.h;have y0:=h.hold;have y1:=h.tk;grind
 nw:=q.nw
theorem OI.nH(q:OI C w o)(h:w.v.FI C.N C.F)(hi:i<C.N){x:Nat}{l:List Nat}(hg:w.v.g i= .none)(hq:w.v.q i=l++[x]) :
 OI C {w with v:={w.v with q:=bJ w.v.q i l,loc:=bJ w.v.loc x (.pop i),pop:=bJ w.v.pop i (some x)}} o where
 a:=by have z0:=q.a;have z1:=q.h;have y0:=h.hold;have y1:=h.q;grind
 h:=q.h
 p:=q.p
 k:=q.k
 fk:=q.fk
 ps:=q.ps
 nw:=q.nw
theorem OI.Np(q:OI C w o)(h:w.v.FI C.N C.F)(hi:i<C.N){x:Nat}(hg:w.v.g i= .none)(hq:w.v.q i=[x]) :
 OI C {w with v:={w.v with q:=bJ w.v.q i [],loc:=bJ w.v.loc x (.pop i),pop:=bJ w.v.pop i (some x)}} o where
 a:=by have z0:=q.a;have z1:=q.h;have y0:=h.hold;have y1:=h.q;grind
 h:=q.h
 p:=q.p
 k:=q.k
 fk:=q.fk
 ps:=q.ps
 nw:=q.nw
theorem OI.got(q:OI C w o)(h:w.v.FI C.N C.F)(hi:i<C.N){x:Nat}(hg:w.v.g i= .none)(hx:w.v.pop i=some x) :
 OI C {w with v:={w.v with g:=bJ w.v.g i .start,hold:=bJ w.v.hold i (some x),loc:=bJ w.v.loc x (.held i),pop:=bJ w.v.pop i none},fx:=bJ w.fx i (-1)} o where
 a:=by have z0:=q.a;have z1:=q.h;have y0:=h.hold;have y1:=h.pop;have y2:=h.hr;grind
 h:=by have z0:=q.h;have z1:=q.a;have y0:=h.hold;have y1:=h.pop;have y2:=h.hr;grind
 p:=q.p
 k:=by have z0:=q.k;have z1:=q.a;have z2:=q.h;have y0:=h.hold;have y1:=h.pop;have y2:=h.hr;grind
 fk:=by have z0:=q.fk;have z1:=q.a;have z2:=q.h;have y0:=h.hold;have y1:=h.pop;have y2:=h.hr;grind
 ps:=by have z0:=q.ps;have z1:=q.a;have z2:=q.h;have y0:=h.hold;have y1:=h.pop;have y2:=h.hr;grind
 nw:=q.nw
theorem OI.EM(q:OI C w o)(h:w.v.FI C.N C.F)(hi:i<C.N){k x:Nat}{l:List Nat}(hk:k<C.N)(hg:w.v.g i= .none)(hx:w.v.q k=x::l) :
 OI C {w with v:={w.v with g:=bJ w.v.g i .start,hold:=bJ w.v.hold i (some x),loc:=bJ w.v.loc x (.held i),q:=bJ w.v.q k l},fx:=bJ w.fx i k} o where
 a:=by have z0:=q.a;have z1:=q.h;have y0:=h.hold;have y1:=h.q;have y2:=h.hr;grind
 h:=by have z0:=q.h;have z1:=q.a;have y0:=h.hold;have y1:=h.q;have y2:=h.hr;grind
 p:=q.p
 k:=by have z0:=q.k;have z1:=q.a;have z2:=q.h;have y0:=h.hold;have y1:=h.q;have y2:=h.hr;grind
 fk:=by have z0:=q.fk;have z1:=q.a;have z2:=q.h;have y0:=h.hold;have y1:=h.q;have y2:=h.hr;grind
 ps:=by have z0:=q.ps;have z1:=q.a;have z2:=q.h;have y0:=h.hold;have y1:=h.q;have y2:=h.hr;grind
 nw:=q.nw
theorem OI.aC{w':afU}{e:Option Ev}(t:Tr C i w e w')(hi:i<C.N)(h:w.v.FI C.N C.F)(q:OI C w o):match e with
 | none=>OI C w' o
 | some e=>acM C o e/\OI C w' (acN C o e):=by
 cases t with
 | gL e he =>
  cases e with
  | none=>exact q
  | some x =>
   have:x.kind≠1/\x.kind≠2/\x.kind≠6:=by
    simp only[quiet,BH,zn]at he;omega
   obtain⟨a1,a2,a3⟩:=this;simp only[aah,acN,bZ a1,bZ a2,bZ a3];exact⟨trivial,q⟩
 | full c hg=>exact⟨trivial,q.full h hi hg⟩
 | start f hg hf=>exact⟨⟨by rw[show((f:Int)).toNat=f from rfl,q.h i f hi hf,aM hg],by show w.v.mark f+1=1;rw[h.y9 i f hi hg hf];rfl⟩,q.start h hi hg hf⟩
 | spawn f hg hf hn=>exact q.spawn h hi hg hf hn
 | AE hg hn=>exact⟨trivial,q.AE h hi hg⟩
 | fork c f hg hf=>exact q.fork h hi hg hf
 | push c f hg hf =>
  have z:=h.ps i c hi hg;have zf:f=w.v.par c:=Option.some.inj (hf.symm.trans z.2.2.1);have z1:o.st f=2:=by rw[q.h i f hi hf,hg];rfl
  have z2:o.st c=0:=q.a c 0 (by rw[z.2.1];rfl);have z3:=(q.ps i c f hi hf hg).2;refine⟨⟨z2,z1,?_,λe => ?_⟩,q.push h hi hg hf⟩
  ·show w.k8 c=C.pd (o.k8 f) (o.bt f);rw[z3,q.p f (tH h hi hf) (by rw[z1];omega)]
  ·have e:c=f:=e;rw[e,z1]at z2;cases z2
 | wait f hg hf hk=>exact⟨trivial,q.wait h hi hg hf⟩
 | pass f hg hf hk=>exact q.pass h hi hg hf
 | one f hg hf=>exact⟨trivial,q.one h hi hg hf⟩
 | It v hg hf=>exact⟨by show o.st 0=2;rw[q.h i 0 hi hf,hg];rfl,q.It h hi hg hf⟩
 | ret f v hg hf h0=>exact⟨by show o.st f=2;rw[q.h i f hi hf,hg];rfl,q.ret h hi hg hf h0⟩
 | Lm p c hg hn=>exact q.Lm h hi hg
 | JJ p c hg hn=>exact q.JJ h hi hg hn
 | take p c hg=>exact⟨trivial,q.take h hi hg⟩
 | nH x l hg hq=>exact q.nH h hi hg hq
 | Np x hg hq=>exact q.Np h hi hg hq
 | got x hg hx=>exact q.got h hi hg hx
 | EM k x l hk J0 hg hx=>exact⟨trivial,q.EM h hi hk hg hx⟩
end
section
variable {C:jt}{i:Nat}{w w':afU}{e:Option Ev}
theorem Tr.TZ(t:Tr C i w e w'){j:Nat}(hj:j≠i):w'.v.g j=w.v.g j/\w'.v.hold j=w.v.hold j/\w'.fx j=w.fx j:=by
 cases t<;>simp only[cA,bZ hj,and_self]
theorem Tr.idle(t:Tr C i w e w')(hb:busy (w.v.g i)=false):w'.v.nf=w.v.nf/\∀x,e=some x->x.kind≠11/\x.kind≠1:=by
 cases t with
 | gL e he =>
  refine⟨rfl,λx hx => ?_⟩;subst hx;simp only[quiet,BH,zn]at he;omega
 | full c hg=>rw[hg]at hb;cases hb
 | start f hg hf=>rw[hg]at hb;cases hb
 | spawn f hg hf hn=>rw[hg]at hb;cases hb
 | AE hg hn=>rw[hg]at hb;cases hb
 | fork c f hg hf=>rw[hg]at hb;cases hb
 | push c f hg hf=>rw[hg]at hb;cases hb
 | wait f hg hf hk=>rw[hg]at hb;cases hb
 | pass f hg hf hk=>rw[hg]at hb;cases hb
 | one f hg hf=>rw[hg]at hb;cases hb
 | It v hg hf=>rw[hg]at hb;cases hb
 | ret f v hg hf h0=>rw[hg]at hb;cases hb
 | _=>exact⟨rfl,λx hx=>by cases hx<;>exact⟨by show(_:Nat)≠11;simp[ev],by show(_:Nat)≠1;simp[ev]⟩⟩
theorem Tr.inr(t:Tr C i w e w')(hi:i<C.N)(h:w.v.FI C.N C.F):∀x,e=some x->(x.kind=1∨x.kind=2∨x.kind=6->0<=x.ax/\x.ax<C.F)/\(x.kind=2->0<=x.x/\x.x<C.F):=by
 have hF:=h.xC;intro x hx;cases t with
 | gL e he =>
  subst hx;simp only[quiet,BH,zn]at he;constructor<;>intro h'<;>omega
 | start f hg hf =>
  have:=tH h hi hf;cases hx;exact⟨λ_=>⟨by show(0:Int)<=(f:Int);omega,by show(f:Int)<C.F;omega⟩,λh'=>by cases h'⟩
 | push c f hg hf =>
  have:=tH h hi hf;have z:=h.ps i c hi hg;have hc:c<w.v.nf:=by
   rcases AV c w.v.nf with h' | h'
   ·exact h'
   ·have:=h.free c h';rw[z.2.1]at this;cases this
  cases hx;exact⟨λ_=>⟨by show(0:Int)<=(c:Int);omega,by show(c:Int)<C.F;omega⟩,λ_=>⟨by show(0:Int)<=(f:Int);omega,by show(f:Int)<C.F;omega⟩⟩
 | It v hg hf =>
  have:=tH h hi hf;cases hx;exact⟨λ_=>⟨by show(0:Int)<=(0:Int);omega,by show(0:Int)<C.F;omega⟩,λh'=>by cases h'⟩
 | ret f v hg hf h0 =>
  have:=tH h hi hf;cases hx;exact⟨λ_=>⟨by show(0:Int)<=(f:Int);omega,by show(f:Int)<C.F;omega⟩,λh'=>by cases h'⟩
 | _=>cases hx<;>exact⟨λh'=>by simp[ev]at h',λh'=>by simp[ev]at h'⟩
theorem Tr.k0(t:Tr C i w e w'):∀x,e=some x->x.kind≠0:=by
 intro x hx;cases t with
 | gL e he =>
  subst hx;simp only[quiet,BH,zn]at he;omega
 | _=>cases hx<;>(show(_:Nat)≠0;simp[ev])
theorem Tr.v1(t:Tr C i w e w')(hi:i<C.N)(h:w.v.FI C.N C.F):∀x,e=some x->x.kind=1->x.v=1:=by
 intro x hx hk;cases t with
 | gL e he =>
  subst hx;simp only[quiet,BH,zn]at he;omega
 | start f hg hf =>
  cases hx;show w.v.mark f+1=1;rw[h.y9 i f hi hg hf];rfl
 | _=>cases hx<;>(exfalso;simp[ev]at hk)
def Q0(w:afU):Prop:=w.v.g 0= .start/\w.fx 0=-1/\w.v.hold 0=some 0/\w.v.nf=1
theorem Q0.aC(t:Tr C i w e w')(h0:i≠0)(hi:i<C.N)(h:w.v.FI C.N C.F)(q:Q0 w):Q0 w'/\∀x,e=some x->x.kind≠11/\x.kind≠1:=by
 obtain⟨q1,q2,q3,q4⟩:=q;have hb:busy (w.v.g i)=false:=by
  cases hb:busy (w.v.g i)with
  | false=>rfl
  | true =>
   exfalso
   have:=h.hs i hi hb;cases hh:w.v.hold i with
   | none=>exact this hh
   | some f =>
    have hf:=tH h hi hh;obtain rfl:f=0:=by omega
    have a:=h.hold 0 0 I q3;have b:=h.hold i 0 hi hh;rw[q1]at a;rcases a with ⟨a,_⟩ | ⟨_,a⟩
    ·cases a
    ·rcases b with ⟨_,b⟩ | ⟨_,b⟩<;>rw[a]at b<;>cases b;exact h0 rfl
 obtain⟨t1,t2⟩:=t.idle hb;obtain⟨o1,o2,o3⟩:=t.TZ (Ne.symm h0);exact⟨⟨by rw[o1,q1],by rw[o3,q2],by rw[o2,q3],by rw[t1,q4]⟩,t2⟩
end
end Am
end
section
namespace Mo
open Go Go.RowKit SL GX
noncomputable section
variable {z w:World}{L:List bu}
structure Xw where
 afj:List Int
 afk:List Int
deriving Inhabited,DecidableEq
structure fg where
 IC:Int
 Index:Int
 Func:Int
 j0:Int
 E6:Int
 Arg:Int
 V:Int
deriving Inhabited,DecidableEq
def rM(x:fg):List Value:=[Z x.IC,Z x.Index,Z x.Func,Z x.j0,Z x.E6,Z x.Arg,Z x.V]
abbrev JK(x:fg):List Value:=[Z x.IC,Z x.Index,Z x.Func,Z x.j0,Z x.E6,Z x.Arg,Z x.V]
abbrev sJ(x:fg):Array Value:=#[Z x.IC,Z x.Index,Z x.Func,Z x.j0,Z x.E6,Z x.Arg,Z x.V]
abbrev Ds(x:fg):Value:=.agg #[Z x.IC,Z x.Index,Z x.Func,Z x.j0,Z x.E6,Z x.Arg,Z x.V]
theorem od:uv rM 7:=⟨λ_=>rfl,λx u h=>by simp only[rM,tX,tY,tZ]at h;rcases h with rfl | rfl | rfl | rfl | rfl | rfl | rfl<;>rfl,dO⟩
structure bB where
 Left:Int
 wQ:Int
 bI:List fg
 Deep:Int
deriving Inhabited,DecidableEq
abbrev Dt(B:Nat)(S:bB)(k0:Value)(a3:gF)(c3:Nat):bu:=pts B (.cells #[k0,Z S.Left,Z S.wQ,.slice a3 S.bI.length c3,Z S.Deep] 163)
abbrev zV(a:gF)(c:Nat)(l:List fg):bu:=rowOf 167 7 rM (.slice a l.length c) l
abbrev QV(B:Nat)(S:fg):bu:=pts B (.cells #[Z S.IC,Z S.Index,Z S.Func,Z S.j0,Z S.E6,Z S.Arg,Z S.V] 167)
structure dN where
 Me:Int
 iN:Int
 sw:List Int
 nq:List Int
 At:Int
 dZ:Int
 End:Int
 Kids:Int
deriving Inhabited,DecidableEq
abbrev vF(x:dN):Array Value:=([Z x.Me,Z x.iN]++ef 16 aO x.sw++ef 8 aO x.nq++[Z x.At,Z x.dZ,Z x.End,Z x.Kids]).toArray
abbrev Du(B:Nat)(S:dN):bu:=pts B (.cells ([Z S.Me,Z S.iN]++ef 16 aO S.sw++ef 8 aO S.nq++[Z S.At,Z S.dZ,Z S.End,Z S.Kids]).toArray 199)
structure rZ where
 V:Int
 j0:Int
 yH:Int
 iN:Int
 Span:Int
deriving Inhabited,DecidableEq
abbrev ID(x:rZ):List Value:=[Z x.V,Z x.j0,Z x.yH,Z x.iN,Z x.Span]
abbrev vr(x:rZ):Value:=.agg #[Z x.V,Z x.j0,Z x.yH,Z x.iN,Z x.Span]
abbrev Sc(B:Nat)(S:rZ):bu:=pts B (.cells #[Z S.V,Z S.j0,Z S.yH,Z S.iN,Z S.Span] 60)
end
open Go SL GX
section
variable {K:Nat}
section
variable {C:Am.jt}{p:aH}{s:Am.St}{S:af}{M:ag}{sz n i:Nat}{D:aV}
def U3(g i:Nat)(l:List aB):Option Am.Ev->List aB
 | none=>l
 | some e=>l++[⟨(g:Int),(i:Int),(e.kind:Int),e.ax,e.x,e.v⟩]
end
end
section
variable {K:Nat}
structure Small(c:gh):Prop where
 f:c.ig.length<=1048576
 k:∀i,i<c.ig.length->(J c.ig i).ai.length<=1048576
 a:c.zD.length<=1048576
 p:c.gH.length<=1048576
 d:c.qZ.length<=1048576
end
section
variable {K:Nat}
def Yq(e:aB):Prop:=e.aP=1/\e.Frame=0
instance (e:aB):Decidable (Yq e):=by unfold Yq;infer_instance
def U4(l:List aB):Prop:=∀e∈l,¬Yq e
def CD:List aB->Prop
 | []=>True
 | e::l=>if Yq e then e.uR=0/\e.X=-1/\e.V=1 else CD l
theorem F2{e:aB}:∀{l:List aB},CD l->(U4 l->Yq e->e.uR=0/\e.X=-1/\e.V=1)->CD (l++[e])
 | [],_,h=>by
  show if Yq e then _ else True;split
  ·next h'=>exact h (λ_ hx=>by cases hx) h'
  ·trivial
 | x::l,h1,h2=>by
  have h1:if Yq x then x.uR=0/\x.X=-1/\x.V=1 else CD l:=h1;show if Yq x then _ else CD (l++[e]);split
  ·next h'=>rw[aM h']at h1;exact h1
  ·next h' =>
   rw[bZ h']at h1;exact F2 h1 (λhn hs=>h2 (λy hy=>by
    rcases List.mem_cons.1 hy with rfl | hy
    ·exact h'
    ·exact hn y hy) hs)
structure Pre(C:Am.jt)(ps:List Int)(s:Am.St)(l:List aB)(g:Nat):Prop where
 q:Am.Q0 (Am.wv s)
 nf:∀e∈l,e.aP≠11
 pk:∀k,k<g->iF (GX.J ps k) (C.N:Int)≠some 0
structure Tl(C:Am.jt)(ps:List Int)(s:Am.St)(l:List aB)(g:Nat):Prop where
 pre:U4 l->Pre C ps s l g
 first:CD l
theorem Sd{g i:Nat}{l:List aB}{o:Option Am.Ev}{e:aB}(h:e∈U3 g i l o):e∈l∨∃x,o=some x/\e=⟨(g:Int),(i:Int),(x.kind:Int),x.ax,x.x,x.v⟩:=by
 cases o with
 | none=>exact .inl h
 | some x =>
  rcases List.mem_append.1 (show e∈l++[_]from h)with h | h
  ·exact .inl h
  ·exact .inr ⟨x,rfl,List.mem_singleton.1 h⟩
theorem Se{g i:Nat}{l:List aB}{o:Option Am.Ev}{e:aB}(h:e∈l):e∈U3 g i l o:=by
 cases o with
 | none=>exact h
 | some x=>exact List.mem_append.2 (.inl h)
theorem U5{p:Am.Pc}(h:Am.sig p= .start) :∃x,p= .start x:=by
 cases p<;>first | exact⟨_,rfl⟩ | cases h
theorem Tl.aC{C:Am.jt}{p:aH}{ps:List Int}{s:Am.St}{S:af}{M:ag}{sz g i:Nat}{l:List aB}{d:Int}(b:zj C p s S M sz g)(t:Tl C ps s l g)(hi:i<C.N)(hm:iF (GX.J ps g) (C.N:Int)=some (i:Int)):Tl C ps (Am.aC C s i d).s (U3 g i l (Am.aC C s i d).ev) (g+1):=by
 have tr:=Am.EN b.fi b.dt hi d;have main:U4 l->i=0->∃x,(Am.aC C s i d).ev=some x/\x.kind=1/\x.ax=0/\x.x=-1:=by
  intro hn h0;subst h0;obtain⟨q1,q2,q3,q4⟩:=(t.pre hn).q;obtain⟨x,hx⟩:=U5 (p:=s.pc 0) q1;have q2:Am.wL (s.pc 0)=-1:=q2;rw[hx]at q2;have q2:x=-1:=q2;have q3:s.hold 0=some 0:=q3;subst q2;refine⟨_,by unfold Am.aC;rw[hx];rfl,rfl,?_,rfl⟩;show(((s.hold 0).getD 0:Nat):Int)=0;rw[q3];rfl
 have other:U4 l->i≠0->Am.Q0 (Am.wv (Am.aC C s i d).s)/\∀x,(Am.aC C s i d).ev=some x->x.kind≠11/\x.kind≠1:=λhn h0=>(t.pre hn).q.aC tr h0 hi b.fi;constructor
 ·intro hn;have hn':U4 l:=λe he=>hn e (Se he);by_cases h0:i=0
  ·obtain⟨x,x1,x2,x3,x4⟩:=main hn' h0
   exfalso
   rw[x1]at hn;exact hn _ (List.mem_append.2 (.inr (List.mem_singleton.2 rfl))) ⟨by show(x.kind:Int)=1;rw[x2];rfl,x3⟩
  ·obtain⟨o1,o2⟩:=other hn' h0;refine⟨o1,λe he => ?_,λk hk => ?_⟩
   ·rcases Sd he with he | ⟨x,hx,rfl⟩
    ·exact(t.pre hn').nf e he
    ·have:=(o2 x hx).1;show(x.kind:Int)≠11;omega
   ·by_cases ek:k=g
    ·subst ek;rw[hm];intro h;have:(i:Int)=0:=Option.some.inj h;omega
    ·exact(t.pre hn').pk k I
 ·cases VP:(Am.aC C s i d).ev with
  | none=>exact t.first
  | some x =>
   refine F2 t.first λhn hs => ?_;have hk:x.kind=1:=by have:(x.kind:Int)=1:=hs.1;omega
   by_cases h0:i=0
   ·obtain⟨y,y1,y2,y3,y4⟩:=main hn h0;rw[VP]at y1;cases y1;exact⟨by show(i:Int)=0;omega,y4,tr.v1 hi b.fi x VP hk⟩
   ·exact absurd hk ((other hn h0).2 x VP).2
theorem QW{c:gh}(hp:c.gH.length<=1048576){N:Nat}(hN:c.di=N)(h1:1<=N)(IV:N<=64):∀(e k g:Nat),g+e=c.gH.length->e<k->∃b,jP K c k (g:Int)=some b/\(b=true->∃x,x<c.gH.length/\iF (GX.J c.gH x) (N:Int)=some 0)
 | e,k,g,he,hk=>by
  obtain⟨k,rfl⟩ :∃m,k=m+1:=⟨k-1,I⟩;rw[jP];by_cases hg:g<c.gH.length
  ·obtain⟨e,rfl⟩ :∃m,e=m+1:=⟨e-1,I⟩;obtain⟨i,hm,hin⟩:=QU (x:=GX.J c.gH g) (n:=(N:Int)) I I;rw[sR,aM ⟨I,I⟩,cL,hN,hm,aq];by_cases h0:(i:Int)=0
   ·rw[aM h0];exact⟨true,rfl,λ_=>⟨g,hg,by rw[hm,h0]⟩⟩
   ·rw[bZ h0,D5 I];exact QW hp hN h1 IV e k (g+1) I I
  ·rw[eu];exact⟨false,rfl,λh=>by cases h⟩
end
open Go Go.RowKit SL GX
noncomputable section
variable {z w:World}{L:List bu}
def oE(K:Nat)(O:aH)(Y:List Int)(p2:Int):Option (Int):=
 eA (jU K O) (λr2=>(if r2.wQ=0 then if bM (0:Int) O.ah.length then(if((Y.length:Nat):Int)=(J O.ah 0).aS then(if p2<0 then some 3 else(if p2>4194304 then some 3 else some 0))else some 61)else none else some 60))
theorem AM(H:oE K O Y p2=some r0)(h:iV z (L) w)(aR:Bk L aZ aI O.ah)(IP:cx L 1 aO HX Y) :
 nM 79 #[pe #[bO aZ O.ah.length bH],bO HX Y.length Kc,Z p2] w z (Z r0) (L):=by
 unfold oE at H;refine ke Tryz.func79 27 rfl λj=>ks<|kN h (#[bO aZ O.ah.length bH]) 24 λb1 w h=>bS<|G<|ks<|xG (pe #[bO aZ O.ah.length bH]) (cs:=[bO aZ O.ah.length bH]) ⟨h.cell 0 rfl,bU⟩<|?_;refine gg H λr2 e3 H=>fe (wz (aZ:=aZ) (bH:=bH) (aR:=(Aj.up 1 aR)) (aI:=aI) e3 h :) λw h=>kN h (#[Z 0,Z 0,Z 0]) 81 λb4 w h=>kA h (abw b4 r2) λw h=>G<|wq<|aN [U]<|kL h 0<|ko [vB (r2.wQ != 0)]<|G<|rU H (λc5 H=>?_) λc5 H=>?_
 ·refine gC<|wq<|aN [U,Z ((Y.length:Nat):Int),U]<|kL (h.pick 1) 0<|qg H λc6 H=>kp (pA (dR aZ) (kz aZ+0*4)) (DG 85 bH rfl rfl aR c6)<|bS<|Aa (Z (J O.ah 0).aS) (aR.cell c6 (h.dn 2) 0 rfl)<|?_;refine ko [vB (((Y.length:Nat):Int) != (J O.ah 0).aS)]<|G<|rU H (λc7 H=>?_) λc7 H=>?_
  ·refine gC<|wq<|aN [U,dm (p2<0),dm (p2<0)]<|qI H (λc8 H=>?_) λc8 H=>?_
   ·refine cu (dT c8) [24,25]<|oM (dT c8) (vB true)<|G<|λ_ r=>hJ r (b:=true) rfl<|qq r<|iv<|wr<|tr<|?_;cases H;exact fX (h.se 2 [])
   refine cW (dF c8) [24,25] [Z p2,dm (p2>4194304)]<|oG (dF c8) (dm (p2>4194304))<|G<|dQ H (λc9 H=>?_) λc9 H=>?_
   ·refine iv<|wr<|tr<|?_;cases H;exact fX (h.se 2 [])
   refine gC<|iv<|wr<|?_;cases H;exact fX (h.se 2 [])
  refine iv<|wr<|tr<|?_;cases H;exact fX (h.se 2 [])
 refine iv<|wr<|tr<|?_;cases H;exact fX (h.se 2 [])
def uA(O:Int)(Y:Int):Option (Int):=
 some (wi ((wi ((wi (O*1000003))+Y))+1))
theorem DY(H:uA O Y=some r0)(h:iV z (L) w) :
 nM 145 #[Z O,Z Y] w z (Z r0) (L):=by
 unfold uA at H;refine ke Tryz.func145 10 rfl λj=>iv<|aN [U,Z (wi (O*1000003)),U,Z (wi ((wi (O*1000003))+Y)),Z (wi ((wi ((wi (O*1000003))+Y))+1)),Z (wi ((wi ((wi (O*1000003))+Y))+1))]<|cr<|?_;cases H;exact fX h
def oY(O:Int)(Y:Int):Option (Int):=
 (if Y=0 then some 0 else(if Y=(-1)then some (wi ((0:Int)-O))else if Y≠0 then some (wi (O.tdiv Y))else none))
theorem xj(H:oY O Y=some r0)(h:iV z (L) w) :
 nM 179 #[Z O,Z Y] w z (Z r0) (L):=by
 unfold oY at H;refine ke Tryz.func179 15 rfl λj=>iv<|wq<|iv<|wb<|aN [vB (Y==0),vB (Y==0)]<|G<|dQ H (λc1 H=>?_) λc1 H=>?_
 ·refine iv<|wr<|br<|tr<|?_;cases H;exact fX h
 refine aN [vB (Y==(-1)),vB (Y==(-1))]<|G<|dQ H (λc2 H=>?_) λc2 H=>?_
 ·refine aN [U,Z (wi ((0:Int)-O)),Z (wi ((0:Int)-O))]<|cr<|br<|tr<|?_;cases H;exact fX h
 refine wk<|bn<|tn<|ks<|qg H λc3 H=>ko dk<|kp (Z (wi (O.tdiv Y))) (SN rfl aY aY c3)<|ko [Z (wi (O.tdiv Y))]<|cr<|?_;cases H;exact fX h
def sF(O:Int):Option (Bool):=
 some ((O.tmod (2:Int)) != 0)
end
noncomputable section
variable {z w:World}{L:List bu}
theorem yf(H:sF O=some r0)(h:iV z (L) w) :
 nM 185 #[Z O] w z (vB r0) (L):=by
 unfold sF at H;refine ke Tryz.func185 6 rfl λj=>iv<|aN [U]<|kp (Z (O.tmod (2:Int))) (Ma rfl aY aY dO)<|ko [vB ((O.tmod (2:Int)) != 0),vB ((O.tmod (2:Int)) != 0)]<|cr<|?_;cases H;exact fX h
def kY(O:Int):Option (Int):=
 (if O<0 then(if(O.tmod (2:Int))=0 then some (wi (O.tdiv (2:Int)))else some (wi ((wi (O.tdiv (2:Int)))-1)))else some (wi (O.tdiv (2:Int))))
theorem tS(H:kY O=some r0)(h:iV z (L) w) :
 nM 186 #[Z O] w z (Z r0) (L):=by
 unfold kY at H;refine ke Tryz.func186 15 rfl λj=>iv<|wq<|aN [U,dm (O<0),dm (O<0)]<|qI H (λc1 H=>?_) λc1 H=>?_
 ·refine cW (dT c1) [6] [Z O]<|λ_ r=>Dz (sY r (dT c1)) r (Z (O.tmod (2:Int))) (Ma rfl aY aY dO)<|?_;refine cW (dT c1) [8] [vB ((O.tmod (2:Int)) != 0)]<|oM (dT c1) (vB ((O.tmod (2:Int)) != 0))<|G<|rU H (λc2 H=>?_) λc2 H=>?_
  ·refine gC<|aN [U]<|kp (Z (wi (O.tdiv (2:Int)))) (SN rfl aY aY dO)<|ko [Z (wi (O.tdiv (2:Int)))]<|cr<|?_;cases H;exact fX h
  refine aN [U]<|kp (Z (wi (O.tdiv (2:Int)))) (SN rfl aY aY dO)<|ko [Z (wi ((wi (O.tdiv (2:Int)))-1)),Z (wi ((wi (O.tdiv (2:Int)))-1))]<|cr<|tr<|?_;cases H;exact fX h
 refine cu (dF c1) [6,7,8]<|oG (dF c1) (vB false)<|G<|λ_ r=>jb r (b:=false) rfl<|qq r<|gC<|aN [U]<|kp (Z (wi (O.tdiv (2:Int)))) (SN rfl aY aY dO)<|ko [Z (wi (O.tdiv (2:Int)))]<|cr<|?_;cases H;exact fX h
def lD(K:Nat)(p2:Bool)(p3:Bool):Nat->Int->Int->Int->Int->Int->Option (Int)
 | 0,_,_,_,_,_=>none
 | k1+1,g1,g2,g3,g4,g5=>(if g5<64 then eA (sF g1) (λr7=>eA (sF g2) (λr9=>eA ((if r7=true then(if r9=true then(if p2=true then some (wi (g3+g4))else(if r7=r9 then some g3 else(if p3=true then some (wi (g3+g4))else some g3)))else(if r7=r9 then some g3 else(if p3=true then some (wi (g3+g4))else some g3)))else(if r7=r9 then some g3 else(if p3=true then some (wi (g3+g4))else some g3)))) (λsV=>eA (kY g1) (λrB=>eA (kY g2) (λzi=>(lD K p2 p3 k1 rB zi sV (wi (g4+g4)) (wi (g5+1))))))))else some g3)
def jF(K:Nat)(O:Int)(Y:Int)(p2:Bool)(p3:Bool):Option (Int):=
 (lD K p2 p3 K O Y 0 1 0)
theorem tT(H:jF K O Y p2 p3=some r0)(h:iV z (L) w) :
 nM 180 #[Z O,Z Y,vB p2,vB p3] w z (Z r0) (L):=by
 unfold jF at H;refine ke Tryz.func180 48 rfl λj=>iv<|iv<|iv<|wq<|iv<|wb<|λ_ r=>eD (β:=Nat) id (λm a w=>∃g1:Int,∃g2:Int,∃g3:Int,∃g4:Int,∃g5:Int,(lD K p2 p3 m g1 g2 g3 g4 g5)=some r0/\∃j,mF 48 (lk [(0,Z g1),(1,Z g2),(2,vB p2),(3,vB p3),(9,Z g3),(10,Z g4),(11,Z g5)] j) a/\Fit z (aG (L)) w) K ⟨O,Y,0,1,0,H,r.fj h⟩<|?_;clear h r H;rintro k1 a w ⟨g1,g2,g3,g4,g5,H,j,r,h⟩;cases k1 with
 | zero=>exact absurd H (by simp[lD])
 | succ k1 =>
  rw[lD]at H;refine qq r<|wq<|aN [U,dm (g5<64)]<|G<|dQ H (λc6 H=>?_) λc6 H=>?_
  ·refine gC<|wq<|wb<|ks<|gg H λr7 e8 H=>bS<|fe (yf e8 h :) λw h=>bS<|G<|ks<|gg H λr9 Fi H=>bS<|fe (yf Fi h :) λw h=>bS<|G<|HM H λo13 H Rp=>λ_ r=>dz (β:=Unit) (λ_ a w=>∃sV:Int,sV=o13/\∃j,mF 48 (lk [(0,Z g1),(1,Z g2),(2,vB p2),(3,vB p3),(9,Z sV),(10,Z g4),(11,Z g5)] j) a/\Fit z (aG (L)) w) ?_ ?_
   ·refine qq r<|aN dk<|qI H (λAZ H=>?_) λAZ H=>?_
    ·refine cW (AZ) [24] [vB r9]<|oM (AZ) (vB r9)<|bS<|qI H (λpR H=>?_) λpR H=>?_
     ·refine cW (pR) [27] [vB p2]<|oM (pR) (vB p2)<|bS<|qI H (λuS H=>?_) λuS H=>?_
      ·refine cu (uS) [30,31,32,33]<|J8 true [34]<|cu (uS) [35]<|oM (uS) (vB true)<|G<|λ_ r=>hJ r (b:=true) rfl<|qq r<|wl<|ko [U,U,Z (wi (g3+g4)),Z (wi (g3+g4))]<|G<|?_;exact λ_ r=>⟨(),(wi (g3+g4)),gN H,r.fj h⟩
      refine cW (bF uS) [30,31,32,33] [vB r7,vB r9,vB (!(r7==r9)),vB (!(r7==r9))]<|qI H (λzE H=>?_) λzE H=>?_
      ·refine cu (show(!(r7==r9))=false from(by rw[show(r7==r9)=true from(beq_iff_eq.mpr zE)];rfl)) [34]<|λ_ r=>Dz (sY r (bF uS)) r (vB false) (IZ (b:=(!(r7==r9))) rfl aY (by rw[show(r7==r9)=true from(beq_iff_eq.mpr zE)];rfl) aY)<|?_;refine oG (bF uS) (vB false)<|G<|λ_ r=>jb r (b:=false) rfl<|qq r<|gC<|?_;exact λ_ r=>⟨(),g3,gN H,r.fj h⟩
      refine cW (show(!(r7==r9))=true from(by rw[show(r7==r9)=false from(bN zE)];rfl)) [34] [vB p3]<|λ_ r=>Dz (sY r (bF uS)) r (vB p3) (IY (b:=(!(r7==r9))) rfl aY (by rw[show(r7==r9)=false from(bN zE)];rfl) aY)<|?_;refine oG (bF uS) (vB p3)<|G<|FZ H (λEx H=>?_) λEx H=>?_
      ·refine wl<|ko [U,U,Z (wi (g3+g4)),Z (wi (g3+g4))]<|G<|?_;exact λ_ r=>⟨(),(wi (g3+g4)),gN H,r.fj h⟩
      refine gC<|?_;exact λ_ r=>⟨(),g3,gN H,r.fj h⟩
     refine cu (bF pR) [27]<|oG (bF pR) (vB false)<|bS<|cW (rfl:false=false) [30,31,32,33] [vB r7,vB r9,vB (!(r7==r9)),vB (!(r7==r9))]<|qI H (λuT H=>?_) λuT H=>?_
     ·refine cu (show(!(r7==r9))=false from(by rw[show(r7==r9)=true from(beq_iff_eq.mpr uT)];rfl)) [34]<|λ_ r=>Dz (sY r (c:=false) rfl) r (vB false) (IZ (b:=(!(r7==r9))) rfl aY (by rw[show(r7==r9)=true from(beq_iff_eq.mpr uT)];rfl) aY)<|?_;refine bS<|G<|λ_ r=>jb r (b:=false) rfl<|qq r<|gC<|?_;exact λ_ r=>⟨(),g3,gN H,r.fj h⟩
     refine cW (show(!(r7==r9))=true from(by rw[show(r7==r9)=false from(bN uT)];rfl)) [34] [vB p3]<|λ_ r=>Dz (sY r (c:=false) rfl) r (vB p3) (IY (b:=(!(r7==r9))) rfl aY (by rw[show(r7==r9)=false from(bN uT)];rfl) aY)<|?_;refine bS<|G<|FZ H (λmV H=>?_) λmV H=>?_
     ·refine wl<|ko [U,U,Z (wi (g3+g4)),Z (wi (g3+g4))]<|G<|?_;exact λ_ r=>⟨(),(wi (g3+g4)),gN H,r.fj h⟩
     refine gC<|?_;exact λ_ r=>⟨(),g3,gN H,r.fj h⟩
    refine cu (bF AZ) [24]<|oG (bF AZ) (vB false)<|bS<|cu (rfl:false=false) [27]<|ko dk<|cW (rfl:false=false) [30,31,32,33] [vB r7,vB r9,vB (!(r7==r9)),vB (!(r7==r9))]<|qI H (λsq H=>?_) λsq H=>?_
    ·refine cu (show(!(r7==r9))=false from(by rw[show(r7==r9)=true from(beq_iff_eq.mpr sq)];rfl)) [34]<|λ_ r=>Dz (sY r (c:=false) rfl) r (vB false) (IZ (b:=(!(r7==r9))) rfl aY (by rw[show(r7==r9)=true from(beq_iff_eq.mpr sq)];rfl) aY)<|?_;refine bS<|G<|λ_ r=>jb r (b:=false) rfl<|qq r<|gC<|?_;exact λ_ r=>⟨(),g3,gN H,r.fj h⟩
    refine cW (show(!(r7==r9))=true from(by rw[show(r7==r9)=false from(bN sq)];rfl)) [34] [vB p3]<|λ_ r=>Dz (sY r (c:=false) rfl) r (vB p3) (IY (b:=(!(r7==r9))) rfl aY (by rw[show(r7==r9)=false from(bN sq)];rfl) aY)<|?_;refine bS<|G<|FZ H (λFj H=>?_) λFj H=>?_
    ·refine wl<|ko [U,U,Z (wi (g3+g4)),Z (wi (g3+g4))]<|G<|?_;exact λ_ r=>⟨(),(wi (g3+g4)),gN H,r.fj h⟩
    refine gC<|?_;exact λ_ r=>⟨(),g3,gN H,r.fj h⟩
   clear h r;rintro _ a w ⟨sV,rfl,j,r,h⟩;replace H:=Hw Rp;refine qq r<|aN [U,U,Z (wi (g4+g4)),Z (wi (g4+g4))]<|G<|ks<|gg H λrB TG H=>bS<|fe (tS TG h :) λw h=>bS<|G<|wl<|gg H λzi Wy H=>bS<|fe (tS Wy h :) λw h=>bS<|kl<|bn<|tn<|wl<|ko [U,Z (wi (g5+1)),Z (wi (g5+1))]<|G<|?_;exact λ_ r=>⟨_,⟨rB,zi,sV,(wi (g4+g4)),(wi (g5+1)),H,r.fj h⟩,jG _⟩
  refine wx<|te<|te<|bh<|tn<|aN dk<|cr<|?_;cases H;exact fX h
def lF(O:Int):Option (Int):=
 (if(O.tmod (64:Int))<0 then some (wi ((O.tmod (64:Int))+64))else some (O.tmod (64:Int)))
theorem wN(H:lF O=some r0)(h:iV z (L) w) :
 nM 182 #[Z O] w z (Z r0) (L):=by
 unfold lF at H;refine ke Tryz.func182 11 rfl λj=>iv<|aN [U]<|kp (Z (O.tmod (64:Int))) (Ma rfl aY aY dO)<|ko [Z (O.tmod (64:Int))]<|G<|wq<|aN [Z (O.tmod (64:Int)),dm ((O.tmod (64:Int))<0)]<|G<|dQ H (λc1 H=>?_) λc1 H=>?_
 ·refine wl<|ko [Z (O.tmod (64:Int)),Z (wi ((O.tmod (64:Int))+64)),Z (wi ((O.tmod (64:Int))+64))]<|G<|aN [Z (wi ((O.tmod (64:Int))+64)),Z (wi ((O.tmod (64:Int))+64))]<|cr<|?_;cases H;exact fX h
 refine gC<|aN [Z (O.tmod (64:Int)),Z (O.tmod (64:Int))]<|cr<|?_;cases H;exact fX h
def gY(K:Nat)(Y:Int)(p2:Bool):Nat->Int->Int->Option (Int)
 | 0,_,_=>none
 | k1+1,g1,g2=>(if g2<Y then(if p2=true then(gY K Y p2 k1 (wi (g1+g1)) (wi (g2+1)))else eA (kY g1) (λr5=>(gY K Y p2 k1 r5 (wi (g2+1)))))else some g1)
def lG(K:Nat)(O:Int)(Y:Int)(p2:Bool):Option (Int):=
 (gY K Y p2 K O 0)
theorem wO(H:lG K O Y p2=some r0)(h:iV z (L) w) :
 nM 181 #[Z O,Z Y,vB p2] w z (Z r0) (L):=by
 unfold lG at H;refine ke Tryz.func181 20 rfl λj=>iv<|wq<|iv<|wb<|λ_ r=>eD (β:=Nat) id (λm a w=>∃g1:Int,∃g2:Int,(gY K Y p2 m g1 g2)=some r0/\∃j,mF 20 (lk [(0,Z g1),(1,Z Y),(2,vB p2),(7,Z g2)] j) a/\Fit z (aG (L)) w) K ⟨O,0,H,r.fj h⟩<|?_;clear h r H;rintro k1 a w ⟨g1,g2,H,j,r,h⟩;cases k1 with
 | zero=>exact absurd H (by simp[gY])
 | succ k1 =>
  rw[gY]at H;refine qq r<|wq<|aN [U,U,dm (g2<Y)]<|G<|dQ H (λc3 H=>?_) λc3 H=>?_
  ·refine gC<|wq<|wb<|iv<|FZ H (λc4 H=>?_) λc4 H=>?_
   ·refine wl<|ko [U,U,Z (wi (g1+g1)),Z (wi (g1+g1))]<|kl<|bn<|tn<|wl<|ko [U,Z (wi (g2+1)),Z (wi (g2+1))]<|G<|?_;exact λ_ r=>⟨_,⟨(wi (g1+g1)),(wi (g2+1)),H,r.fj h⟩,jG _⟩
   refine wl<|gg H λr5 e6 H=>bS<|fe (tS e6 h :) λw h=>bS<|kl<|bn<|tn<|wl<|ko [U,Z (wi (g2+1)),Z (wi (g2+1))]<|G<|?_;exact λ_ r=>⟨_,⟨r5,(wi (g2+1)),H,r.fj h⟩,jG _⟩
  refine wx<|te<|te<|bh<|tn<|aN dk<|cr<|?_;cases H;exact fX h
def iH(O:Bool):Option (Int):=
 (if O=true then some 1 else some 0)
theorem qE(H:iH O=some r0)(h:iV z (L) w) :
 nM 187 #[vB O] w z (Z r0) (L):=by
 unfold iH at H;refine ke Tryz.func187 4 rfl λj=>iv<|wq<|iv<|FZ H (λc1 H=>?_) λc1 H=>?_
 ·refine iv<|wr<|tr<|?_;cases H;exact fX h
 refine gC<|iv<|wr<|?_;cases H;exact fX h
def tU(O:Int)(Y:Int)(p2:Int):Option (Int):=
 (if O=10 then(if Y<p2 then some Y else some p2)else(if O=11 then(if Y>p2 then some Y else some p2)else(if O=12 then eA (iH (decide (Y<p2))) (λr6=>some r6)else(if O=13 then eA (iH (decide (Y<=p2))) (λr9=>some r9)else(if O=14 then eA (iH (Y==p2)) (λxV=>some xV)else eA (iH (Y != p2)) (λjc=>some jc))))))
theorem AN(H:tU O Y p2=some r0)(h:iV z (L) w) :
 nM 183 #[Z O,Z Y,Z p2] w z (Z r0) (L):=by
 unfold tU at H;refine ke Tryz.func183 44 rfl λj=>iv<|wq<|iv<|wb<|aN [vB (O==10),vB (O==10)]<|G<|dQ H (λc1 H=>?_) λc1 H=>?_
 ·refine wq<|aN [U,U,dm (Y<p2)]<|G<|dQ H (λc2 H=>?_) λc2 H=>?_
  ·refine aN dk<|cr<|tr<|br<|tr<|?_;cases H;exact fX h
  refine gC<|aN dk<|cr<|br<|tr<|?_;cases H;exact fX h
 refine aN [vB (O==11),vB (O==11)]<|G<|dQ H (λc3 H=>?_) λc3 H=>?_
 ·refine wq<|aN [U,U,dm (Y>p2)]<|G<|dQ H (λc4 H=>?_) λc4 H=>?_
  ·refine aN dk<|cr<|tr<|br<|tr<|?_;cases H;exact fX h
  refine gC<|aN dk<|cr<|br<|tr<|?_;cases H;exact fX h
 refine aN [vB (O==12),vB (O==12)]<|G<|dQ H (λc5 H=>?_) λc5 H=>?_
 ·refine ks<|gg H λr6 e7 H=>ko [U,U,dm (Y<p2)]<|fe (qE e7 h :) λw h=>bS<|cr<|br<|tr<|?_;cases H;exact fX h
 refine aN [vB (O==13),vB (O==13)]<|G<|dQ H (λc8 H=>?_) λc8 H=>?_
 ·refine ks<|gg H λr9 Fi H=>ko [U,U,dm (Y<=p2)]<|fe (qE Fi h :) λw h=>bS<|cr<|br<|tr<|?_;cases H;exact fX h
 refine aN [vB (O==14),vB (O==14)]<|G<|dQ H (λvw H=>?_) λvw H=>?_
 ·refine ks<|gg H λxV Y7 H=>ko [U,U,vB (Y==p2)]<|fe (qE Y7 h :) λw h=>bS<|cr<|br<|tr<|?_;cases H;exact fX h
 refine wk<|bn<|tn<|ks<|gg H λjc I9 H=>ko [U,U,vB (Y != p2)]<|fe (qE I9 h :) λw h=>bS<|cr<|?_;cases H;exact fX h
def rN(K:Nat)(O:Int)(Y:Int)(p2:Int):Option (Int):=
 (if O=0 then some (wi (Y+p2))else(if O=1 then some (wi (Y-p2))else(if O=2 then some (wi (Y*p2))else(if O=3 then eA (oY Y p2) (λr5=>some r5)else(if O=4 then eA (oY Y p2) (λr8=>some (wi (Y-(wi (r8*p2)))))else(if O=5 then eA (jF K Y p2 true false) (λuO=>some uO)else(if O=6 then eA (jF K Y p2 true true) (λjc=>some jc)else(if O=7 then eA (jF K Y p2 false true) (λDj=>some Dj)else(if O=8 then eA (lF p2) (λCa=>eA (lG K Y Ca true) (λLQ=>some LQ))else(if O=9 then eA (lF p2) (λzi=>eA (lG K Y zi false) (λOo=>some Oo))else eA (tU O Y p2) (λTP=>some TP)))))))))))
theorem C0(H:rN K O Y p2=some r0)(h:iV z (L) w) :
 nM 169 #[Z O,Z Y,Z p2] w z (Z r0) (L):=by
 unfold rN at H;refine ke Tryz.func169 68 rfl λj=>iv<|wq<|iv<|wb<|aN [vB (O==0),vB (O==0)]<|G<|dQ H (λc1 H=>?_) λc1 H=>?_
 ·refine aN [U,U,Z (wi (Y+p2)),Z (wi (Y+p2))]<|cr<|br<|tr<|?_;cases H;exact fX h
 refine aN [vB (O==1),vB (O==1)]<|G<|dQ H (λc2 H=>?_) λc2 H=>?_
 ·refine aN [U,U,Z (wi (Y-p2)),Z (wi (Y-p2))]<|cr<|br<|tr<|?_;cases H;exact fX h
 refine aN [vB (O==2),vB (O==2)]<|G<|dQ H (λc3 H=>?_) λc3 H=>?_
 ·refine aN [U,U,Z (wi (Y*p2)),Z (wi (Y*p2))]<|cr<|br<|tr<|?_;cases H;exact fX h
 refine aN [vB (O==3),vB (O==3)]<|G<|dQ H (λc4 H=>?_) λc4 H=>?_
 ·refine ks<|gg H λr5 e6 H=>ko dk<|fe (xj e6 h :) λw h=>bS<|cr<|br<|tr<|?_;cases H;exact fX h
 refine aN [vB (O==4),vB (O==4)]<|G<|dQ H (λc7 H=>?_) λc7 H=>?_
 ·refine ks<|gg H λr8 e9 H=>ko lI<|fe (xj e9 h :) λw h=>ko [U,Z (wi (r8*p2)),Z (wi (Y-(wi (r8*p2)))),Z (wi (Y-(wi (r8*p2))))]<|cr<|br<|tr<|?_;cases H;exact fX h
 refine aN [vB (O==5),vB (O==5)]<|G<|dQ H (λqR H=>?_) λqR H=>?_
 ·refine ks<|gg H λuO Es H=>ko dk<|fe (tT Es h :) λw h=>bS<|cr<|br<|tr<|?_;cases H;exact fX h
 refine aN [vB (O==6),vB (O==6)]<|G<|dQ H (λyl H=>?_) λyl H=>?_
 ·refine ks<|gg H λjc I9 H=>ko dk<|fe (tT I9 h :) λw h=>bS<|cr<|br<|tr<|?_;cases H;exact fX h
 refine aN [vB (O==7),vB (O==7)]<|G<|dQ H (λuS H=>?_) λuS H=>?_
 ·refine ks<|gg H λDj Cy H=>ko dk<|fe (tT Cy h :) λw h=>bS<|cr<|br<|tr<|?_;cases H;exact fX h
 refine aN [vB (O==8),vB (O==8)]<|G<|dQ H (λuT H=>?_) λuT H=>?_
 ·refine ks<|gg H λCa MT H=>ko dk<|fe (wN MT h :) λw h=>gg H λLQ Bp H=>fe (wO Bp h :) λw h=>bS<|cr<|br<|tr<|?_;cases H;exact fX h
 refine aN [vB (O==9),vB (O==9)]<|G<|dQ H (λAb H=>?_) λAb H=>?_
 ·refine ks<|gg H λzi Wy H=>ko dk<|fe (wN Wy h :) λw h=>gg H λOo Ot H=>fe (wO Ot h :) λw h=>bS<|cr<|br<|tr<|?_;cases H;exact fX h
 refine wk<|bn<|tn<|ks<|gg H λTP Qc H=>ko lI<|fe (AN Qc h :) λw h=>bS<|cr<|?_;cases H;exact fX h
def qG(K:Nat)(O:Int)(Y:Int)(p2:Int):Option (Int×Int):=
 (if O<0 then some (0,10)else(if O>=16 then some (0,10)else eA (rN K O Y p2) (λr3=>some (r3,0))))
theorem Cs(H:qG K O Y p2=some (r0,r1))(h:iV z (L) w) :
 nM 146 #[Z O,Z Y,Z p2] w z (.tuple #[Z r0,Z r1]) (L):=by
 unfold qG at H;refine ke Tryz.func146 18 rfl λj=>aN dk<|G<|wq<|aN [U,dm (O<0),dm (O<0)]<|qI H (λc1 H=>?_) λc1 H=>?_
 ·refine cu (dT c1) [11,12]<|oM (dT c1) (vB true)<|G<|λ_ r=>hJ r (b:=true) rfl<|qq r<|aN dk<|cr<|tr<|?_;cases H;exact KB h
 refine cW (dF c1) [11,12] [Z O,dm (O>=16)]<|oG (dF c1) (dm (O>=16))<|G<|dQ H (λc2 H=>?_) λc2 H=>?_
 ·refine aN dk<|cr<|tr<|?_;cases H;exact KB h
 refine gC<|ks<|gg H λr3 e4 H=>ko lI<|fe (C0 e4 h :) λw h=>ko dk<|cr<|?_;cases H;exact KB h
def lP(K:Nat)(O:bB)(aE:List aD)(Y:dN)(p2:cG):Option (dN):=
 (if p2.aP=0 then if bM p2.A 16 then some ({Y with sw:=mB 16 Y.sw p2.A.toNat p2.K})else none else(if p2.aP=1 then if bM p2.B 16 then if bM p2.A 16 then some ({Y with sw:=mB 16 Y.sw p2.A.toNat (J Y.sw p2.B.toNat)})else none else none else(if p2.aP=2 then if bM p2.B 16 then if bM p2.C 16 then tL (qG K p2.K (J Y.sw p2.B.toNat) (J Y.sw p2.C.toNat)) (λxV vQ=>if bM p2.A 16 then some ({Y with sw:=mB 16 Y.sw p2.A.toNat xV})else none)else none else none else(if p2.aP=7 then if bM p2.B 8 then if bM p2.A 16 then some ({Y with sw:=mB 16 Y.sw p2.A.toNat (J Y.nq p2.B.toNat)})else none else none else(if p2.aP=8 then if bM Y.Me O.bI.length then if bM p2.A 16 then some ({Y with sw:=mB 16 Y.sw p2.A.toNat (J O.bI Y.Me.toNat).E6})else none else none else(if p2.aP=3 then some ({Y with At:=p2.A})else(if p2.aP=4 then if bM p2.A 16 then(if(J Y.sw p2.A.toNat)=0 then some Y else some ({Y with At:=p2.B}))else none else some Y)))))))
theorem zd(H:lP K O aE Y p2=some q1)(h:iV z (Dt B0 O (bO aX aE.length bG) kT lu::zV kT lu O.bI::Du B1 Y::L) w)(eN:Bk L aX fA aE) :
 nM 119 #[pA B0 0,pA B1 0,gQ p2] w z (.tuple #[]) (Dt B0 O (bO aX aE.length bG) kT lu::zV kT lu O.bI::Du B1 q1::L):=by
 unfold lP at H;refine ke Tryz.func119 120 rfl λj=>ks<|kN h (mI p2) 132 λb3 w h=>G<|aN [U]<|kL h 0<|G<|wb<|aN [vB (p2.aP==0),vB (p2.aP==0)]<|G<|dQ H (λc4 H=>?_) λc4 H=>?_
 ·refine qg H λc5 H=>nc [(b3,1,[Z p2.A]),(b3,4,[Z p2.K])] [1,3,5,6] 9 h (λh=>⟨⟨h.cell 1 rfl,bU⟩,⟨h.cell 4 rfl,bU⟩,bU⟩) λw h hd =>mD hd 4 12 [([0,5],pA B1 0),([1],pA b3 1),([3],pA b3 4),([6],pA B1 2)]<|eR hd 0 3 2 rfl<|eR hd 1 2 4 rfl<|nZ hd 1 7 rfl (pA B1 (2+p2.A.toNat*1)) (λw=>uM (k:=.i64) (E:=2) (N:=16) rfl aY aY aY aY c5)<|λ_ r=>lQ 8 rfl<|qh h.m3 λh=>s9 (C:=[Z Y.Me,Z Y.iN]++ef 16 aO Y.sw++ef 8 aO Y.nq++[Z Y.At,Z Y.dZ,Z Y.End,Z Y.Kids]) (C':=[Z Y.Me,Z Y.iN]++ef 16 aO (mB 16 Y.sw p2.A.toNat p2.K)++ef 8 aO Y.nq++[Z Y.At,Z Y.dZ,Z Y.End,Z Y.Kids]) (v:=Z p2.K) (wn rfl) rfl r rfl aY aY rfl rfl aY h (oF (f:=0) (pre:=[Z Y.Me,Z Y.iN]) (post:=ef 8 aO Y.nq++[Z Y.At,Z Y.dZ,Z Y.End,Z Y.Kids]) rfl aL rfl (kZ c5) rfl) (uw (y:=p2.K) (pre:=[Z Y.Me,Z Y.iN]) (post:=ef 8 aO Y.nq++[Z Y.At,Z Y.dZ,Z Y.End,Z Y.Kids]) rfl aL rfl (kZ c5) rfl rfl) λw h=>qq r<|G<|mK<|nk<|bn<|?_;cases H;exact HN (h.se 4 [2,3,0])
 refine aN [vB (p2.aP==1),vB (p2.aP==1)]<|G<|dQ H (λc6 H=>?_) λc6 H=>?_
 ·refine qg H λc7 H=>qg H λc8 H=>nc [(b3,1,[Z p2.A]),(b3,2,[Z p2.B]),(B1,2+p2.B.toNat*1,[Z (J Y.sw p2.B.toNat)])] [1,4,6,7,8,10,11] 14 h (λh=>⟨⟨h.cell 1 rfl,bU⟩,⟨h.cell 2 rfl,bU⟩,⟨(h.pick 3).cell (2+p2.B.toNat*1) (Wa (oF (C:=[Z Y.Me,Z Y.iN]++ef 16 aO Y.sw++ef 8 aO Y.nq++[Z Y.At,Z Y.dZ,Z Y.End,Z Y.Kids]) (f:=0) (pre:=[Z Y.Me,Z Y.iN]) (post:=ef 8 aO Y.nq++[Z Y.At,Z Y.dZ,Z Y.End,Z Y.Kids]) rfl aL rfl (kZ c7) rfl)),bU⟩,bU⟩) λw h hd =>mD hd 6 22 [([0,3,6,10],pA B1 0),([1],pA b3 1),([4],pA b3 2),([7,11],pA B1 2)]<|eR hd 0 5 2 rfl<|eR hd 1 4 5 rfl<|nZ hd 3 8 rfl (pA B1 (2+p2.B.toNat*1)) (λw=>uM (k:=.i64) (E:=2) (N:=16) rfl aY aY aY aY c7)<|eR hd 2 2 9 rfl<|nZ hd 1 12 rfl (pA B1 (2+p2.A.toNat*1)) (λw=>uM (k:=.i64) (E:=2) (N:=16) rfl aY aY aY aY c8)<|λ_ r=>lQ 13 rfl<|qh h.m3 λh=>s9 (C:=[Z Y.Me,Z Y.iN]++ef 16 aO Y.sw++ef 8 aO Y.nq++[Z Y.At,Z Y.dZ,Z Y.End,Z Y.Kids]) (C':=[Z Y.Me,Z Y.iN]++ef 16 aO (mB 16 Y.sw p2.A.toNat (J Y.sw p2.B.toNat))++ef 8 aO Y.nq++[Z Y.At,Z Y.dZ,Z Y.End,Z Y.Kids]) (v:=Z (J Y.sw p2.B.toNat)) (wn rfl) rfl r rfl aY aY rfl rfl aY h (oF (f:=0) (pre:=[Z Y.Me,Z Y.iN]) (post:=ef 8 aO Y.nq++[Z Y.At,Z Y.dZ,Z Y.End,Z Y.Kids]) rfl aL rfl (kZ c8) rfl) (uw (y:=(J Y.sw p2.B.toNat)) (pre:=[Z Y.Me,Z Y.iN]) (post:=ef 8 aO Y.nq++[Z Y.At,Z Y.dZ,Z Y.End,Z Y.Kids]) rfl aL rfl (kZ c8) rfl rfl) λw h=>qq r<|G<|mK<|nk<|bn<|?_;cases H;exact HN (h.se 4 [2,3,0])
 refine aN [vB (p2.aP==2),vB (p2.aP==2)]<|G<|dQ H (λc9 H=>?_) λc9 H=>?_
 ·refine wq<|qg H λqR H=>qg H λvw H=>w7 H λxV vQ Gl H=>nc [(b3,4,[Z p2.K]),(b3,2,[Z p2.B]),(B1,2+p2.B.toNat*1,[Z (J Y.sw p2.B.toNat)]),(b3,3,[Z p2.C]),(B1,2+p2.C.toNat*1,[Z (J Y.sw p2.C.toNat)])] [0,3,5,6,7,10,12,13,14] 22 h (λh=>⟨⟨h.cell 4 rfl,bU⟩,⟨h.cell 2 rfl,bU⟩,⟨(h.pick 3).cell (2+p2.B.toNat*1) (Wa (oF (C:=[Z Y.Me,Z Y.iN]++ef 16 aO Y.sw++ef 8 aO Y.nq++[Z Y.At,Z Y.dZ,Z Y.End,Z Y.Kids]) (f:=0) (pre:=[Z Y.Me,Z Y.iN]) (post:=ef 8 aO Y.nq++[Z Y.At,Z Y.dZ,Z Y.End,Z Y.Kids]) rfl aL rfl (kZ qR) rfl)),bU⟩,⟨h.cell 3 rfl,bU⟩,⟨(h.pick 3).cell (2+p2.C.toNat*1) (Wa (oF (C:=[Z Y.Me,Z Y.iN]++ef 16 aO Y.sw++ef 8 aO Y.nq++[Z Y.At,Z Y.dZ,Z Y.End,Z Y.Kids]) (f:=0) (pre:=[Z Y.Me,Z Y.iN]) (post:=ef 8 aO Y.nq++[Z Y.At,Z Y.dZ,Z Y.End,Z Y.Kids]) rfl aL rfl (kZ vw) rfl)),bU⟩,bU⟩) λw h hd =>mD hd 13 38 [([0],pA b3 4),([2,5,9,12],pA B1 0),([3],pA b3 2),([6,13],pA B1 2),([10],pA b3 3)]<|eR hd 0 12 1 rfl<|eR hd 1 11 4 rfl<|nZ hd 10 7 rfl (pA B1 (2+p2.B.toNat*1)) (λw=>uM (k:=.i64) (E:=2) (N:=16) rfl aY aY aY aY qR)<|eR hd 2 9 8 rfl<|eR hd 3 8 11 rfl<|nZ hd 7 14 rfl (pA B1 (2+p2.C.toNat*1)) (λw=>uM (k:=.i64) (E:=2) (N:=16) rfl aY aY aY aY vw)<|eR hd 4 6 15 rfl<|mh 16 rfl<|fe (Cs Gl h :) λw h=>G<|mK<|iK 4 17 rfl (.tuple #[Z xV,Z vQ])<|iK 3 18 rfl (Z xV)<|iK 2 19 rfl (Z vQ)<|iK 1 20 rfl (Z xV)<|iK 0 21 rfl (Z vQ)<|nk<|tn<|qg H λpR H=>nc [(b3,1,[Z p2.A])] [1,4,5] 8 h (λh=>⟨⟨h.cell 1 rfl,bU⟩,bU⟩) λw h hd =>mD hd 3 57 [([0,4],pA B1 0),([1],pA b3 1),([3],Z xV),([5],pA B1 2)]<|eR hd 0 2 2 rfl<|nZ hd 1 6 rfl (pA B1 (2+p2.A.toNat*1)) (λw=>uM (k:=.i64) (E:=2) (N:=16) rfl aY aY aY aY pR)<|λ_ r=>lQ 7 rfl<|qh h.m3 λh=>s9 (C:=[Z Y.Me,Z Y.iN]++ef 16 aO Y.sw++ef 8 aO Y.nq++[Z Y.At,Z Y.dZ,Z Y.End,Z Y.Kids]) (C':=[Z Y.Me,Z Y.iN]++ef 16 aO (mB 16 Y.sw p2.A.toNat xV)++ef 8 aO Y.nq++[Z Y.At,Z Y.dZ,Z Y.End,Z Y.Kids]) (v:=Z xV) (wn rfl) rfl r rfl aY aY rfl rfl aY h (oF (f:=0) (pre:=[Z Y.Me,Z Y.iN]) (post:=ef 8 aO Y.nq++[Z Y.At,Z Y.dZ,Z Y.End,Z Y.Kids]) rfl aL rfl (kZ pR) rfl) (uw (y:=xV) (pre:=[Z Y.Me,Z Y.iN]) (post:=ef 8 aO Y.nq++[Z Y.At,Z Y.dZ,Z Y.End,Z Y.Kids]) rfl aL rfl (kZ pR) rfl rfl) λw h=>qq r<|G<|mK<|nk<|bn<|?_;cases H;exact HN (h.se 4 [2,3,0])
 refine aN [vB (p2.aP==7),vB (p2.aP==7)]<|G<|dQ H (λuS H=>?_) λuS H=>?_
 ·refine qg H λzE H=>qg H λEx H=>nc [(b3,1,[Z p2.A]),(b3,2,[Z p2.B]),(B1,18+p2.B.toNat*1,[Z (J Y.nq p2.B.toNat)])] [1,4,6,7,8,10,11] 14 h (λh=>⟨⟨h.cell 1 rfl,bU⟩,⟨h.cell 2 rfl,bU⟩,⟨(h.pick 3).cell (18+p2.B.toNat*1) (Wa (oF (C:=[Z Y.Me,Z Y.iN]++ef 16 aO Y.sw++ef 8 aO Y.nq++[Z Y.At,Z Y.dZ,Z Y.End,Z Y.Kids]) (f:=0) (pre:=[Z Y.Me,Z Y.iN]++ef 16 aO Y.sw) (post:=[Z Y.At,Z Y.dZ,Z Y.End,Z Y.Kids]) rfl aL rfl (kZ zE) rfl)),bU⟩,bU⟩) λw h hd =>mD hd 6 66 [([0,3,6,10],pA B1 0),([1],pA b3 1),([4],pA b3 2),([7],pA B1 18),([11],pA B1 2)]<|eR hd 0 5 2 rfl<|eR hd 1 4 5 rfl<|nZ hd 3 8 rfl (pA B1 (18+p2.B.toNat*1)) (λw=>uM (k:=.i64) (E:=2) (N:=8) rfl aY aY aY aY zE)<|eR hd 2 2 9 rfl<|nZ hd 1 12 rfl (pA B1 (2+p2.A.toNat*1)) (λw=>uM (k:=.i64) (E:=2) (N:=16) rfl aY aY aY aY Ex)<|λ_ r=>lQ 13 rfl<|qh h.m3 λh=>s9 (C:=[Z Y.Me,Z Y.iN]++ef 16 aO Y.sw++ef 8 aO Y.nq++[Z Y.At,Z Y.dZ,Z Y.End,Z Y.Kids]) (C':=[Z Y.Me,Z Y.iN]++ef 16 aO (mB 16 Y.sw p2.A.toNat (J Y.nq p2.B.toNat))++ef 8 aO Y.nq++[Z Y.At,Z Y.dZ,Z Y.End,Z Y.Kids]) (v:=Z (J Y.nq p2.B.toNat)) (wn rfl) rfl r rfl aY aY rfl rfl aY h (oF (f:=0) (pre:=[Z Y.Me,Z Y.iN]) (post:=ef 8 aO Y.nq++[Z Y.At,Z Y.dZ,Z Y.End,Z Y.Kids]) rfl aL rfl (kZ Ex) rfl) (uw (y:=(J Y.nq p2.B.toNat)) (pre:=[Z Y.Me,Z Y.iN]) (post:=ef 8 aO Y.nq++[Z Y.At,Z Y.dZ,Z Y.End,Z Y.Kids]) rfl aL rfl (kZ Ex) rfl rfl) λw h=>qq r<|G<|mK<|nk<|bn<|?_;cases H;exact HN (h.se 4 [2,3,0])
 refine aN [vB (p2.aP==8),vB (p2.aP==8)]<|G<|dQ H (λuT H=>?_) λuT H=>?_
 ·refine qg H λmV H=>qg H λsq H=>nc [(b3,1,[Z p2.A]),(B0,3,[bO kT O.bI.length lu]),(B1,0,[Z Y.Me]),(dR kT,Y.Me.toNat*7+4,[Z (J O.bI Y.Me.toNat).E6])] [1,4,5,8,9,11,12,14,15] 18 h (λh=>⟨⟨h.cell 1 rfl,bU⟩,⟨(h.pick 1).cell 3 rfl,bU⟩,⟨(h.pick 3).cell 0 rfl,bU⟩,⟨(h.pick 2).cU od (f:=4) (bp mV) rfl,bU⟩,bU⟩) λw h hd =>mD hd 8 81 [([0,7,8,9,14],pA B1 0),([1],pA b3 1),([3,4],pA B0 0),([5],pA B0 3),([15],pA B1 2)]<|eR hd 0 7 2 rfl<|eR hd 1 6 6 rfl<|eR hd 2 5 10 rfl<|nZ hd 4 11 rfl (pA (dR kT) (Y.Me.toNat*7)) (λw=>xS 167 rfl (h.pick 2) mV)<|nB hd 3 [(12,93,pA (dR kT) (Y.Me.toNat*7+4))]<|eR hd 3 2 13 rfl<|nZ hd 1 16 rfl (pA B1 (2+p2.A.toNat*1)) (λw=>uM (k:=.i64) (E:=2) (N:=16) rfl aY aY aY aY sq)<|λ_ r=>lQ 17 rfl<|qh h.m3 λh=>s9 (C:=[Z Y.Me,Z Y.iN]++ef 16 aO Y.sw++ef 8 aO Y.nq++[Z Y.At,Z Y.dZ,Z Y.End,Z Y.Kids]) (C':=[Z Y.Me,Z Y.iN]++ef 16 aO (mB 16 Y.sw p2.A.toNat (J O.bI Y.Me.toNat).E6)++ef 8 aO Y.nq++[Z Y.At,Z Y.dZ,Z Y.End,Z Y.Kids]) (v:=Z (J O.bI Y.Me.toNat).E6) (wn rfl) rfl r rfl aY aY rfl rfl aY h (oF (f:=0) (pre:=[Z Y.Me,Z Y.iN]) (post:=ef 8 aO Y.nq++[Z Y.At,Z Y.dZ,Z Y.End,Z Y.Kids]) rfl aL rfl (kZ sq) rfl) (uw (y:=(J O.bI Y.Me.toNat).E6) (pre:=[Z Y.Me,Z Y.iN]) (post:=ef 8 aO Y.nq++[Z Y.At,Z Y.dZ,Z Y.End,Z Y.Kids]) rfl aL rfl (kZ sq) rfl rfl) λw h=>qq r<|G<|mK<|nk<|bn<|?_;cases H;exact HN (h.se 4 [2,3,0])
 refine aN [vB (p2.aP==3),vB (p2.aP==3)]<|G<|dQ H (λFj H=>?_) λFj H=>?_
 ·refine wl<|ko dk<|kL h 1<|ko dk<|qh h.m3 λh=>kS h 26 (Du B1 {Y with At:=p2.A}) λw h=>kl<|bn<|?_;cases H;exact HN (h.se 4 [2,3,0])
 refine aN [vB (p2.aP==4),vB (p2.aP==4)]<|G<|dQ H (λAs H=>?_) λAs H=>?_
 ·refine wq<|qg H λAb H=>nc [(b3,1,[Z p2.A]),(B1,2+p2.A.toNat*1,[Z (J Y.sw p2.A.toNat)])] [1,3,4,5] 8 h (λh=>⟨⟨h.cell 1 rfl,bU⟩,⟨(h.pick 3).cell (2+p2.A.toNat*1) (Wa (oF (C:=[Z Y.Me,Z Y.iN]++ef 16 aO Y.sw++ef 8 aO Y.nq++[Z Y.At,Z Y.dZ,Z Y.End,Z Y.Kids]) (f:=0) (pre:=[Z Y.Me,Z Y.iN]) (post:=ef 8 aO Y.nq++[Z Y.At,Z Y.dZ,Z Y.End,Z Y.Kids]) rfl aL rfl (kZ Ab) rfl)),bU⟩,bU⟩) λw h hd =>mD hd 4 107 [([0,3],pA B1 0),([1],pA b3 1),([4],pA B1 2)]<|eR hd 0 3 2 rfl<|nZ hd 2 5 rfl (pA B1 (2+p2.A.toNat*1)) (λw=>uM (k:=.i64) (E:=2) (N:=16) rfl aY aY aY aY Ab)<|eR hd 1 1 6 rfl<|nB hd 0 [(7,114,vB ((J Y.sw p2.A.toNat) != 0))]<|nk<|tn<|rU H (λyL H=>?_) λyL H=>?_
  ·refine wk<|bn<|?_;cases H;exact HN (h.se 4 [1,2,3])
  refine wl<|ko dk<|kL h 2<|ko dk<|qh h.m3 λh=>kS h 26 (Du B1 {Y with At:=p2.B}) λw h=>kl<|bn<|?_;cases H;exact HN (h.se 4 [2,3,0])
 refine wk<|bn<|?_;cases H;exact HN (h.se 4 [1,2,3])
def ij(K:Nat)(p2:List Int):Nat->(List Int)->Int->Option ((List Int))
 | 0,_,_=>none
 | k1+1,l9,F3=>(if F3<((p2.length:Nat):Int)then if bM F3 p2.length then if bM F3 16 then(ij K p2 k1 (mB 16 l9 F3.toNat (J p2 F3.toNat)) (wi (F3+1)))else none else none else some l9)
def ik(K:Nat)(aE:List aD)(Y:fg)(cR:dN):Nat->(List Int)->Int->Option ((List Int))
 | 0,_,_=>none
 | k3+1,wS,IE=>if bM (J (J aE Y.Func.toNat).ai cR.At.toNat).B aE.length then(if IE<(J aE (J (J aE Y.Func.toNat).ai cR.At.toNat).B.toNat).aS then if bM (wi ((J (J aE Y.Func.toNat).ai cR.At.toNat).C+IE)) 16 then if(wS.length+1)*8<=140737488355328 then(ik K aE Y cR k3 (wS++[(J cR.sw (wi ((J (J aE Y.Func.toNat).ai cR.At.toNat).C+IE)).toNat)]) (wi (IE+1)))else none else none else some wS)else none
def eI(K:Nat)(aE:List aD)(Y:fg)(U6:bB->(List aD)->fg->(List Int)->Int->Option (Int×Int×bB)):Nat->bB->dN->Option (Int×Int×bB)
 | 0,_,_=>none
 | k2+1,j6,cR=>(if j6.wQ=0 then(if j6.Left=0 then some (0,0,{j6 with wQ:=62})else if bM Y.Func aE.length then if bM cR.At (J aE Y.Func.toNat).ai.length then if bM cR.Me j6.bI.length then(if(J (J aE Y.Func.toNat).ai cR.At.toNat).aP=5 then(if cR.iN>=4096 then(eI K aE Y U6 k2 (⟨wi (j6.Left-1),63,j6.bI.set cR.Me.toNat ({J j6.bI cR.Me.toNat with j0:=wi ((J j6.bI cR.Me.toNat).j0+1)}),j6.Deep⟩:bB) ({cR with At:=wi (cR.At+1),dZ:=wi (cR.dZ+1)}))else eA ((ik K aE Y cR K ([]:List Int) 0)) (λl41=>if bM cR.Me (j6.bI.set cR.Me.toNat ({J j6.bI cR.Me.toNat with j0:=wi ((J j6.bI cR.Me.toNat).j0+1)})).length then eA (uA (J (j6.bI.set cR.Me.toNat ({J j6.bI cR.Me.toNat with j0:=wi ((J j6.bI cR.Me.toNat).j0+1)})) cR.Me.toNat).E6 cR.Kids) (λVJ=>ql (U6 ({j6 with Left:=wi (j6.Left-1),bI:=j6.bI.set cR.Me.toNat ({J j6.bI cR.Me.toNat with j0:=wi ((J j6.bI cR.Me.toNat).j0+1)})}) aE (⟨cR.Me,cR.Kids,(J (J aE Y.Func.toNat).ai cR.At.toNat).B,0,VJ,0,0⟩:fg) l41 (wi (cR.iN+1))) (λD6 Bs Qp=>if bM (J (J aE Y.Func.toNat).ai cR.At.toNat).A 8 then(eI K aE Y U6 k2 Qp (⟨cR.Me,cR.iN,cR.sw,mB 8 cR.nq (J (J aE Y.Func.toNat).ai cR.At.toNat).A.toNat D6,wi (cR.At+1),wi (cR.dZ+1),if(wi ((wi (cR.dZ+1))+Bs))>cR.End then(wi ((wi (cR.dZ+1))+Bs))else cR.End,wi (cR.Kids+1)⟩:dN))else none))else none))else(if(J (J aE Y.Func.toNat).ai cR.At.toNat).aP=6 then(eI K aE Y U6 k2 ({j6 with Left:=wi (j6.Left-1),bI:=j6.bI.set cR.Me.toNat ({J j6.bI cR.Me.toNat with j0:=wi ((J j6.bI cR.Me.toNat).j0+1)})}) ({cR with At:=wi (cR.At+1),dZ:=wi ((if cR.End>cR.dZ then cR.End else cR.dZ)+1),End:=0}))else(if(J (J aE Y.Func.toNat).ai cR.At.toNat).aP=9 then if bM (J (J aE Y.Func.toNat).ai cR.At.toNat).A 16 then if bM cR.Me (j6.bI.set cR.Me.toNat ({J j6.bI cR.Me.toNat with j0:=wi ((J j6.bI cR.Me.toNat).j0+1)})).length then some ((J cR.sw (J (J aE Y.Func.toNat).ai cR.At.toNat).A.toNat),wi (cR.dZ+1),{j6 with Left:=wi (j6.Left-1),bI:=(j6.bI.set cR.Me.toNat ({J j6.bI cR.Me.toNat with j0:=wi ((J j6.bI cR.Me.toNat).j0+1)})).set cR.Me.toNat ({{J j6.bI cR.Me.toNat with j0:=wi ((J j6.bI cR.Me.toNat).j0+1)}with V:=(J cR.sw (J (J aE Y.Func.toNat).ai cR.At.toNat).A.toNat)})})else none else none else eA (lP K ({j6 with Left:=wi (j6.Left-1),bI:=j6.bI.set cR.Me.toNat ({J j6.bI cR.Me.toNat with j0:=wi ((J j6.bI cR.Me.toNat).j0+1)})}) aE ({cR with At:=wi (cR.At+1),dZ:=wi (cR.dZ+1)}) (J (J aE Y.Func.toNat).ai cR.At.toNat)) (λRx=>(eI K aE Y U6 k2 ({j6 with Left:=wi (j6.Left-1),bI:=j6.bI.set cR.Me.toNat ({J j6.bI cR.Me.toNat with j0:=wi ((J j6.bI cR.Me.toNat).j0+1)})}) Rx)))))else none else none else none)else some (0,0,j6))
def fM(K:Nat):Nat->(bB->(List aD)->fg->(List Int)->Int->Option (Int×Int×bB))
 | 0=>λ_ _ _ _ _=>none
 | d+1=>λO aE Y p2 p3 =>
 eA ((ij K p2 K (List.replicate 16 (0:Int)) 0)) (λl6=>if bM (0:Int) 16 then eA ((if((p2.length:Nat):Int)=0 then some 0 else some (J l6 0))) (λQX=>if(O.bI.length+1)*56<=140737488355328 then(eI K aE Y (fM K d) K ({O with bI:=O.bI++[{Y with Arg:=QX}],Deep:=if p3>O.Deep then p3 else O.Deep}) (⟨((O.bI.length:Nat):Int),p3,l6,(List.replicate 8 (0:Int)),0,0,0,0⟩:dN))else none)else none)
def qH(K:Nat)(O:bB)(aE:List aD)(Y:fg)(p2:List Int)(p3:Int):Option (Int×Int×bB):=fM K K O aE Y p2 p3
abbrev VR:List Value:=[Z 0,Z 0,Z 0,Z 0]
abbrev U7 (B:Nat) (S:bB) (k0:Value) (a3:gF) (c3:Nat) (q:Nat):bu:=pts B (.cells #[k0,Z S.Left,Z S.wQ,.slice a3 q c3,Z S.Deep] 163)
theorem yq :∀(d:Nat) {L:List bu} {z w:World} {O q0:bB} {aE:List aD} {Y:fg} {p2:List Int} {p3 r0 r1:Int} {B0 bG lu wR:Nat} {aX kT u9:gF} {fA:Nat->Option Addr×Nat} (H:fM K d O aE Y p2 p3=some (r0,r1,q0)) (h:iV z (Dt B0 O (bO aX aE.length bG) kT lu::zV kT lu O.bI::L) w) (eN:Bk L aX fA aE) (Bz:cx L 1 aO u9 p2),Calls Tryz.prog 80 #[pA B0 0,Ds Y,bO u9 p2.length wR,Z p3] w λe w=>∃x1 x2,e=.returned (.tuple #[Z r0,Z r1])/\Fit z (aG (Dt B0 q0 (bO aX aE.length bG) x1 x2::zV x1 x2 q0.bI::L)) w:=by
 intro d;induction d with
 | zero=>intro L z w O q0 aE Y p2 p3 r0 r1 B0 bG lu wR aX kT u9 fA H h eN Bz;exact absurd H (by simp[fM])
 | succ d ih =>
  intro L z w O q0 aE Y p2 p3 r0 r1 B0 bG lu wR aX kT u9 fA H h eN Bz;rw[fM]at H;replace H:=H;refine ke Tryz.func80 191 rfl λj=>ks<|kN h (sJ Y) 167 λb4 w h=>ko dk<|G<|aN lI<|kL (h.pick 1) 3<|ko [Z ((O.bI.length:Nat):Int),U,U]<|kN h (([Z ((O.bI.length:Nat):Int),Z p3]++ef 16 aO (List.replicate 16 (0:Int))++ef 8 aO (List.replicate 8 (0:Int))++VR).toArray) 199 λb5 w h=>bS<|G<|HM H λo8 H MS=>λ_ r=>dz (β:=Unit) (λ_ a w=>∃l6:List Int,l6=o8/\∃j,mF 191 (lk [(0,pA B0 0),(2,bO u9 p2.length wR),(3,Z p3),(5,pA b4 0),(10,pA b5 0)] j) a/\Fit z (aG (Dt B0 O (bO aX aE.length bG) kT lu::zV kT lu O.bI::QV b4 Y::gS b5 (([Z ((O.bI.length:Nat):Int),Z p3]++ef 16 aO l6++ef 8 aO (List.replicate 8 (0:Int))++VR).toArray) 199::L)) w) ?_ ?_
  ·refine qq r<|iv<|wb<|λ_ r=>eD (β:=Nat) id (λm a w=>∃l9:List Int,∃F3:Int,(ij K p2 m l9 F3)=some o8/\∃j,mF 191 (lk [(0,pA B0 0),(2,bO u9 p2.length wR),(3,Z p3),(5,pA b4 0),(10,pA b5 0),(11,Z F3)] j) a/\Fit z (aG (Dt B0 O (bO aX aE.length bG) kT lu::zV kT lu O.bI::QV b4 Y::gS b5 (([Z ((O.bI.length:Nat):Int),Z p3]++ef 16 aO l9++ef 8 aO (List.replicate 8 (0:Int))++VR).toArray) 199::L)) w) K ⟨(List.replicate 16 (0:Int)),0,H,r.fj (h.se 4 [2,3,1,0])⟩<|?_;clear h r H;rintro k1 a w ⟨l9,F3,H,j,r,h⟩;cases k1 with
   | zero=>exact absurd H (by simp[ij])
   | succ k1 =>
    rw[ij]at H;refine qq r<|wq<|aN [U,U,Z ((p2.length:Nat):Int),dm (F3<((p2.length:Nat):Int))]<|G<|dQ H (λvw H=>?_) λvw H=>?_
    ·refine gC<|wq<|wb<|qg H λDI H=>qg H λyl H=>nc [(dR u9,kz u9+F3.toNat*1,[Z (J p2 F3.toNat)])] [4,6,7] 10 h (λh=>⟨⟨Bz.cell DI (h.dn 4) 0 rfl,bU⟩,bU⟩) λw h hd =>nB hd 6 [(0,28,pA b5 0),(1,29,Z F3),(2,30,bO u9 p2.length wR),(3,31,Z F3)]<|nZ hd 5 4 rfl (pA (dR u9) (kz u9+F3.toNat*1)) (λw=>HU 2 wR rfl rfl Bz DI)<|nB hd 3 [(6,34,pA b5 0),(7,35,pA b5 2)]<|eR hd 0 2 5 rfl<|nZ hd 1 8 rfl (pA b5 (2+F3.toNat*1)) (λw=>uM (k:=.i64) (E:=2) (N:=16) rfl aY aY aY aY yl)<|λ_ r=>lQ 9 rfl<|qh h.m3 λh=>s9 (C:=[Z ((O.bI.length:Nat):Int),Z p3]++ef 16 aO l9++ef 8 aO (List.replicate 8 (0:Int))++VR) (C':=[Z ((O.bI.length:Nat):Int),Z p3]++ef 16 aO (mB 16 l9 F3.toNat (J p2 F3.toNat))++ef 8 aO (List.replicate 8 (0:Int))++VR) (v:=Z (J p2 F3.toNat)) (wn rfl) rfl r rfl aY aY rfl rfl aY h (oF (f:=0) (pre:=[Z ((O.bI.length:Nat):Int),Z p3]) (post:=ef 8 aO (List.replicate 8 (0:Int))++VR) rfl aL rfl (kZ yl) rfl) (uw (y:=(J p2 F3.toNat)) (pre:=[Z ((O.bI.length:Nat):Int),Z p3]) (post:=ef 8 aO (List.replicate 8 (0:Int))++VR) rfl aL rfl (kZ yl) rfl rfl) λw h=>qq r<|G<|mK<|nk<|bn<|tn<|wl<|ko [U,Z (wi (F3+1)),Z (wi (F3+1))]<|G<|?_;exact λ_ r=>⟨_,⟨(mB 16 l9 F3.toNat (J p2 F3.toNat)),(wi (F3+1)),H,r.fj (h.se 4 [1,2,3,0])⟩,jG _⟩
    refine wx<|te<|te<|bh<|tn<|?_;exact λ_ r=>⟨(),l9,gN H,r.fj h⟩
  clear h r;rintro _ a w ⟨l6,rfl,j,r,h⟩;replace H:=Hw MS;refine qq r<|ks<|qg H λAZ H=>ko lI<|kp (pA b5 (2+0*1)) (uM (i:=(0:Int)) (k:=.i64) (E:=2) (N:=16) rfl aY aY aY aY AZ)<|Aa (Z (J l6 0)) ((h.pick 3).cell (2+0*1) (Wa (oF (C:=[Z ((O.bI.length:Nat):Int),Z p3]++ef 16 aO l6++ef 8 aO (List.replicate 8 (0:Int))++VR) (f:=0) (pre:=[Z ((O.bI.length:Nat):Int),Z p3]) (post:=ef 8 aO (List.replicate 8 (0:Int))++VR) rfl aL rfl (kZ AZ) rfl)))<|?_;refine bS<|qh h.m2 λh=>kS h 5 (QV b4 {Y with Arg:=(J l6 0)}) λw h=>G<|HM H λSp H Gm=>λ_ r=>dz (β:=Unit) (λ_ a w=>∃QX:Int,QX=Sp/\∃j,mF 191 (lk [(0,pA B0 0),(3,Z p3),(5,pA b4 0),(10,pA b5 0)] j) a/\Fit z (aG (Dt B0 O (bO aX aE.length bG) kT lu::zV kT lu O.bI::gS b4 (sJ {Y with Arg:=QX}) 167::gS b5 (([Z ((O.bI.length:Nat):Int),Z p3]++ef 16 aO l6++ef 8 aO (List.replicate 8 (0:Int))++VR).toArray) 199::L)) w) ?_ ?_
  ·refine qq r<|aN [U,Z ((p2.length:Nat):Int),vB (((p2.length:Nat):Int)==0)]<|G<|dQ H (λEx H=>?_) λEx H=>?_
   ·refine wl<|bS<|kS h 5 (QV b4 {Y with Arg:=0}) λw h=>G<|?_;exact λ_ r=>⟨(),0,gN H,r.fj (h.se 4 [1,2,0,3])⟩
   refine gC<|?_;exact λ_ r=>⟨(),(J l6 0),gN H,r.fj (h.se 4 [1,2,0,3])⟩
  clear h r;rintro _ a w ⟨QX,rfl,j,r,h⟩;replace H:=Hw Gm;refine qq r<|wq<|qg H λFj H=>nc [(B0,3,[bO kT O.bI.length lu]),(b4,0,JK {Y with Arg:=QX})] [2,3] 11 h (λh=>⟨⟨h.cell 3 rfl,bU⟩,((h.pick 2).held 0 rfl),bU⟩) λw h hd =>mD hd 7 47 [([0,1,2],pA B0 0),([3],pA B0 3)]<|eR hd 0 6 4 rfl<|xF hd 1 5 5 rfl rfl<|mh 6 rfl<|kV h (sJ {Y with Arg:=QX}) 167 λb19 w h=>G<|λ_ r=>xE<|lQ 7 rfl<|qh h.m2 λh=>nY (n0:=O.bI.length) (c:=1) (bytes:=56) (wn rfl) rfl rfl r rfl aY aY od (E:=167) (xs:=O.bI) aY aY h (news:=[{Y with Arg:=QX}]) (m:=1) rfl ((h.pick 1).news rfl) Fj rfl λaai aaj w _ h r=>qq r<|G<|mK<|iK 2 8 rfl (pA B0 0)<|iK 1 9 rfl (pA B0 3)<|mh 10 rfl<|qh h.m2 λh=>kS h 3 (U7 B0 O (bO aX aE.length bG) aai aaj ((O.bI++[{Y with Arg:=QX}]).length)) λw h=>G<|mK<|nk<|tn<|aN Ba<|kL h 4<|ko [U,Z (if p3>O.Deep then p3 else O.Deep),U,U]<|kS h 4 (gS B0 #[bO aX aE.length bG,Z O.Left,Z O.wQ,bO aai (O.bI++[{Y with Arg:=QX}]).length aaj,Z (if p3>O.Deep then p3 else O.Deep)] 163) λw h=>G<|wq<|wb<|λ_ r=>eD (β:=Nat) id (λm a w=>∃uG:gF,∃xu:Nat,∃j6:bB,∃cR:dN,(eI K aE Y (fM K d) m j6 cR)=some (r0,r1,q0)/\∃j,mF 191 (lk [(0,pA B0 0),(5,pA b4 0),(10,pA b5 0)] j) a/\Fit z (aG (Dt B0 j6 (bO aX aE.length bG) uG xu::zV uG xu j6.bI::gS b4 (sJ {Y with Arg:=QX}) 167::Du b5 cR::L)) w) K ⟨aai,aaj,({O with bI:=O.bI++[{Y with Arg:=QX}],Deep:=if p3>O.Deep then p3 else O.Deep}),(⟨((O.bI.length:Nat):Int),p3,l6,(List.replicate 8 (0:Int)),0,0,0,0⟩:dN),H,r.fj (h.se 5 [0,1,3,4])⟩<|?_;clear h r H;rintro k2 a w ⟨uG,xu,j6,cR,H,j,r,h⟩;cases k2 with
  | zero=>exact absurd H (by simp[eI])
  | succ k2 =>
   rw[eI]at H;refine qq r<|wq<|aN lI<|kL h 2<|ko [vB (j6.wQ==0)]<|G<|dQ H (λsL H=>?_) λsL H=>?_
   ·refine gC<|wb<|wq<|aN lI<|kL h 1<|ko [vB (j6.Left==0)]<|G<|dQ H (λDL H=>?_) λDL H=>?_
    ·refine aN lI<|kS h 2 (gS B0 #[bO aX aE.length bG,Z j6.Left,Z 62,bO uG j6.bI.length xu,Z j6.Deep] 163) λw h=>G<|wx<|te<|λ_ r=>Ct dO<|qq r<|te<|bh<|tn<|aN dk<|cr<|?_;cases H;exact xz2 uG xu (h.se 4 [0,1])
    refine gC<|aN lI<|kL h 1<|ko [Z (wi (j6.Left-1)),U,U]<|kS h 1 (gS B0 #[bO aX aE.length bG,Z (wi (j6.Left-1)),Z j6.wQ,bO uG j6.bI.length xu,Z j6.Deep] 163) λw h=>G<|wq<|qg H λAo H=>qg H λuU H=>nc [(B0,0,[bO aX aE.length bG]),(b4,2,[Z Y.Func]),(dR aX,kz aX+Y.Func.toNat*4+3,[bO ((fA Y.Func.toNat).1) (J aE Y.Func.toNat).ai.length ((fA Y.Func.toNat).2)]),(b5,26,[Z cR.At]),(dR ((fA Y.Func.toNat).1),kz ((fA Y.Func.toNat).1)+cR.At.toNat*5,gP (J (J aE Y.Func.toNat).ai cR.At.toNat))] [1,2,3,5,7,8,11,12,14] 18 h (λh=>⟨⟨h.cell 0 rfl,bU⟩,⟨(h.pick 2).cell 2 rfl,bU⟩,⟨eN.cell Ao (h.dn 4) 3 rfl,bU⟩,⟨(h.pick 3).cell 26 rfl,bU⟩,⟨(eN.wm Ao).cell uU (h.dn 4) 0 rfl,(eN.wm Ao).cell uU (h.dn 4) 1 rfl,(eN.wm Ao).cell uU (h.dn 4) 2 rfl,(eN.wm Ao).cell uU (h.dn 4) 3 rfl,(eN.wm Ao).cell uU (h.dn 4) 4 rfl,bU⟩,bU⟩) λw h hd =>mD hd 10 86 [([0,1,2,3],pA B0 0),([5],pA b4 2),([10,11],pA b5 0),([12],pA b5 26)]<|eR hd 0 9 4 rfl<|eR hd 1 8 6 rfl<|nZ hd 7 7 rfl (pA (dR aX) (kz aX+Y.Func.toNat*4)) (λw=>DG 85 bG rfl rfl eN Ao)<|nB hd 6 [(8,94,pA (dR aX) (kz aX+Y.Func.toNat*4+3))]<|eR hd 2 5 9 rfl<|eR hd 3 4 13 rfl<|nZ hd 3 14 rfl (pA (dR ((fA Y.Func.toNat).1)) (kz ((fA Y.Func.toNat).1)+cR.At.toNat*5)) (λw=>HU 132 ((fA Y.Func.toNat).2) rfl rfl (eN.wm Ao) uU)<|xF hd 4 2 15 rfl rfl<|mh 16 rfl<|kN h (CH) 132 λb31 w h=>G<|λ_ r=>xE<|lQ 17 rfl<|qq r<|kA h (vA b31 (J (J aE Y.Func.toNat).ai cR.At.toNat)) λw h=>G<|mK<|nk<|tn<|aN lI<|kL (h.pick 4) 26<|ko [Z (wi (cR.At+1)),U,U]<|qh h.m4 λh=>kS h 26 (Du b5 {cR with At:=wi (cR.At+1)}) λw h=>G<|aN lI<|kL h 27<|bS<|G<|aN lI<|kL h 27<|ko [Z (wi (cR.dZ+1)),U,U]<|kS h 27 (Du b5 {cR with At:=wi (cR.At+1),dZ:=wi (cR.dZ+1)}) λw h=>G<|wq<|qg H λE3 H=>nc [(B0,3,[bO uG j6.bI.length xu]),(b5,0,[Z cR.Me]),(dR uG,cR.Me.toNat*7+3,[Z (J j6.bI cR.Me.toNat).j0])] [1,2,5,6,8,9] 15 h (λh=>⟨⟨(h.pick 2).cell 3 rfl,bU⟩,⟨h.cell 0 rfl,bU⟩,⟨(h.pick 3).cU od (f:=3) (bp E3) rfl,bU⟩,bU⟩) λw h hd =>mD hd 9 120 [([0,1],pA B0 0),([2],pA B0 3),([4,5,6],pA b5 0)]<|eR hd 0 8 3 rfl<|eR hd 1 7 7 rfl<|nZ hd 6 8 rfl (pA (dR uG) (cR.Me.toNat*7)) (λw=>xS 167 rfl (h.pick 3) E3)<|nB hd 5 [(9,129,pA (dR uG) (cR.Me.toNat*7+3))]<|eR hd 2 4 10 rfl<|nB hd 3 [(11,131,Z (wi ((J j6.bI cR.Me.toNat).j0+1)))]<|nZ hd 2 12 rfl (pA (dR uG) (cR.Me.toNat*7)) (λw=>xS 167 rfl (h.pick 3) E3)<|?_
    refine nB hd 1 [(13,133,pA (dR uG) (cR.Me.toNat*7+3))]<|λ_ r=>lQ 14 rfl<|qh h.m3 λh=>Kt (wn rfl) r od h cR.Me.toNat 3 (Z (wi ((J j6.bI cR.Me.toNat).j0+1))) (J j6.bI cR.Me.toNat) ({J j6.bI cR.Me.toNat with j0:=wi ((J j6.bI cR.Me.toNat).j0+1)}) (bp E3) λw h=>qq r<|G<|mK<|nk<|tn<|aN [U]<|kL (h.pick 2) 0<|G<|wb<|aN [vB ((J (J aE Y.Func.toNat).ai cR.At.toNat).aP==5),vB ((J (J aE Y.Func.toNat).ai cR.At.toNat).aP==5)]<|G<|dQ H (λB3 H=>?_) λB3 H=>?_
    ·refine wl<|ko dk<|kM (h.pick 2)<|?_;intro _ r;refine BR (wn rfl) rfl rfl r (f:=118) (args:=#[pA B0 0,pA b5 0,gQ (J (J aE Y.Func.toNat).ai cR.At.toNat)]) aY ?_;clear r;refine enter Tryz.func118 rfl 112 rfl rfl [(0,pA B0 0),(1,pA b5 0),(2,gQ (J (J aE Y.Func.toNat).ai cR.At.toNat))] ⟨aY,aY,aY,bU⟩ ?_;intro j a r;refine qq r<|ks<|kN h (mI (J (J aE Y.Func.toNat).ai cR.At.toNat)) 132 λSE w h=>G<|wq<|aN lI<|kL (h.pick 2) 1<|ko [dm (cR.iN>=4096)]<|G<|dQ H (λKL H=>?_) λKL H=>?_
     ·refine aN lI<|qh h.m4 λh=>kS h 2 (gS B0 #[bO aX aE.length bG,Z (wi (j6.Left-1)),Z 63,bO uG j6.bI.length xu,Z j6.Deep] 163) λw h=>cr<|tr<|λ_ r=>Hs rfl r<|?_;refine⟨_,rfl,?_⟩;clear r;intro a r;refine qq r<|kl<|bn<|bn<|tn<|qh h.m2 λh=>?_;replace h:=h.Ku (λq_=>gS B0 #[bO aX aE.length bG,Z (wi (j6.Left-1)),Z 63,bO uG q_ xu,Z j6.Deep] 163);exact λ_ r=>⟨_,⟨uG,xu,(⟨wi (j6.Left-1),63,j6.bI.set cR.Me.toNat ({J j6.bI cR.Me.toNat with j0:=wi ((J j6.bI cR.Me.toNat).j0+1)}),j6.Deep⟩:bB),({cR with At:=wi (cR.At+1),dZ:=wi (cR.dZ+1)}),H,r.fj (h.se 6 [1,0,5,3])⟩,jG _⟩
     refine gC<|iv<|HM H λo43 H aeT=>λ_ r=>dz (β:=Unit) (λ_ a w=>∃Pz:gF,∃Xx:Nat,∃U8:gF,∃U9:Nat,∃l41:List Int,l41=o43/\∃j,mF 112 (lk [(0,pA B0 0),(1,pA b5 0),(5,pA SE 0),(6,bO U8 l41.length U9)] j) a/\Fit z (aG (gS B0 #[bO aX aE.length bG,Z (wi (j6.Left-1)),Z j6.wQ,bO Pz (j6.bI.set cR.Me.toNat ({J j6.bI cR.Me.toNat with j0:=wi ((J j6.bI cR.Me.toNat).j0+1)})).length Xx,Z j6.Deep] 163::zV Pz Xx (j6.bI.set cR.Me.toNat ({J j6.bI cR.Me.toNat with j0:=wi ((J j6.bI cR.Me.toNat).j0+1)}))::gS b5 (vF {cR with At:=wi (cR.At+1),dZ:=wi (cR.dZ+1)}) 199::vA SE (J (J aE Y.Func.toNat).ai cR.At.toNat)::ro2 U8 U9 l41::gS b4 (sJ {Y with Arg:=QX}) 167::L)) w) ?_ ?_
     ·refine qq r<|iv<|wb<|qh h.m4.m2 λh=>?_;replace h:=h.Ku (λq_=>gS B0 #[bO aX aE.length bG,Z (wi (j6.Left-1)),Z j6.wQ,bO uG q_ xu,Z j6.Deep] 163);replace h:=h.kR (e:=2) (sz:=1) (enc:=aO);refine λ_ r=>eD (β:=Nat) id (λm a w=>∃B7:gF,∃B8:Nat,∃tN:gF,∃vR:Nat,∃wS:List Int,∃IE:Int,(ik K aE Y cR m wS IE)=some o43/\∃j,mF 112 (lk [(0,pA B0 0),(1,pA b5 0),(5,pA SE 0),(6,bO tN wS.length vR),(7,Z IE)] j) a/\Fit z (aG (gS B0 #[bO aX aE.length bG,Z (wi (j6.Left-1)),Z j6.wQ,bO B7 (j6.bI.set cR.Me.toNat ({J j6.bI cR.Me.toNat with j0:=wi ((J j6.bI cR.Me.toNat).j0+1)})).length B8,Z j6.Deep] 163::zV B7 B8 (j6.bI.set cR.Me.toNat ({J j6.bI cR.Me.toNat with j0:=wi ((J j6.bI cR.Me.toNat).j0+1)}))::gS b5 (vF {cR with At:=wi (cR.At+1),dZ:=wi (cR.dZ+1)}) 199::vA SE (J (J aE Y.Func.toNat).ai cR.At.toNat)::ro2 tN vR wS::gS b4 (sJ {Y with Arg:=QX}) 167::L)) w) K ⟨uG,xu,none,0,([]:List Int),0,H,r.fj (h.se 7 [2,1,4,3,0,6])⟩<|?_;clear h r H;rintro k3 a w ⟨B7,B8,tN,vR,wS,IE,H,j,r,h⟩;cases k3 with
      | zero=>exact absurd H (by simp[ik])
      | succ k3 =>
       rw[ik]at H;refine qq r<|wq<|wq<|qg H λc51 H=>nc [(B0,0,[bO aX aE.length bG]),(SE,2,[Z (J (J aE Y.Func.toNat).ai cR.At.toNat).B]),(dR aX,kz aX+(J (J aE Y.Func.toNat).ai cR.At.toNat).B.toNat*4,[Z (J aE (J (J aE Y.Func.toNat).ai cR.At.toNat).B.toNat).aS])] [2,3,4,6,8,9] 12 h (λh=>⟨⟨h.cell 0 rfl,bU⟩,⟨(h.pick 3).cell 2 rfl,bU⟩,⟨eN.cell c51 (h.dn 6) 0 rfl,bU⟩,bU⟩) λw h hd =>mD hd 6 19 [([0],Z IE),([1,2,3,4],pA B0 0),([6],pA SE 2)]<|eR hd 0 5 5 rfl<|eR hd 1 4 7 rfl<|nZ hd 3 8 rfl (pA (dR aX) (kz aX+(J (J aE Y.Func.toNat).ai cR.At.toNat).B.toNat*4)) (λw=>DG 85 bG rfl rfl eN c51)<|nB hd 2 [(9,28,pA (dR aX) (kz aX+(J (J aE Y.Func.toNat).ai cR.At.toNat).B.toNat*4))]<|eR hd 2 1 10 rfl<|nB hd 0 [(11,30,dm (IE<(J aE (J (J aE Y.Func.toNat).ai cR.At.toNat).B.toNat).aS))]<|nk<|tn<|dQ H (λc52 H=>?_) λc52 H=>?_
       ·refine gC<|wq<|wb<|qg H λc53 H=>qg H λTN H=>nc [(SE,3,[Z (J (J aE Y.Func.toNat).ai cR.At.toNat).C]),(b5,2+(wi ((J (J aE Y.Func.toNat).ai cR.At.toNat).C+IE)).toNat*1,[Z (J cR.sw (wi ((J (J aE Y.Func.toNat).ai cR.At.toNat).C+IE)).toNat)])] [2,5,6,7,8] 13 h (λh=>⟨⟨(h.pick 3).cell 3 rfl,bU⟩,⟨(h.pick 2).cell (2+(wi ((J (J aE Y.Func.toNat).ai cR.At.toNat).C+IE)).toNat*1) (Wa (oF (C:=[Z cR.Me,Z cR.iN]++ef 16 aO cR.sw++ef 8 aO cR.nq++[Z (wi (cR.At+1)),Z (wi (cR.dZ+1)),Z cR.End,Z cR.Kids]) (f:=0) (pre:=[Z cR.Me,Z cR.iN]) (post:=ef 8 aO cR.nq++[Z (wi (cR.At+1)),Z (wi (cR.dZ+1)),Z cR.End,Z cR.Kids]) rfl aL rfl (kZ c53) rfl)),bU⟩,bU⟩) λw h hd =>mD hd 7 33 [([0],bO tN wS.length vR),([1,6],pA b5 0),([2],pA SE 3),([4],Z IE),([7],pA b5 2)]<|eR hd 0 6 3 rfl<|nB hd 5 [(5,38,Z (wi ((J (J aE Y.Func.toNat).ai cR.At.toNat).C+IE)))]<|nZ hd 4 8 rfl (pA b5 (2+(wi ((J (J aE Y.Func.toNat).ai cR.At.toNat).C+IE)).toNat*1)) (λw=>uM (k:=.i64) (E:=2) (N:=16) rfl aY aY aY aY c53)<|eR hd 1 3 9 rfl<|mh 10 rfl<|kV h (#[Z (J cR.sw (wi ((J (J aE Y.Func.toNat).ai cR.At.toNat).C+IE)).toNat)]) 2 λb54 w h=>G<|λ_ r=>xE<|lQ 11 rfl<|qh h.m5 λh=>nY (n0:=wS.length) (c:=1) (bytes:=8) (wn rfl) rfl rfl r rfl aY aY aL (E:=2) (xs:=wS) aY aY h (news:=[(J cR.sw (wi ((J (J aE Y.Func.toNat).ai cR.At.toNat).C+IE)).toNat)]) (m:=1) rfl ((h.pick 1).news rfl) TN rfl λSf Sg w _ h r=>qq r<|G<|mK<|iK 0 12 rfl (bO Sf (wS++[(J cR.sw (wi ((J (J aE Y.Func.toNat).ai cR.At.toNat).C+IE)).toNat)]).length Sg)<|nk<|bn<|tn<|wl<|ko [U,Z (wi (IE+1)),Z (wi (IE+1))]<|G<|?_;exact λ_ r=>⟨_,⟨B7,B8,Sf,Sg,(wS++[(J cR.sw (wi ((J (J aE Y.Func.toNat).ai cR.At.toNat).C+IE)).toNat)]),(wi (IE+1)),H,r.fj (h.se 7 [2,3,4,5,0,6])⟩,jG _⟩
       refine wx<|te<|te<|bh<|tn<|?_;exact λ_ r=>⟨(),B7,B8,tN,vR,wS,gN H,r.fj h⟩
     clear h r;rintro _ a w ⟨Pz,Xx,U8,U9,l41,rfl,j,r,h⟩;replace H:=Hw aeT;refine qq r<|wq<|qg H λc58 H=>gg H λVJ e60 H=>nc [(B0,3,[bO Pz (j6.bI.set cR.Me.toNat ({J j6.bI cR.Me.toNat with j0:=wi ((J j6.bI cR.Me.toNat).j0+1)})).length Xx]),(b5,0,[Z cR.Me]),(dR Pz,cR.Me.toNat*7+4,[Z (J (j6.bI.set cR.Me.toNat ({J j6.bI cR.Me.toNat with j0:=wi ((J j6.bI cR.Me.toNat).j0+1)})) cR.Me.toNat).E6]),(b5,29,[Z cR.Kids])] [1,2,5,6,8,9,12,13] 17 h (λh=>⟨⟨h.cell 3 rfl,bU⟩,⟨(h.pick 2).cell 0 rfl,bU⟩,⟨(h.pick 1).cU od (f:=4) (bp c58) rfl,bU⟩,⟨(h.pick 2).cell 29 rfl,bU⟩,bU⟩) λw h hd =>mD hd 8 45 [([0,1],pA B0 0),([2],pA B0 3),([4,5,6,11,12],pA b5 0),([13],pA b5 29)]<|eR hd 0 7 3 rfl<|eR hd 1 6 7 rfl<|nZ hd 5 8 rfl (pA (dR Pz) (cR.Me.toNat*7)) (λw=>xS 167 rfl (h.pick 1) c58)<|nB hd 4 [(9,54,pA (dR Pz) (cR.Me.toNat*7+4))]<|eR hd 2 3 10 rfl<|eR hd 3 2 14 rfl<|mh 15 rfl<|fe (DY e60 h :) λw h=>G<|mK<|iK 0 16 rfl (Z VJ)<|nk<|tn<|wq<|uN H λD6 Bs Qp e64 H=>nc [(b5,0,[Z cR.Me]),(b5,29,[Z cR.Kids]),(SE,2,[Z (J (J aE Y.Func.toNat).ai cR.At.toNat).B]),(b5,1,[Z cR.iN])] [2,3,6,7,9,12,15,16,18] 25 h (λh=>⟨⟨(h.pick 2).cell 0 rfl,bU⟩,⟨(h.pick 2).cell 29 rfl,bU⟩,⟨(h.pick 3).cell 2 rfl,bU⟩,⟨(h.pick 2).cell 1 rfl,bU⟩,bU⟩) λw h hd =>mD hd 12 62 [([0],pA B0 0),([1,2,3,5,6,14,15],pA b5 0),([7],pA b5 29),([9],pA SE 2),([11],Z VJ),([13],bO U8 l41.length U9),([16],pA b5 1)]<|eR hd 0 11 4 rfl<|eR hd 1 10 8 rfl<|eR hd 2 9 10 rfl<|nB hd 8 [(12,74,pe #[Z cR.Me,Z cR.Kids,Z (J (J aE Y.Func.toNat).ai cR.At.toNat).B,Z 0,Z VJ,Z 0,Z 0])]<|eR hd 3 7 17 rfl<|nB hd 6 [(18,80,Z (wi (cR.iN+1)))]<|mh 19 rfl<|Vy (ih (u9:=U8) (wR:=U9) (Bz:=(cx.Oc aL (h.pick 4) (λh=>(h.pick 2)))) (aX:=aX) (bG:=bG) (eN:=(Aj.up 4 eN)) (fA:=fA) (H:=e64) (h:=h) :) λFu LV w h=>G<|mK<|iK 4 20 rfl (.tuple #[Z D6,Z Bs])<|iK 3 21 rfl (Z D6)<|iK 2 22 rfl (Z Bs)<|iK 1 23 rfl (Z D6)<|iK 0 24 rfl (Z Bs)<|nk<|tn<|aN lI<|kL (h.pick 2) 29<|ko [Z (wi (cR.Kids+1)),U,U]<|qh h.m2 λh=>kS h 29 (Du b5 {cR with At:=wi (cR.At+1),dZ:=wi (cR.dZ+1),Kids:=wi (cR.Kids+1)}) λw h=>G<|wq<|qg H λWB H=>nc [(SE,1,[Z (J (J aE Y.Func.toNat).ai cR.At.toNat).A])] [1,4,5] 8 h (λh=>⟨⟨(h.pick 3).cell 1 rfl,bU⟩,bU⟩) λw h hd =>mD hd 3 91 [([0,4],pA b5 0),([1],pA SE 1),([3],Z D6),([5],pA b5 18)]<|eR hd 0 2 2 rfl<|nZ hd 1 6 rfl (pA b5 (18+(J (J aE Y.Func.toNat).ai cR.At.toNat).A.toNat*1)) (λw=>uM (k:=.i64) (E:=2) (N:=8) rfl aY aY aY aY WB)<|?_
     refine λ_ r=>lQ 7 rfl<|s9 (C:=[Z cR.Me,Z cR.iN]++ef 16 aO cR.sw++ef 8 aO cR.nq++[Z (wi (cR.At+1)),Z (wi (cR.dZ+1)),Z cR.End,Z (wi (cR.Kids+1))]) (C':=[Z cR.Me,Z cR.iN]++ef 16 aO cR.sw++ef 8 aO (mB 8 cR.nq (J (J aE Y.Func.toNat).ai cR.At.toNat).A.toNat D6)++[Z (wi (cR.At+1)),Z (wi (cR.dZ+1)),Z cR.End,Z (wi (cR.Kids+1))]) (v:=Z D6) (wn rfl) rfl r rfl aY aY rfl rfl aY h (oF (f:=0) (pre:=[Z cR.Me,Z cR.iN]++ef 16 aO cR.sw) (post:=[Z (wi (cR.At+1)),Z (wi (cR.dZ+1)),Z cR.End,Z (wi (cR.Kids+1))]) rfl aL rfl (kZ WB) rfl) (uw (y:=D6) (pre:=[Z cR.Me,Z cR.iN]++ef 16 aO cR.sw) (post:=[Z (wi (cR.At+1)),Z (wi (cR.dZ+1)),Z cR.End,Z (wi (cR.Kids+1))]) rfl aL rfl (kZ WB) rfl rfl) λw h=>qq r<|G<|mK<|nk<|tn<|nc [(b5,28,[Z cR.End]),(b5,27,[Z (wi (cR.dZ+1))])] [2,3,6,7,10] 15 h (λh=>⟨⟨h.cell 28 rfl,bU⟩,⟨h.cell 27 rfl,bU⟩,bU⟩) λw h hd =>mD hd 7 98 [([0,1,2,5,6],pA b5 0),([3],pA b5 28),([7],pA b5 27),([9],Z Bs)]<|eR hd 0 6 4 rfl<|eR hd 1 5 8 rfl<|mD hd 1 98 [([10],Z (wi ((wi (cR.dZ+1))+Bs))),([11],Z (if(wi ((wi (cR.dZ+1))+Bs))>cR.End then(wi ((wi (cR.dZ+1))+Bs))else cR.End)),([12],pA b5 0),([13],pA b5 28)]<|mh 14 rfl<|kS h 28 (gS b5 (([Z cR.Me,Z cR.iN]++ef 16 aO cR.sw++ef 8 aO (mB 8 cR.nq (J (J aE Y.Func.toNat).ai cR.At.toNat).A.toNat D6)++[Z (wi (cR.At+1)),Z (wi (cR.dZ+1)),Z (if(wi ((wi (cR.dZ+1))+Bs))>cR.End then(wi ((wi (cR.dZ+1))+Bs))else cR.End),Z (wi (cR.Kids+1))]).toArray) 199) λw h=>G<|λ_ r=>xE<|yK<|qb rfl r<|?_;refine⟨_,rfl,?_⟩;clear r;intro a r;refine qq r<|kl<|bn<|bn<|tn<|?_;exact λ_ r=>⟨_,⟨Fu,LV,Qp,(⟨cR.Me,cR.iN,cR.sw,mB 8 cR.nq (J (J aE Y.Func.toNat).ai cR.At.toNat).A.toNat D6,wi (cR.At+1),wi (cR.dZ+1),if(wi ((wi (cR.dZ+1))+Bs))>cR.End then(wi ((wi (cR.dZ+1))+Bs))else cR.End,wi (cR.Kids+1)⟩:dN),H,r.fj (h.se 6 [1,2,5,0])⟩,jG _⟩
    refine aN [vB ((J (J aE Y.Func.toNat).ai cR.At.toNat).aP==6),vB ((J (J aE Y.Func.toNat).ai cR.At.toNat).aP==6)]<|G<|dQ H (λc68 H=>?_) λc68 H=>?_
    ·refine aN XZ<|kL (h.pick 1) 28<|ko [Z (if cR.End>cR.dZ then cR.End else cR.dZ),Z (wi ((if cR.End>cR.dZ then cR.End else cR.dZ)+1)),U,U]<|qh h.m1 λh=>kS h 27 (Du b5 {cR with At:=wi (cR.At+1),dZ:=wi ((if cR.End>cR.dZ then cR.End else cR.dZ)+1)}) λw h=>G<|wl<|ko lI<|kS h 28 (Du b5 {cR with At:=wi (cR.At+1),dZ:=wi ((if cR.End>cR.dZ then cR.End else cR.dZ)+1),End:=0}) λw h=>kl<|bn<|bn<|tn<|qh h.m3.m2 λh=>?_;replace h:=h.Ku (λq_=>gS B0 #[bO aX aE.length bG,Z (wi (j6.Left-1)),Z j6.wQ,bO uG q_ xu,Z j6.Deep] 163);exact λ_ r=>⟨_,⟨uG,xu,({j6 with Left:=wi (j6.Left-1),bI:=j6.bI.set cR.Me.toNat ({J j6.bI cR.Me.toNat with j0:=wi ((J j6.bI cR.Me.toNat).j0+1)})}),({cR with At:=wi (cR.At+1),dZ:=wi ((if cR.End>cR.dZ then cR.End else cR.dZ)+1),End:=0}),H,r.fj (h.se 5 [1,0,4,2])⟩,jG _⟩
    refine aN [vB ((J (J aE Y.Func.toNat).ai cR.At.toNat).aP==9),vB ((J (J aE Y.Func.toNat).ai cR.At.toNat).aP==9)]<|G<|dQ H (λZj H=>?_) λZj H=>?_
    ·refine wq<|qg H λc71 H=>qg H λc72 H=>nc [(B0,3,[bO uG j6.bI.length xu]),(b5,0,[Z cR.Me]),(b31,1,[Z (J (J aE Y.Func.toNat).ai cR.At.toNat).A]),(b5,2+(J (J aE Y.Func.toNat).ai cR.At.toNat).A.toNat*1,[Z (J cR.sw (J (J aE Y.Func.toNat).ai cR.At.toNat).A.toNat)])] [1,2,5,6,9,11,12,13] 18 h (λh=>⟨⟨(h.pick 3).cell 3 rfl,bU⟩,⟨(h.pick 1).cell 0 rfl,bU⟩,⟨(h.pick 2).cell 1 rfl,bU⟩,⟨(h.pick 1).cell (2+(J (J aE Y.Func.toNat).ai cR.At.toNat).A.toNat*1) (Wa (oF (C:=[Z cR.Me,Z cR.iN]++ef 16 aO cR.sw++ef 8 aO cR.nq++[Z (wi (cR.At+1)),Z (wi (cR.dZ+1)),Z cR.End,Z cR.Kids]) (f:=0) (pre:=[Z cR.Me,Z cR.iN]) (post:=ef 8 aO cR.nq++[Z (wi (cR.At+1)),Z (wi (cR.dZ+1)),Z cR.End,Z cR.Kids]) rfl aL rfl (kZ c71) rfl)),bU⟩,bU⟩) λw h hd =>mD hd 8 163 [([0,1],pA B0 0),([2],pA B0 3),([4,5,6,8,11],pA b5 0),([9],pA b31 1),([12],pA b5 2)]<|eR hd 0 7 3 rfl<|eR hd 1 6 7 rfl<|eR hd 2 5 10 rfl<|nZ hd 4 13 rfl (pA b5 (2+(J (J aE Y.Func.toNat).ai cR.At.toNat).A.toNat*1)) (λw=>uM (k:=.i64) (E:=2) (N:=16) rfl aY aY aY aY c71)<|eR hd 3 3 14 rfl<|nZ hd 2 15 rfl (pA (dR uG) (cR.Me.toNat*7)) (λw=>xS 167 rfl h c72)<|nB hd 1 [(16,179,pA (dR uG) (cR.Me.toNat*7+6))]<|λ_ r=>lQ 17 rfl<|Kt (wn rfl) r od h cR.Me.toNat 6 (Z (J cR.sw (J (J aE Y.Func.toNat).ai cR.At.toNat).A.toNat)) {J j6.bI cR.Me.toNat with j0:=wi ((J j6.bI cR.Me.toNat).j0+1)} ({{J j6.bI cR.Me.toNat with j0:=wi ((J j6.bI cR.Me.toNat).j0+1)}with V:=(J cR.sw (J (J aE Y.Func.toNat).ai cR.At.toNat).A.toNat)}) (dy ((eZ (by simpa [bM]using c72)))) λw h=>qq r<|G<|mK<|nk<|tn<|wq<|nc [(b31,1,[Z (J (J aE Y.Func.toNat).ai cR.At.toNat).A]),(b5,2+(J (J aE Y.Func.toNat).ai cR.At.toNat).A.toNat*1,[Z (J cR.sw (J (J aE Y.Func.toNat).ai cR.At.toNat).A.toNat)]),(b5,27,[Z (wi (cR.dZ+1))])] [1,3,4,5,8,9] 13 h (λh=>⟨⟨(h.pick 2).cell 1 rfl,bU⟩,⟨(h.pick 1).cell (2+(J (J aE Y.Func.toNat).ai cR.At.toNat).A.toNat*1) (Wa (oF (C:=[Z cR.Me,Z cR.iN]++ef 16 aO cR.sw++ef 8 aO cR.nq++[Z (wi (cR.At+1)),Z (wi (cR.dZ+1)),Z cR.End,Z cR.Kids]) (f:=0) (pre:=[Z cR.Me,Z cR.iN]) (post:=ef 8 aO cR.nq++[Z (wi (cR.At+1)),Z (wi (cR.dZ+1)),Z cR.End,Z cR.Kids]) rfl aL rfl (kZ c71) rfl)),bU⟩,⟨(h.pick 1).cell 27 rfl,bU⟩,bU⟩) λw h hd =>mD hd 6 180 [([0,3,7,8],pA b5 0),([1],pA b31 1),([4],pA b5 2),([9],pA b5 27)]<|eR hd 0 5 2 rfl<|nZ hd 4 5 rfl (pA b5 (2+(J (J aE Y.Func.toNat).ai cR.At.toNat).A.toNat*1)) (λw=>uM (k:=.i64) (E:=2) (N:=16) rfl aY aY aY aY c71)<|eR hd 1 3 6 rfl<|nB hd 2 [(11,8,Z (J cR.sw (J (J aE Y.Func.toNat).ai cR.At.toNat).A.toNat))]<|eR hd 2 1 10 rfl<|nB hd 0 [(12,9,Z (wi (cR.dZ+1)))]<|nk<|tn<|wr<|br<|br<|tr<|br<|tr<|λ_ r=>DF (Z (J cR.sw (J (J aE Y.Func.toNat).ai cR.At.toNat).A.toNat)) (Z (wi (cR.dZ+1))) rfl r<|qh h.m3.m1 λh=>?_;replace h:=h.Ku (λq_=>gS B0 #[bO aX aE.length bG,Z (wi (j6.Left-1)),Z j6.wQ,bO uG q_ xu,Z j6.Deep] 163);cases H;exact⟨uG,xu,rfl,h.se 5 [1,0]⟩
    refine wl<|ko dk<|kM (h.pick 2)<|qh h.m3.m1 λh=>?_;replace h:=h.Ku (λq_=>gS B0 #[bO aX aE.length bG,Z (wi (j6.Left-1)),Z j6.wQ,bO uG q_ xu,Z j6.Deep] 163);refine gg H λRx Zl H=>qh h.m2.m1.m2 λh=>fe (zd (aX:=aX) (bG:=bG) (eN:=(Aj.up 2 eN)) (fA:=fA) Zl h :) λw h=>kl<|bn<|bn<|tn<|?_;exact λ_ r=>⟨_,⟨uG,xu,({j6 with Left:=wi (j6.Left-1),bI:=j6.bI.set cR.Me.toNat ({J j6.bI cR.Me.toNat with j0:=wi ((J j6.bI cR.Me.toNat).j0+1)})}),Rx,H,r.fj (h.se 5 [0,1,4,2])⟩,jG _⟩
   refine wx<|te<|te<|bh<|tn<|aN dk<|cr<|?_;cases H;exact xz2 uG xu (h.se 4 [0,1])
theorem zW{q0:bB}(H:qH K O aE Y p2 p3=some (r0,r1,q0))(h:iV z (Dt B0 O (bO aX aE.length bG) kT lu::zV kT lu O.bI::L) w)(eN:Bk L aX fA aE)(Bz:cx L 1 aO u9 p2) :
 c2_ 80 #[pA B0 0,Ds Y,bO u9 p2.length wR,Z p3] w z (.tuple #[Z r0,Z r1]) λx1 x2=>Dt B0 q0 (bO aX aE.length bG) x1 x2::zV x1 x2 q0.bI::L:=by
 unfold qH at H;exact yq K H h eN Bz
def tI(K:Nat)(O:aH)(Y:List Int)(p2:Int):Option (rZ×(List fg)×Int):=
 eA (oE K O Y p2) (λr6=>(if r6=0 then ql (qH K (⟨p2,0,([]:List fg),0⟩:bB) O.ah (⟨-1,0,0,0,1,0,0⟩:fg) Y 1) (λBB uO E7=>(if E7.wQ=0 then some ((⟨BB,wi (p2-E7.Left),((E7.bI.length:Nat):Int),E7.Deep,uO⟩:rZ),E7.bI,0)else some ((⟨0,0,0,0,0⟩:rZ),([]:List fg),E7.wQ)))else some ((⟨0,0,0,0,0⟩:rZ),([]:List fg),r6)))
abbrev z5_:List Value:=[Z 0,Z 0,Z 0,Z 0,Z 0]
theorem C1(H:tI K O Y p2=some (r0,r1,r2))(h:iV z (L) w)(aR:Bk L aZ aI O.ah)(IP:cx L 1 aO HX Y) :
 Calls Tryz.prog 42 #[pe #[bO aZ O.ah.length bH],bO HX Y.length Kc,Z p2] w λe w=>∃acP acQ,e=.returned (.tuple #[vr r0,bO acP r1.length acQ,Z r2])/\Fit z (aG (zV acP acQ r1::L)) w:=by
 unfold tI at H;refine ke Tryz.func42 64 rfl λj=>ks<|kN h (#[bO aZ O.ah.length bH]) 24 λb4 w h=>kN h (CH) 60 λb5 w h=>ko dk<|G<|ks<|xG (pe #[bO aZ O.ah.length bH]) (cs:=[bO aZ O.ah.length bH]) ⟨(h.pick 1).cell 0 rfl,bU⟩<|?_;refine gg H λr6 e7 H=>ko dk<|fe (AM (HX:=HX) (Kc:=Kc) (IP:=(cx.up 2 IP)) (aZ:=aZ) (bH:=bH) (aR:=(Aj.up 2 aR)) (aI:=aI) e7 h :) λw h=>bS<|G<|wq<|aN [U,vB (r6 != 0)]<|G<|rU H (λc8 H=>?_) λc8 H=>?_
 ·refine gC<|ks<|xG (pe #[bO aZ O.ah.length bH]) (cs:=[bO aZ O.ah.length bH]) ⟨(h.pick 1).cell 0 rfl,bU⟩<|?_;refine ko dk<|kN h (#[bO aZ O.ah.length bH,Z p2,Z 0,bO none 0 0,Z 0]) 163 λb9 w h=>bS<|G<|aN lI<|?_;replace h:=h.kR (e:=167) (sz:=7) (enc:=rM);refine uN H λBB uO E7 Y7 H=>qh h.m1 λh=>Vy (zW (u9:=HX) (wR:=Kc) (Bz:=(cx.up 2 IP)) (aX:=aZ) (bG:=bH) (eN:=(Aj.up 2 aR)) (fA:=aI) Y7 h :) λyD Cg w h=>ko [.tuple #[Z BB,Z uO],U,U,U,U]<|G<|wq<|aN lI<|kL h 2<|ko [vB (E7.wQ != 0)]<|G<|rU H (λuS H=>?_) λuS H=>?_
  ·refine gC<|wq<|nc [(b9,1,[Z E7.Left]),(b9,3,[bO yD E7.bI.length Cg]),(b9,4,[Z E7.Deep]),(b9,3,[bO yD E7.bI.length Cg])] [3,4,6,8,9,11,13,14,17,19,20,22] 25 h (λh=>⟨⟨h.cell 1 rfl,bU⟩,⟨h.cell 3 rfl,bU⟩,⟨h.cell 4 rfl,bU⟩,⟨h.cell 3 rfl,bU⟩,bU⟩) λw h hd =>mD hd 10 42 [([0],Z BB),([1],Z p2),([2,3,7,8,12,13,18,19],pA b9 0),([4],pA b9 1),([9,20],pA b9 3),([14],pA b9 4),([16],Z uO)]<|eR hd 0 9 5 rfl<|nB hd 8 [(6,48,Z (wi (p2-E7.Left)))]<|eR hd 1 7 10 rfl<|nB hd 6 [(11,53,Z ((E7.bI.length:Nat):Int))]<|eR hd 2 5 15 rfl<|nB hd 4 [(17,59,pe #[Z BB,Z (wi (p2-E7.Left)),Z ((E7.bI.length:Nat):Int),Z E7.Deep,Z uO])]<|eR hd 3 3 21 rfl<|mh 22 rfl<|qh h.m2 λh=>kA h (gS b5 #[Z BB,Z (wi (p2-E7.Left)),Z ((E7.bI.length:Nat):Int),Z E7.Deep,Z uO] 60) λw h=>G<|vN ⟨⟨(h.pick 1).cell 1 rfl,bU⟩,⟨(h.pick 1).cell 3 rfl,bU⟩,⟨(h.pick 1).cell 4 rfl,bU⟩,⟨(h.pick 1).cell 3 rfl,bU⟩,bU⟩ λhd =>nB hd 0 [(23,7,bO yD E7.bI.length Cg),(24,8,Z 0)]<|nk<|tn<|wr<|λ_ r=>Dw (cs:=[Z BB,Z (wi (p2-E7.Left)),Z ((E7.bI.length:Nat):Int),Z E7.Deep,Z uO]) (v:=bO yD E7.bI.length Cg) (v2:=Z 0) rfl r aY aY aY aY aY (h.held 0 rfl)<|?_;cases H;exact⟨yD,Cg,rfl,h.se 4 [2]⟩
  refine wq<|nc [(b9,2,[Z E7.wQ])] [0,2,3,5] 8 h (λh=>⟨⟨h.cell 2 rfl,bU⟩,bU⟩) λw h hd =>mD hd 4 37 [([0],pe CH),([1,2],pA b9 0),([3],pA b9 2)]<|eR hd 0 3 4 rfl<|mh 5 rfl<|qh h.m2 λh=>kA h (gS b5 CH 60) λw h=>G<|vN ⟨⟨(h.pick 1).cell 2 rfl,bU⟩,bU⟩ λhd =>nB hd 0 [(6,7,bO none 0 0),(7,8,Z E7.wQ)]<|nk<|tn<|wr<|tr<|λ_ r=>Dw (cs:=z5_) (v:=bO none 0 0) (v2:=Z E7.wQ) rfl r aY aY aY aY aY (h.held 0 rfl)<|?_;replace h:=h.kR (e:=167) (sz:=7) (enc:=rM);cases H;exact⟨none,0,rfl,h.se 5 [0]⟩
 refine aN dk<|kA h (gS b5 CH 60) λw h=>ko dk<|cr<|tr<|λ_ r=>Dw (cs:=z5_) (v:=bO none 0 0) (v2:=Z r6) rfl r aY aY aY aY aY (h.held 0 rfl)<|?_;replace h:=h.kR (e:=167) (sz:=7) (enc:=rM);cases H;exact⟨none,0,rfl,h.se 3 [0]⟩
def rO(K:Nat)(O:aH)(Y:List Int)(p2:Int):Option (rZ×Int):=
 ql (tI K O Y p2) (λr3 r4 r5=>some (r3,r5))
theorem C2(H:rO K O Y p2=some (r0,r1))(h:iV z (L) w)(aR:Bk L aZ aI O.ah)(IP:cx L 1 aO HX Y) :
 nM 25 #[pe #[bO aZ O.ah.length bH],bO HX Y.length Kc,Z p2] w z (.tuple #[vr r0,Z r1]) (L):=by
 unfold rO at H;refine ke Tryz.func25 21 rfl λj=>ks<|kN h (#[bO aZ O.ah.length bH]) 24 λb1 w h=>kN h (CH) 60 λb2 w h=>bS<|G<|ks<|xG (pe #[bO aZ O.ah.length bH]) (cs:=[bO aZ O.ah.length bH]) ⟨(h.pick 1).cell 0 rfl,bU⟩<|?_;refine uN H λr3 r4 r5 e6 H=>ko dk<|Vy (C1 (HX:=HX) (Kc:=Kc) (IP:=(cx.up 2 IP)) (aZ:=aZ) (bH:=bH) (aR:=(Aj.up 2 aR)) (aI:=aI) e6 h :) λx7 x8 w h=>ko [.tuple #[vr r3,bO x7 r4.length x8,Z r5],U,U,U]<|kN h (CH) 60 λb9 w h=>kA h (Sc b9 r3) λw h=>ko dk<|G<|ks<|kM h<|bS<|qh h.m2 λh=>kA h (Sc b2 r3) λw h=>bS<|cr<|λ_ r=>qY (ID r3) (Z r5) rfl r (h.held 0 rfl)<|?_;cases H;exact⟨rfl,h.se 4 []⟩
def rh(O:af)(dW:ag):Option (Int×Bool):=
 some (O.value,O.left)
theorem AO(H:rh O dW=some (r0,r1))(h:iV z (iJ B0 O fR ng nJ lJ mj iI gl aW gq dW kT lu lH nN L) w) :
 nM 26 #[pA B0 0] w z (.tuple #[Z r0,vB r1]) (iJ B0 O fR ng nJ lJ mj iI gl aW gq dW kT lu lH nN L):=by
 unfold rh at H;refine ke Tryz.func26 14 rfl λj=>aN dk<|G<|wq<|aN dk<|G<|λ_ r=>jb r (b:=false) rfl<|qq r<|gC<|wq<|nc [(B0,10,[Z O.value]),(B0,11,[vB O.left])] [1,2,5,6] 10 h (λh=>⟨⟨h.cell 10 rfl,bU⟩,⟨h.cell 11 rfl,bU⟩,bU⟩) λw h hd =>mD hd 4 6 [([0,1,4,5],pA B0 0),([2],pA B0 10),([6],pA B0 11)]<|eR hd 0 3 3 rfl<|nB hd 2 [(8,2,Z O.value)]<|eR hd 1 1 7 rfl<|nB hd 0 [(9,3,vB O.left)]<|nk<|tn<|wr<|?_;cases H;exact KB h
def fS(K:Nat)(O:gh):Nat->af->ag->aV->Int->Int->Option ((af×ag×Int)⊕(Bool))
 | 0,_,_,_,_,_=>none
 | k1+1,GP,Yr,Qt,N5,Dl=>(if Dl<((O.gH.length:Nat):Int)then if bM Dl O.gH.length then eA (iF (J O.gH Dl.toNat) O.di) (λBs=>eA (nG GP Yr Bs) (λr64=>ob5 (be K GP Yr Bs Qt) (λr66 r67 Xy Qu M9=>(if r67=0 then(if r64>=0 then(if r66.aP=11 then some (.inl (Xy,Qu,wi (N5+1)))else(fS K O k1 Xy Qu M9 (wi (N5+1)) (wi (Dl+1))))else(if r66.aP=11 then some (.inl (Xy,Qu,N5))else(fS K O k1 Xy Qu M9 N5 (wi (Dl+1)))))else some (.inr false)))))else none else some (.inl (GP,Yr,N5)))
def lq(K:Nat)(O:gh):Option (Bool):=
 eA (mL K O.di (⟨O.gw,O.gG,O.jf⟩:eL)) (λr2=>tL (vO r2) (λr4 r5=>(match r4 with | some S7=>eA (jo K (⟨O.ig⟩:aH) O.zD O.di (⟨O.gw,O.gG,O.jf⟩:eL)) (λvQ=>ql (jz K S7 (⟨O.ig⟩:aH) O.zD O.di (⟨O.gw,O.gG,O.jf⟩:eL)) (λrG r16 qW=>(match rG with | some uj=>(if r16=vQ then(if r16=0 then tL (rO K (⟨O.ig⟩:aH) O.zD 65536) (λvx uy=>(if uy=0 then if O.qZ.length*8<=140737488355328 then jn3 ((fS K O K uj qW (⟨O.qZ⟩:aV) 0 0)) (λSD Ye LX=>tL (rh SD Ye) (λUd Sy=>Ag ((if Sy=true then(if LX<(wi (vx.j0+vx.yH))then some (.inr false)else some (.inl ()))else some (.inl ()))) ((if LX<=(wi ((wi ((2:Int)*vx.j0))+(wi ((wi (O.di+24))*vx.yH))))then(if LX>0 then some true else eA (pL K O) (λVK=>some (!VK)))else some false))))else none else eA (nG uj qW 0) (λr92=>some (r92==0))))else some true)else some false) | none=>(if r16=vQ then(if r16=0 then none else some true)else some false)))) | none=>eA (jo K (⟨O.ig⟩:aH) O.zD O.di (⟨O.gw,O.gG,O.jf⟩:eL)) (λaeU=>none))))
theorem wZ(H:lq K O=some r0)(h:iV z (L) w)(eN:Bk L aX fA O.ig)(vl:cx L 1 aO mR O.zD)(rX:cx L 1 aO fZ O.gH)(wK:cx L 1 aO kO O.qZ)(RB:cx L 1 Mm (some ⟨0,0,none⟩) So)(xp:cx L 5 iu (some ⟨1,0,none⟩) yy) :
 nM 9 #[pe #[bO aX O.ig.length bG,bO mR O.zD.length nV,Z O.di,Z O.gw,Z O.gG,Z O.jf,bO fZ O.gH.length jL,bO kO O.qZ.length my]] w z (vB r0) (L):=by
 unfold lq at H;refine ke Tryz.func9 146 rfl λj=>ks<|kN h (#[bO aX O.ig.length bG,bO mR O.zD.length nV,Z O.di,Z O.gw,Z O.gG,Z O.jf,bO fZ O.gH.length jL,bO kO O.qZ.length my]) 32 λb1 w h=>bS<|G<|aN [U]<|kL h 2<|bS<|xG (pe #[Z O.gw,Z O.gG,Z O.jf]) (cs:=[Z O.gw,Z O.gG,Z O.jf]) (h.held 3 rfl)<|?_;refine gg H λr2 e3 H=>fe (BX e3 h :) λw h=>w7 H λr4 r5 e6 H=>?_;cases r4 with
 | some S7 =>
  refine xc5 (I6 e6 h :) λBn8 x9 Da yx BC w h=>ko [.tuple #[pA Bn8 0,Z r5],U,U,U,U]<|G<|aN [U]<|xG (pe #[bO aX O.ig.length bG]) (cs:=[bO aX O.ig.length bG]) ⟨(h.pick 3).cell 0 rfl,bU⟩<|?_;refine bS<|kL (h.pick 3) 1<|bS<|kL (h.pick 3) 2<|bS<|xG (pe #[Z O.gw,Z O.gG,Z O.jf]) (cs:=[Z O.gw,Z O.gG,Z O.jf]) ((h.pick 3).held 3 rfl)<|?_;refine gg H λvQ Gl H=>fe (uP (HX:=mR) (Kc:=nV) (IP:=(cx.up 4 vl)) (aZ:=aX) (bH:=bG) (aR:=(Aj.up 4 eN)) (aI:=fA) Gl h :) λw h=>bS<|G<|aN lI<|xG (pe #[bO aX O.ig.length bG]) (cs:=[bO aX O.ig.length bG]) ⟨(h.pick 3).cell 0 rfl,bU⟩<|?_;refine bS<|kL (h.pick 3) 1<|bS<|kL (h.pick 3) 2<|bS<|xG (pe #[Z O.gw,Z O.gG,Z O.jf]) (cs:=[Z O.gw,Z O.gG,Z O.jf]) ((h.pick 3).held 3 rfl)<|?_;refine uN H λrG r16 qW Cy H=>?_;cases rG with
  | some uj =>
   have hc:=Cj (u9:=mR) (wR:=nV) (Bz:=(cx.up 1 vl)) (jA:=aX) (mo:=bG) (mq:=(Aj.up 1 eN)) (xp:=cx.up 1 xp) (iW:=fA) (H:=Cy) (h:=h);intro _ r;refine cl (wn rfl) r hc ?_;clear hc h;rintro _ w ⟨PA,tV,sZ,Ac,Ch,DK,Gk,Sq,LM,Et,Jd,Je,xq,rfl,h⟩;refine⟨_,rfl,?_⟩;refine ko [.tuple #[pA PA 0,Z r16],U,U,U,U]<|G<|wq<|aN [U,U,vB (r16 != vQ)]<|G<|rU H (λB3 H=>?_) λB3 H=>?_
   ·refine gC<|wq<|aN [U,vB (r16 != 0)]<|G<|rU H (λEr H=>?_) λEr H=>?_
    ·refine gC<|aN [U]<|xG (pe #[bO aX O.ig.length bG]) (cs:=[bO aX O.ig.length bG]) ⟨(h.pick 8).cell 0 rfl,bU⟩<|?_;refine bS<|kL (h.pick 8) 1<|w7 H λvx uy Ov H=>fe (C2 (HX:=mR) (Kc:=nV) (IP:=(cx.up 9 vl)) (aZ:=aX) (bH:=bG) (aR:=(Aj.up 9 eN)) (aI:=fA) Ov h :) λw h=>ko [.tuple #[vr vx,Z uy],U,U]<|kN h (CH) 60 λXz w h=>kA h (Sc Xz vx) λw h=>bS<|G<|wq<|aN [U,vB (uy != 0)]<|G<|rU H (λLN H=>?_) λLN H=>?_
     ·refine gC<|aN dk<|kL (h.pick 9) 7<|qg H λWt H=>xc1 (HQ (va:=kO) (c:=my) (l:=O.qZ) (h:=h) (hv:=(cx.up 10 wK)) Wt :) λb41 w h=>bS<|G<|iv<|?_;obtain⟨T8,H,KY⟩:=jd3 H;refine λ_ r=>dz (β:=Unit) (λ_ a w=>∃B7:gF,∃B8:Nat,∃tN:gF,∃vR:Nat,∃SD:af,∃Ye:ag,∃LX:Int,.inl (SD,Ye,LX)=T8/\∃j,mF 146 (lk [(1,pA b1 0),(6,pA PA 0),(8,pA Xz 0),(11,Z LX)] j) a/\Fit z (aG (Wj b1 O aX bG mR nV fZ jL kO my::An PA SD (if_ 33 (pA Bn8 0)) tV sZ Ac Ch DK Gk Sq LM::hU Bn8 Ye B7 B8 tN vR (uF tV sZ SD.code::rz Ac Ch SD.dw::rV DK Gk SD.aJ::rA PA Sq LM SD.aj::Sc Xz vx::L))) w) ?_ ?_
      ·refine qq r<|iv<|wb<|λ_ r=>eD (β:=Nat) id (λm a w=>∃TK:gF,∃TL:Nat,∃Sf:gF,∃Sg:Nat,∃GP:af,∃Yr:ag,∃Qt:aV,∃N5:Int,∃Dl:Int,(fS K O m GP Yr Qt N5 Dl)=some T8/\∃j,mF 146 (lk [(1,pA b1 0),(6,pA PA 0),(8,pA Xz 0),(10,pA b41 0),(11,Z N5),(12,Z Dl)] j) a/\Fit z (aG (Wj b1 O aX bG mR nV fZ jL kO my::An PA GP (if_ 33 (pA Bn8 0)) tV sZ Ac Ch DK Gk Sq LM::hU Bn8 Yr TK TL Sf Sg (uF tV sZ GP.code::rz Ac Ch GP.dw::rV DK Gk GP.aJ::rA PA Sq LM GP.aj::Sc Xz vx::xo b41 Qt::L))) w) K ⟨Et,Jd,Je,xq,uj,qW,(⟨O.qZ⟩:aV),0,0,H,r.fj (h.se 11 [10,5,2,3,4,6,7,8,9,1,0])⟩<|?_;clear h r H;rintro k1 a w ⟨TK,TL,Sf,Sg,GP,Yr,Qt,N5,Dl,H,j,r,h⟩;cases k1 with
       | zero=>exact absurd H (by simp[fS])
       | succ k1 =>
        rw[fS]at H;refine qq r<|wq<|aN lI<|kL h 6<|ko [Z ((O.gH.length:Nat):Int),dm (Dl<((O.gH.length:Nat):Int))]<|G<|dQ H (λOO H=>?_) λOO H=>?_
        ·refine gC<|wq<|wb<|wq<|qg H λc61 H=>gg H λBs e63 H=>nc [(b1,6,[bO fZ O.gH.length jL]),(dR fZ,kz fZ+Dl.toNat*1,[Z (J O.gH Dl.toNat)]),(b1,2,[Z O.di])] [0,1,4,6] 10 h (λh=>⟨⟨h.cell 6 rfl,bU⟩,⟨rX.cell c61 (h.dn 11) 0 rfl,bU⟩,⟨h.cell 2 rfl,bU⟩,bU⟩) λw h hd =>mD hd 6 81 [([0,1],pA b1 6),([3],Z Dl),([6],pA b1 2)]<|eR hd 0 5 2 rfl<|nZ hd 4 4 rfl (pA (dR fZ) (kz fZ+Dl.toNat*1)) (λw=>HU 3 jL rfl rfl rX c61)<|eR hd 1 3 5 rfl<|eR hd 2 2 7 rfl<|mh 8 rfl<|fe (xe e63 h :) λw h=>G<|mK<|iK 0 9 rfl (Z Bs)<|nk<|tn<|ks<|gg H λr64 e65 H=>ko dk<|qh h.m4.m4.m4.m8.m8.m8.m8.m8 λh=>fe (vE e65 h :) λw h=>bS<|G<|ks<|qb5 H λr66 r67 Xy Qu M9 e71 H=>ko Ba<|qh h.V6.m8.m8.m8.m8.m8.m8.m8.m8 λh=>lS (yb (RB:=cx.up 2 RB) e71 h :) λx72 Na Nb Nc w h=>ko [.tuple #[fH r66,Z r67],U,U]<|kN h (gB) 47 λb76 w h=>kA h (fT b76 r66) λw h=>bS<|G<|wq<|aN [U,vB (r67 != 0)]<|G<|rU H (λc77 H=>?_) λc77 H=>?_
         ·refine gC<|wq<|aN [U,dm (r64>=0)]<|G<|dQ H (λc78 H=>?_) λc78 H=>?_
          ·refine wl<|ko [U,Z (wi (N5+1)),Z (wi (N5+1))]<|G<|aN [U]<|kL h 2<|ko [vB (r66.aP==11)]<|G<|dQ H (λc79 H=>?_) λc79 H=>?_
           ·refine wx<|λ_ r=>Ct dO<|qq r<|te<|te<|bh<|tn<|?_;exact λ_ r=>⟨(),x72,Na,Nb,Nc,Xy,Qu,(wi (N5+1)),gN H,r.fj (h.se 12 [10,1,6,7,8,2,3,4,5,11])⟩
           refine wk<|bn<|tn<|wl<|ko [U,Z (wi (Dl+1)),Z (wi (Dl+1))]<|G<|?_;exact λ_ r=>⟨_,⟨x72,Na,Nb,Nc,Xy,Qu,M9,(wi (N5+1)),(wi (Dl+1)),H,r.fj (h.se 12 [10,1,6,7,8,2,3,4,5,11,9])⟩,jG _⟩
          refine gC<|aN [U]<|kL h 2<|ko [vB (r66.aP==11)]<|G<|dQ H (λc80 H=>?_) λc80 H=>?_
          ·refine wx<|λ_ r=>Ct dO<|qq r<|te<|te<|bh<|tn<|?_;exact λ_ r=>⟨(),x72,Na,Nb,Nc,Xy,Qu,N5,gN H,r.fj (h.se 12 [10,1,6,7,8,2,3,4,5,11])⟩
          refine wk<|bn<|tn<|wl<|ko [U,Z (wi (Dl+1)),Z (wi (Dl+1))]<|G<|?_;exact λ_ r=>⟨_,⟨x72,Na,Nb,Nc,Xy,Qu,M9,N5,(wi (Dl+1)),H,r.fj (h.se 12 [10,1,6,7,8,2,3,4,5,11,9])⟩,jG _⟩
         refine iv<|wr<|tr<|br<|tr<|tr<|br<|tr<|λ_ r=>sX (vB false) rfl r<|?_;replace H:=jx3 H KY;cases H;exact⟨rfl,h.se 12 []⟩
        refine wx<|te<|te<|bh<|tn<|?_;exact λ_ r=>⟨(),TK,TL,Sf,Sg,GP,Yr,N5,gN H,r.fj (h.se 11 [0,1,2,3,4,5,6,7,8,9])⟩
      clear h r;rintro _ a w ⟨B7,B8,tN,vR,SD,Ye,LX,rfl,j,r,h⟩;replace H:=jk3 KY;refine qq r<|ks<|w7 H λUd Sy Zy H=>bS<|qh h.m4.m4.m4.m8.m8.m8.m8.m8 λh=>fe (AO Zy h :) λw h=>ko [.tuple #[Z Ud,vB Sy],U,U,U,U]<|G<|?_;obtain⟨o85,H,acR⟩:=F8 H;refine λ_ r=>dz (β:=Unit) (λ_ a w=>.inl ()=o85/\∃j,mF 146 (lk [(1,pA b1 0),(8,pA Xz 0),(11,Z LX)] j) a/\Fit z (aG (Wj b1 O aX bG mR nV fZ jL kO my::Sc Xz vx::L)) w) ?_ ?_
      ·refine qq r<|aN dk<|qI H (λXA H=>?_) λXA H=>?_
       ·refine cW (XA) [117,118] [Z LX,pA Xz 1]<|λ_ r=>ld (sY r (XA)) r (Z vx.j0) ((h.pick 9).cell 1 rfl)<|?_;refine cW (XA) [120] [pA Xz 2]<|λ_ r=>ld (sY r (XA)) r (Z vx.yH) ((h.pick 9).cell 2 rfl)<|?_;refine cW (XA) [122,123] [Z (wi (vx.j0+vx.yH)),dm (LX<(wi (vx.j0+vx.yH)))]<|oM (XA) (dm (LX<(wi (vx.j0+vx.yH))))<|G<|dQ H (λc87 H=>?_) λc87 H=>?_
        ·refine iv<|wr<|tr<|λ_ r=>sX (vB false) rfl r<|?_;replace H:=xm H acR;cases H;exact⟨rfl,h.se 10 []⟩
        refine gC<|?_;exact λ_ r=>⟨(),gN H,r.fj (h.se 10 [8,9])⟩
       refine cu (bF XA) [117,118,119,120,121,122,123]<|oG (bF XA) (vB false)<|G<|λ_ r=>jb r (b:=false) rfl<|qq r<|gC<|?_;exact λ_ r=>⟨(),gN H,r.fj (h.se 10 [8,9])⟩
      clear h r;rintro _ a w ⟨rfl,j,r,h⟩;replace H:=F9 acR;refine qq r<|aN dk<|kL (h.pick 1) 1<|ko [Z (wi ((2:Int)*vx.j0)),U]<|kL h 2<|ko [Z (wi (O.di+24)),U]<|kL (h.pick 1) 2<|ko [Z (wi ((wi (O.di+24))*vx.yH)),Z (wi ((wi ((2:Int)*vx.j0))+(wi ((wi (O.di+24))*vx.yH)))),dm (LX<=(wi ((wi ((2:Int)*vx.j0))+(wi ((wi (O.di+24))*vx.yH))))),dm (LX<=(wi ((wi ((2:Int)*vx.j0))+(wi ((wi (O.di+24))*vx.yH)))))]<|qI H (λUf H=>?_) λUf H=>?_
      ·refine cW (dT Uf) [138,139,140] [Z LX,dm (LX>0),dm (LX>0)]<|qI H (λUh H=>?_) λUh H=>?_
       ·refine cu (dT Uh) [141,142,143]<|λ_ r=>Dz (sY r (dT Uf)) r (vB true) (IY (b:=(decide (LX>0))) rfl aY (dT Uh) aY)<|?_;refine oM (dT Uf) (vB true)<|bS<|cr<|?_;cases H;exact fX (h.se 2 [])
       refine λ_ r=>ldm (sY r (dF Uh)) r (pe #[bO aX O.ig.length bG,bO mR O.zD.length nV,Z O.di,Z O.gw,Z O.gG,Z O.jf,bO fZ O.gH.length jL,bO kO O.qZ.length my]) (cs:=[bO aX O.ig.length bG,bO mR O.zD.length nV,Z O.di,Z O.gw,Z O.gG,Z O.jf,bO fZ O.gH.length jL,bO kO O.qZ.length my]) (h.held 0 rfl)<|?_;refine gg H λVK e91 H=>YX (dF Uh) (Bv (aX:=aX) (bG:=bG) (eN:=(Aj.up 2 eN)) (mR:=mR) (nV:=nV) (vl:=(cx.up 2 vl)) (fZ:=fZ) (jL:=jL) (rX:=(cx.up 2 rX)) (kO:=kO) (my:=my) (wK:=(cx.up 2 wK)) (fA:=fA) e91 h :) λw h=>cW (dF Uh) [143] [vB (!VK)]<|λ_ r=>Dz (sY r (dT Uf)) r (vB (!VK)) (IZ (b:=(decide (LX>0))) rfl aY (dF Uh) aY)<|?_;refine oM (dT Uf) (vB (!VK))<|ko [vB (!VK)]<|cr<|?_;cases H;exact fX (h.se 2 [])
      refine cu (dF Uf) [138,139,140]<|J8 false [141,142,143]<|cu (dF Uf) [144]<|oG (dF Uf) (vB false)<|bS<|cr<|?_;cases H;exact fX (h.se 2 [])
     refine ks<|gg H λr92 e93 H=>bS<|qh h.m3.m3.m3.m8.m8.m8.m8.m8 λh=>fe (vE e93 h :) λw h=>ko [vB (r92==0),vB (r92==0)]<|cr<|tr<|?_;cases H;exact fX (h.se 10 [])
    refine iv<|wr<|tr<|?_;cases H;exact fX (h.se 9 [])
   refine iv<|wr<|tr<|?_;cases H;exact fX (h.se 9 [])
  | none =>
   refine lS (Ck (u9:=mR) (wR:=nV) (Bz:=(cx.up 1 vl)) (jA:=aX) (mo:=bG) (mq:=(Aj.up 1 eN)) (xp:=cx.up 1 xp) (iW:=fA) Cy h :) λx94 OS OT RA w h=>ko [.tuple #[pN,Z r16],U,U,U,U]<|G<|wq<|aN [U,U,vB (r16 != vQ)]<|G<|rU H (λc98 H=>?_) λc98 H=>?_
   ·refine gC<|wq<|aN [U,vB (r16 != 0)]<|G<|rU H (λc99 H=>?_) λc99 H=>?_
    ·refine gC<|aN [U]<|xG (pe #[bO aX O.ig.length bG]) (cs:=[bO aX O.ig.length bG]) ⟨(h.pick 3).cell 0 rfl,bU⟩<|?_;refine bS<|kL (h.pick 3) 1<|?_;cases H
    refine iv<|wr<|tr<|?_;cases H;exact fX (h.se 4 [])
   refine iv<|wr<|tr<|?_;cases H;exact fX (h.se 4 [])
 | none =>
  refine fe (I7 e6 h :) λw h=>ko [.tuple #[pN,Z r5],U,U,U,U]<|G<|aN [U]<|xG (pe #[bO aX O.ig.length bG]) (cs:=[bO aX O.ig.length bG]) ⟨h.cell 0 rfl,bU⟩<|?_;refine bS<|kL h 1<|bS<|kL h 2<|bS<|xG (pe #[Z O.gw,Z O.gG,Z O.jf]) (cs:=[Z O.gw,Z O.gG,Z O.jf]) (h.held 3 rfl)<|?_;refine gg H λaeU aeV H=>fe (uP (HX:=mR) (Kc:=nV) (IP:=(cx.up 1 vl)) (aZ:=aX) (bH:=bG) (aR:=(Aj.up 1 eN)) (aI:=fA) aeV h :) λw h=>bS<|G<|aN lI<|xG (pe #[bO aX O.ig.length bG]) (cs:=[bO aX O.ig.length bG]) ⟨h.cell 0 rfl,bU⟩<|?_;refine bS<|kL h 1<|bS<|kL h 2<|bS<|xG (pe #[Z O.gw,Z O.gG,Z O.jf]) (cs:=[Z O.gw,Z O.gG,Z O.jf]) (h.held 3 rfl)<|?_;cases H
end
open Go SL GX
section
variable {K:Nat}
theorem IF(x:Int):wi x=(if 9223372036854775808<=x%18446744073709551616 then x%18446744073709551616-18446744073709551616 else x%18446744073709551616):=by
 show IntKind.i64.wrap x=_;unfold IntKind.wrap;simp[IntKind.bits,IntKind.signed]
abbrev uu(x:Int):Prop:=-9223372036854775808<=x/\x<=9223372036854775807
theorem Gy(x:Int):uu (wi x):=by rw[IF];unfold uu;split<;>omega
theorem wP{x:Int}(h:uu x):wi x=x:=by rw[IF];unfold uu at h;split<;>omega
theorem acS{a b:Int}(h:a%18446744073709551616=b%18446744073709551616):wi a=wi b:=by rw[IF,IF,h]
def fb(f:Bool->Bool->Bool):Nat->Int->Int->Int
 | 0,_,_=>0
 | n+1,a,b=>(if f (decide (a%2=1)) (decide (b%2=1))then 1 else 0)+2*fb f n (a/2) (b/2)
theorem Va(x:Int):((x.tmod (2:Int)) != 0)=decide (x%2=1):=by
 rw[JV];by_cases h:x%2=1
 ·rw[tJ h];by_cases h0:0<=x∨(2:Int)∣x
  ·rw[aM h0,h];rfl
  ·rw[bZ h0,h];rfl
 ·rw[JS h];have h2:x%2=0:=by omega
  rw[aM (.inr (Int.dvd_of_emod_eq_zero h2)),h2];rfl
theorem QY{x:Int}(h:uu x):(if x<0 then(if(x.tmod (2:Int))=0 then wi (x.tdiv (2:Int))else wi ((wi (x.tdiv (2:Int)))-1))else wi (x.tdiv (2:Int)))=x/2:=by
 unfold uu at h;have e:=Int.tdiv_eq_ediv (a:=x) (b:=2);have e2:=JV (a:=x) (b:=2);by_cases h0:x<0
 ·rw[aM h0];by_cases h2:(2:Int)∣x
  ·rw[aM (.inr h2)]at e e2;have:=Int.emod_eq_zero_of_dvd h2;rw[aM (by rw[e2,this];rfl),e,Int.add_zero,wP (by unfold uu;omega)]
  ·rw[eu]at e e2;have:x%2=1:=by have:=λh=>h2 (Int.dvd_of_emod_eq_zero h);omega
   have e3:x.tdiv 2=x/2+1:=by rw[e];rfl
   rw[bZ (by rw[e2,this];decide),e3,wP (x:=_+_) (by unfold uu;omega),wP (by unfold uu;omega)];omega
 ·rw[bZ h0];rw[aM (.inl I)]at e;rw[e,Int.add_zero,wP (by unfold uu;omega)]
theorem PB{x:Int}(h:uu x):uu (x/2):=by unfold uu at h⊢;omega
theorem aak(n:Nat)(a:Int):a%2 ^ (n+1)=2*(a/2%2 ^ n)+a%2:=by
 have p:(0:Int)<2 ^ n:=Int.pow_pos dO;have q:=BK (a/2) (b:=2 ^ n) I;have q2:=C6 (a/2) p;have e:=L5 (a/2) (2 ^ n);have e0:=L5 a 2;have h:a=(2*(a/2%2 ^ n)+a%2)+2 ^ (n+1)*(a/2/2 ^ n):=by
  rw[Int.pow_succ,FV (2 ^ n) 2,Int.mul_assoc];omega
 have r1:(2*(a/2%2 ^ n)+a%2)%2 ^ (n+1)=2*(a/2%2 ^ n)+a%2:=Int.emod_eq_of_lt I (by rw[Int.pow_succ];omega)
 calc a%2 ^ (n+1)=((2*(a/2%2 ^ n)+a%2)+2 ^ (n+1)*(a/2/2 ^ n))%2 ^ (n+1):=by rw[<-h]
  _=_:=by rw[Int.add_mul_emod_self_left,r1]
theorem QZ(n:Nat)(a:Int):(a%2 ^ (n+1)).toNat=2*(a/2%2 ^ n).toNat+(a%2).toNat:=by
 have h:=aak n a;have p:(0:Int)<2 ^ n:=Int.pow_pos dO;have q:=BK (a/2) (b:=2 ^ n) I;omega
theorem LF(f:Bool->Bool->Bool)(o:Nat->Nat->Nat)(h0:o 0 0=0)(hs:∀u v x y,x<2->y<2->o (2*u+x) (2*v+y)=2*o u v+(if f (decide (x=1)) (decide (y=1))=true then 1 else 0)):∀(n:Nat) (a b:Int),fb f n a b=((o (a%2 ^ n).toNat (b%2 ^ n).toNat:Nat):Int)
 | 0,a,b=>by
  have e:∀x:Int,(x%2 ^ 0).toNat=0:=λx=>by simp[Int.emod_one]
  rw[e,e,h0];rfl
 | n+1,a,b=>by
  rw[fb,LF f o h0 hs n,QZ n a,QZ n b,hs _ _ _ _ I I];have k:∀x:Int,decide ((x%2).toNat=1)=decide (x%2=1):=λx=>by simp only[decide_eq_decide];omega
  rw[k,k];split<;>omega
theorem sG(u x:Nat)(hx:x<2):(2*u+x)/2=u/\(2*u+x)%2=x:=by omega
theorem aal(a b:Int):wi (fb (λp q=>p&&q) 64 a b)=iq a b:=by
 rw[LF _ (· &&& ·) dO (λu v x y hx hy=>by
  have e:=FU ((2*u+x) &&& (2*v+y)) 2;have e1:((2*u+x) &&& (2*v+y))%2=x &&& y:=by
   have:=Nat.and_mod_two_pow (a:=2*u+x) (b:=2*v+y) (n:=1);rw[Nat.pow_one,(sG u x hx).2,(sG v y hy).2]at this;exact this
  rw[Nat.and_div_two,(sG u x hx).1,(sG v y hy).1,e1]at e;rw[<-e];rcases(show x=0∨x=1 by omega)with rfl | rfl<;>rcases(show y=0∨y=1 by omega)with rfl | rfl<;>rfl)]
 unfold iq;rw[BitVec.toNat_and,He,He];rfl
theorem acT(a b:Int):wi (fb (λp q=>p||q) 64 a b)=Of a b:=by
 rw[LF _ (· ||| ·) dO (λu v x y hx hy=>by
  have e:=FU ((2*u+x) ||| (2*v+y)) 2;have e1:((2*u+x) ||| (2*v+y))%2=x ||| y:=by
   have:=Nat.or_mod_two_pow (a:=2*u+x) (b:=2*v+y) (n:=1);rw[Nat.pow_one,(sG u x hx).2,(sG v y hy).2]at this;exact this
  rw[Nat.or_div_two,(sG u x hx).1,(sG v y hy).1,e1]at e;rw[<-e];rcases(show x=0∨x=1 by omega)with rfl | rfl<;>rcases(show y=0∨y=1 by omega)with rfl | rfl<;>rfl)]
 unfold Of;rw[BitVec.toNat_or,He,He];rfl
theorem aam(a b:Int):wi (fb (λp q=>p != q) 64 a b)=Oh a b:=by
 rw[LF _ (· ^^^ ·) dO (λu v x y hx hy=>by
  have e:=FU ((2*u+x) ^^^ (2*v+y)) 2;have e1:((2*u+x) ^^^ (2*v+y))%2=x ^^^ y:=by
   have:=Nat.xor_mod_two_pow (a:=2*u+x) (b:=2*v+y) (n:=1);rw[Nat.pow_one,(sG u x hx).2,(sG v y hy).2]at this;exact this
  rw[Nat.xor_div_two,(sG u x hx).1,(sG v y hy).1,e1]at e;rw[<-e];rcases(show x=0∨x=1 by omega)with rfl | rfl<;>rcases(show y=0∨y=1 by omega)with rfl | rfl<;>rfl)]
 unfold Oh;rw[BitVec.toNat_xor,He,He];rfl
theorem Vb(y:Int):iq y 63=y%64:=by
 unfold iq;rw[BitVec.toNat_and,He,show(BitVec.ofInt 64 63).toNat=2 ^ 6-1 from rfl,Nat.and_two_pow_sub_one_eq_mod];have e:((2 ^ 64:Nat):Int)=18446744073709551616:=by decide
 rw[e];show wi _=_;rw[wP I];omega
theorem Ys(z:Int) :∃c,wi z=z+18446744073709551616*c:=by
 rw[IF];split
 ·exact⟨-(z/18446744073709551616)-1,I⟩
 ·exact⟨-(z/18446744073709551616),I⟩
theorem Yt(b t:Int):wi (b+18446744073709551616*t)=wi b:=acS (Int.add_mul_emod_self_left b _ t)
theorem PC(z f b:Int):wi (b+wi z*f)=wi (b+z*f):=by
 obtain⟨c,hc⟩:=Ys z;rw[hc,Int.add_mul,Int.mul_assoc,<-Int.add_assoc,Yt]
theorem acU(z b:Int):wi (wi z+b)=wi (z+b):=by
 obtain⟨c,hc⟩:=Ys z;rw[hc,show z+18446744073709551616*c+b=z+b+18446744073709551616*c by omega,Yt]
def bf(p2 p3 x y:Bool):Bool:=if x&&y then p2 else if x==y then false else p3
theorem Vc{p2 p3:Bool}:∀(n k j:Nat) (a b c e:Int),j+n=64->n<k->uu a->uu b->uu c->lD K p2 p3 k a b c e (j:Int)=some (wi (c+e*fb (bf p2 p3) n a b))
 | n,k,j,a,b,c,e,hj,hk,ha,hb,hc=>by
  obtain⟨k,rfl⟩ :∃m,k=m+1:=⟨k-1,I⟩;rw[lD];cases n with
  | zero=>rw[eu,fb,Int.mul_zero,Int.add_zero,wP hc]
  | succ n =>
   have hh:∀x,uu x->kY x=some (x/2):=λx hx=>by
    rw[<-QY hx];unfold kY;split
    ·split<;>rfl
    ·rfl
   rw[sR];unfold sF;rw[Va,Va,aq,aq,hh a ha,hh b hb];have key:(if decide (a%2=1)=true then(if decide (b%2=1)=true then(if p2=true then some (wi (c+e))else(if decide (a%2=1)=decide (b%2=1)then some c else(if p3=true then some (wi (c+e))else some c)))else(if decide (a%2=1)=decide (b%2=1)then some c else(if p3=true then some (wi (c+e))else some c)))else(if decide (a%2=1)=decide (b%2=1)then some c else(if p3=true then some (wi (c+e))else some c))) =
    some (if bf p2 p3 (decide (a%2=1)) (decide (b%2=1))=true then wi (c+e)else c):=by
    generalize decide (a%2=1)=x;generalize decide (b%2=1)=y;cases x<;>cases y<;>cases p2<;>cases p3<;>rfl
   rw[key,aq,aq,aq,show wi ((j:Int)+1)=((j+1:Nat):Int) by rw[wP (by unfold uu;omega)];omega];rw[Vc n k (j+1) _ _ _ _ I I (PB ha) (PB hb) (by split;exact Gy _;exact hc),fb,PC]
   congr 1
   split
   ·rw[acU];congr 1;rw[Int.mul_add,<-Int.mul_assoc,FV e 2,Int.two_mul];omega
   ·congr 1;rw[Int.zero_add,<-Int.mul_assoc,FV e 2,Int.two_mul]
theorem LG{p2 p3:Bool}{a b:Int}(hK:100<K)(ha:uu a)(hb:uu b):jF K a b p2 p3=some (wi (fb (bf p2 p3) 64 a b)):=by
 unfold jF;have:=Vc (K:=K) (p2:=p2) (p3:=p3) 64 K 0 a b 0 1 I I ha hb (by unfold uu;omega);rw[rj]at this;rw[this,Int.zero_add,Int.one_mul]
theorem Q1:∀(n k j s:Nat) (g:Int),j+n=s->n<k->s<=64->uu g->gY K (s:Int) true k g (j:Int)=some (wi (g*2 ^ n))
 | n,k,j,s,g,hj,hk,hs,hg=>by
  obtain⟨k,rfl⟩ :∃m,k=m+1:=⟨k-1,I⟩;rw[gY];cases n with
  | zero=>rw[eu,Int.pow_zero,Int.mul_one,wP hg]
  | succ n =>
   rw[sR,aM rfl,show wi ((j:Int)+1)=((j+1:Nat):Int) by rw[wP (by unfold uu;omega)];omega,Q1 n k (j+1) s _ I I hs (Gy _)];have:=PC (g+g) (2 ^ n) 0;rw[Int.zero_add,Int.zero_add]at this;rw[this];congr 2;rw[Int.pow_succ,FV (2 ^ n) 2,<-Int.mul_assoc];congr 1;omega
theorem Q2:∀(n k j s:Nat) (g:Int),j+n=s->n<k->s<=64->uu g->gY K (s:Int) false k g (j:Int)=some (g/2 ^ n)
 | n,k,j,s,g,hj,hk,hs,hg=>by
  obtain⟨k,rfl⟩ :∃m,k=m+1:=⟨k-1,I⟩;have hh:∀x,uu x->kY x=some (x/2):=λx hx=>by
   rw[<-QY hx];unfold kY;split
   ·split<;>rfl
   ·rfl
  rw[gY];cases n with
  | zero=>rw[eu,Int.pow_zero,Int.ediv_one]
  | succ n =>
   rw[sR,bZ dO,hh g hg,aq,show wi ((j:Int)+1)=((j+1:Nat):Int) by rw[wP (by unfold uu;omega)];omega,Q2 n k (j+1) s _ I I hs (PB hg)]
   congr 1
   rw[Int.ediv_ediv_of_nonneg dO,Int.pow_succ,FV]
theorem NP(y:Int):lF y=some (y%64):=by
 unfold lF;have e:=JV (a:=y) (b:=64);by_cases h:0<=y∨(64:Int)∣y
 ·rw[aM h]at e;rw[eu];congr 1;omega
 ·rw[bZ h]at e;have e:y.tmod 64=y%64-64:=e;have:y%64≠0:=λh'=>h (.inr (Int.dvd_of_emod_eq_zero h'));rw[sR,wP (by unfold uu;omega)];congr 1;omega
theorem Vd{x:Int}(h0:0<=x)(h1:x<64):IntKind.u64.wrap x=x:=by
 simp only[IntKind.wrap,IntKind.min,IntKind.max,IntKind.signed,IntKind.bits];simp;omega
theorem PD{op x y:Int}(h0:0<=op)(h1:op<16)(hx:uu x)(hy:uu y)(hK:100<K):qG K op x y=rH op x y:=by
 unfold qG rH zN;rw[eu,eu,aM h0,aq,aM (tJ h1)];have tr:∀b,iH b=mu b:=λb=>rfl;have key:rN K op x y=um op x y:=by
  unfold rN um;rcases(show op=0∨op=1∨op=2∨op=3∨op=4∨op=5∨op=6∨op=7∨op=8∨op=9∨op=10∨op=11∨op=12∨op=13∨op=14∨op=15 by omega)with rfl | rfl | rfl | rfl | rfl | rfl | rfl | rfl | rfl | rfl | rfl | rfl | rfl | rfl | rfl | rfl
  ·rfl
  ·rfl
  ·rfl
  ·simp only[bZ (show ¬((3:Int)=0) by decide),bZ (show ¬((3:Int)=1) by decide),bZ (show ¬((3:Int)=2) by decide),if_true];unfold oY og;by_cases e0:y=0
   ·rw[aM e0,aM e0];rfl
   ·rw[bZ e0,bZ e0];by_cases e1:y=-1
    ·rw[aM e1,aM e1];rfl
    ·rw[bZ e1,bZ e1,aM e0,aM e0];rfl
  ·simp only[bZ (show ¬((4:Int)=0) by decide),bZ (show ¬((4:Int)=1) by decide),bZ (show ¬((4:Int)=2) by decide),bZ (show ¬((4:Int)=3) by decide),if_true];unfold oY og;by_cases e0:y=0
   ·rw[aM e0,aM e0,aq,eF,Int.zero_mul,show wi 0=0 from rfl,Int.sub_zero,wP hx]
   ·rw[bZ e0,bZ e0];by_cases e1:y=-1
    ·rw[aM e1,aM e1,aq,eF];subst e1
     congr 1
     unfold uu at hx;by_cases hm:x=-9223372036854775808
     ·subst hm;rfl
     ·rw[wP (x:=0-x) (by unfold uu;omega),wP (x:=(0-x)*-1) (by unfold uu;omega),wP (by unfold uu;omega)];omega
    ·rw[bZ e1,bZ e1,aM e0,aM e0,aq,eF]
     congr 1
     have e2:x.tmod y+y*x.tdiv y=x:=Int.tmod_add_mul_tdiv x y;have hq:uu (x.tdiv y):=by
      clear e2;unfold uu at hx⊢;by_cases y1:y=1
      ·rw[y1,Int.tdiv_one];exact hx
      have h4:=Int.natAbs_tdiv x y;have h2:2<=y.natAbs:=by omega
      have h5:x.natAbs/y.natAbs<=x.natAbs/2:=Nat.div_le_div_left h2 dO;have h6:x.natAbs<=9223372036854775808:=by omega
      generalize x.tdiv y=q at h4⊢;have h7:q.natAbs<=4611686018427387904:=Bi (Nat.le_of_eq h4) (Bi h5 I);omega
     have hm:uu (x.tmod y):=by
      unfold uu at hx hy⊢;have h4:=Int.natAbs_tmod x y;have h6:=BF x.natAbs (show 0<y.natAbs by omega);have h7:y.natAbs<=9223372036854775808:=by omega
      generalize x.tmod y=q at h4⊢;omega
     rw[wP hq,show x-wi (x.tdiv y*y)=x+wi (x.tdiv y*y)*(-1) by omega,PC,show x+x.tdiv y*y*(-1)=x.tmod y by rw[FV (x.tdiv y) y];omega,wP hm]
  ·show eA (jF K x y true false) _=some (iq x y);rw[LG hK hx hy,aq,<-aal];congr 3;funext a b;cases a<;>cases b<;>rfl
  ·show eA (jF K x y true true) _=some (Of x y);rw[LG hK hx hy,aq,<-acT];congr 3;funext a b;cases a<;>cases b<;>rfl
  ·show eA (jF K x y false true) _=some (Oh x y);rw[LG hK hx hy,aq,<-aam];congr 3;funext a b;cases a<;>cases b<;>rfl
  ·show eA (lF y) (λr=>eA (lG K x r true) _)=some (Rj x (IntKind.u64.wrap (iq y 63)));obtain⟨s,hs⟩ :∃s:Nat,y%64=s:=⟨(y%64).toNat,I⟩;rw[NP,aq,Vb,Vd I I,hs];unfold lG Rj;have:=Q1 (K:=K) s K 0 s x I I I hx;rw[rj]at this;rw[this,aq,cL,yu I]
  ·show eA (lF y) (λr=>eA (lG K x r false) _)=some (Mu x (IntKind.u64.wrap (iq y 63)));obtain⟨s,hs⟩ :∃s:Nat,y%64=s:=⟨(y%64).toNat,I⟩;rw[NP,aq,Vb,Vd I I,hs];unfold lG Mu;have:=Q2 (K:=K) s K 0 s x I I I hx;rw[rj]at this;rw[this,aq,cL,yu I,Int.fdiv_eq_ediv_of_nonneg _ (Int.le_of_lt (Int.pow_pos dO))]
  ·show eA (if x<y then some x else some y) _=some (if y<x then y else x);by_cases h:x<y
   ·rw[aM h,eu];rfl
   ·rw[bZ h];by_cases h':y<x
    ·rw[aM h'];rfl
    ·rw[bZ h',show y=x by omega];rfl
  ·show eA (if x>y then some x else some y) _=some (if y>x then y else x);by_cases h:x>y
   ·rw[aM h,eu];rfl
   ·rw[bZ h];by_cases h':y>x
    ·rw[aM h'];rfl
    ·rw[bZ h',show y=x by omega];rfl
  ·show eA (eA (iH (decide (x<y))) _) _=eA (mu (decide (x<y))) _;rw[tr];cases h:mu (decide (x<y))<;>rfl
  ·show eA (eA (iH (decide (x<=y))) _) _=eA (mu (decide (x<=y))) _;rw[tr];cases h:mu (decide (x<=y))<;>rfl
  ·show eA (eA (iH (x==y)) _) _=eA (mu (x==y)) _;rw[tr];cases h:mu (x==y)<;>rfl
  ·show eA (eA (iH (x != y)) _) _=eA (mu (x != y)) _;rw[tr];cases h:mu (x != y)<;>rfl
 rw[key]
theorem acV{op x y:Int}(h0:0<=op)(h1:op<16)(hx:uu x)(hy:uu y):uu (Ut op x y):=by
 have e:=Iw h0 h1 x y;unfold rH zN at e;rw[aM h0,aq,aM (tJ h1)]at e;have tr:∀b v,mu b=some v->uu v:=λb v h=>by cases b<;>cases h<;>exact⟨dO,dO⟩
 have ob:∀{o:Option Int} {v:Int},eA o (λr=>some r)=some v->o=some v:=λ{o v} h=>by cases o<;>simp[eA]at h⊢;exact h
 generalize hv:Ut op x y=v at e⊢;have e:um op x y=some v:=by
  cases h:um op x y with
  | none=>rw[h]at e;cases e
  | some u=>rw[h,aq]at e;cases e;rfl
 unfold um at e;rcases(show op=0∨op=1∨op=2∨op=3∨op=4∨op=5∨op=6∨op=7∨op=8∨op=9∨op=10∨op=11∨op=12∨op=13∨op=14∨op=15 by omega)with rfl | rfl | rfl | rfl | rfl | rfl | rfl | rfl | rfl | rfl | rfl | rfl | rfl | rfl | rfl | rfl
 ·cases e;exact Gy _
 ·cases e;exact Gy _
 ·cases e;exact Gy _
 ·have e:tL (og x y) (λr5 r6=>some r5)=some v:=e;unfold og at e;by_cases e0:y=0
  ·rw[aM e0]at e;cases e;exact⟨dO,dO⟩
  ·rw[bZ e0]at e;by_cases e1:y=-1
   ·rw[aM e1]at e;cases e;exact Gy _
   ·rw[bZ e1,aM e0]at e;cases e;exact Gy _
 ·have e:tL (og x y) (λr5 r6=>some r6)=some v:=e;unfold og at e;by_cases e0:y=0
  ·rw[aM e0]at e;cases e;exact hx
  ·rw[bZ e0]at e;by_cases e1:y=-1
   ·rw[aM e1]at e;cases e;exact⟨dO,dO⟩
   ·rw[bZ e1,aM e0]at e;cases e;unfold uu at hx hy⊢;have h4:=Int.natAbs_tmod x y;have h6:=BF x.natAbs (show 0<y.natAbs by omega);have h7:y.natAbs<=9223372036854775808:=by omega
    generalize x.tmod y=q at h4⊢;omega
 ·cases e;exact Gy _
 ·cases e;exact Gy _
 ·cases e;exact Gy _
 ·cases e;exact Gy _
 ·have e:some (Mu x (IntKind.u64.wrap (iq y 63)))=some v:=e;cases e;unfold Mu;have p:(0:Int)<2 ^ (min (IntKind.u64.wrap (iq y 63)).toNat 64):=Int.pow_pos dO;rw[Int.fdiv_eq_ediv_of_nonneg _ (Int.le_of_lt p)];generalize (2:Int) ^ (min (IntKind.u64.wrap (iq y 63)).toNat 64)=q at p;unfold uu at hx⊢;have a1:=L5 x q;have a2:=BK x (b:=q) I;have a3:=C6 x p;by_cases hz:0<=x
  ·have:=Int.ediv_le_self q hz;have:=Int.ediv_nonneg hz (Int.le_of_lt p);omega
  ·have h1:x/q<0:=Int.ediv_neg_of_neg_of_pos I p;have h2:x<=x/q:=by
    have:q*(x/q)<=1*(x/q):=Int.mul_le_mul_of_nonpos_right I I;rcases Int.lt_or_le (x/q) x with h | h
    ·exfalso
     have:(x/q)*q<=(x/q)*1:=Int.mul_le_mul_of_nonpos_left I I;have h4:x/q+1<=x:=by omega
     have h5:x<(x/q+1)*q:=by rw[Int.add_mul,Int.one_mul,FV (x/q) q];omega
     have h6:(x/q+1)*q<=(x/q+1)*1:=Int.mul_le_mul_of_nonpos_left I I;omega
    ·exact h
   omega
 ·have e:some (if y<x then y else x)=some v:=e;cases e;split
  ·exact hy
  ·exact hx
 ·have e:some (if y>x then y else x)=some v:=e;cases e;split
  ·exact hy
  ·exact hx
 ·exact tr _ _ (ob e)
 ·exact tr _ _ (ob e)
 ·exact tr _ _ (ob e)
 ·exact tr _ _ (ob e)
end
end Mo
end
section
namespace Am
def DZ(C:jt)(g a:Nat):List Nat:=
 match C.code g a with
 | .jump t=>[t]
 | .branch _ t=>[a+1,t]
 | .ret _=>[]
 | _=>[a+1]
def PE(x:ZQ)(c st:Nat):Nat:=
 match x with
 | .spawn s _ _=>if s=c then 2 else st
 | .sync=>if st=2 then 4 else st
 | _=>st
structure NQ(C:jt) where
 slots:Nat->Nat
 R:Nat->Nat->Nat->Nat->Prop
 r0:∀g,g<C.QA->∀c,c<slots g->R g 0 c 1
 rn:∀g a c st,g<C.QA->a<C.len g->c<slots g->R g a c st->∀n∈DZ C g a,R g n c (PE (C.code g a) c st)
 sp:∀g a s f c,g<C.QA->a<C.len g->C.code g a= .spawn s f c->s<slots g/\¬R g a s 2
 ld:∀g a x s,g<C.QA->a<C.len g->C.code g a= .load x s->s<slots g/\¬R g a s 1/\¬R g a s 2
 rt:∀g a x,g<C.QA->a<C.len g->C.code g a= .ret x->∀c,c<slots g->¬R g a c 2
structure SL(C:jt)(φ:NQ C)(s:St)(σ:Nat->Nat->Nat):Prop where
 a:∀f,f<s.nf->live (s.loc f)=true->∀c,c<φ.slots (s.fr f).fn->φ.R (s.fr f).fn (s.fr f).J c (σ f c)
 b:∀f,f<s.nf->s.loc f≠.waiting->∀k∈s.bt f,(s.fr k).slot<φ.slots (s.fr f).fn/\σ f (s.fr k).slot=2
 k:∀i c,i<C.N->s.pc i= .fork c->(s.fr c).slot<φ.slots (s.fr (s.fr c).par).fn/\σ (s.fr c).par (s.fr c).slot=2
 u:∀f,∀k∈s.bt f,∀k'∈s.bt f,(s.fr k).slot=(s.fr k').slot->k=k'
 v:∀i c,i<C.N->s.pc i= .fork c->∀k∈s.bt (s.fr c).par,(s.fr k).slot≠(s.fr c).slot
section
variable {C:jt}{φ:NQ C}{s:St}{i:Nat}{σ:Nat->Nat->Nat}
theorem SL.of{s':St}(h:SL C φ s σ)(h1:s'.fr=s.fr)(h2:s'.nf=s.nf)(hl:∀f,live (s'.loc f)=true->live (s.loc f)=true)
 (hw:∀f,s'.loc f≠.waiting->s.loc f≠.waiting∨s'.bt f=[]) (hk:∀f,∀k∈s'.bt f,k∈s.bt f) (hp:∀i c,s'.pc i= .fork c->s.pc i= .fork c):SL C φ s' σ:=by
 obtain⟨a,b,k,u,v⟩:=h;refine⟨?_,?_,?_,?_,?_⟩
 ·intro f hf hlf;rw[h1];exact a f (h2▸ hf) (hl f hlf)
 ·intro f hf hn x hx;rw[h1];rcases hw f hn with e | e
  ·exact b f (h2▸ hf) e x (hk f x hx)
  ·rw[e]at hx;cases hx
 ·intro i c hi hc;rw[h1];exact k i c hi (hp i c hc)
 ·intro f x hx y hy;rw[h1];exact u f x (hk f x hx) y (hk f y hy)
 ·intro i c hi hc x hx;rw[h1]at hx⊢;exact v i c hi (hp i c hc) x (hk _ x hx)
theorem SL.Yu{s':St}{p:Pc}(h:SL C φ s σ)(h1:s'.fr=s.fr)(h2:s'.nf=s.nf)(h3:s'.loc=s.loc)(h4:s'.bt=s.bt)(hp:s'.pc=bJ s.pc i p)(hf:∀c,p≠.fork c):SL C φ s' σ:=
 h.of h1 h2 (by rw[h3];exact λ_ x=>x) (by rw[h3];exact λ_ x=>.inl x) (by rw[h4];exact λ_ _ x=>x) (by
  intro j c hj;rw[hp,cA]at hj;split at hj
  ·exact absurd hj (hf c)
  ·exact hj)
theorem SL.put{s':St}{p:Pc}{f:Nat}{l:Loc}(h:SL C φ s σ)(h1:s'.fr=s.fr)(h2:s'.nf=s.nf)(h3:s'.loc=bJ s.loc f l)(h4:s'.bt=s.bt)(hp:s'.pc=bJ s.pc i p)(hf:∀c,p≠.fork c)
 (hl:live l=true->live (s.loc f)=true) (hw:s.loc f≠.waiting∨s.bt f=[]):SL C φ s' σ:=
 h.of h1 h2 (λg=>by
  rw[h3,cA];split
  ·next e=>subst e;exact hl
  ·exact id) (λg=>by
  rw[h3,cA,h4];split
  ·next e=>subst e;exact λ_=>hw
  ·exact λx=>.inl x) (by rw[h4];exact λ_ _ x=>x) (by
  intro j c hj;rw[hp,cA]at hj;split at hj
  ·exact absurd hj (hf c)
  ·exact hj)
def Q3(x:Fr):Nat×Nat×Nat:=(x.fn,x.slot,x.par)
theorem SL.tail{s':St}{σ':Nat->Nat->Nat}(h:SL C φ s σ)(h1:∀f,Q3 (s'.fr f)=Q3 (s.fr f))(h2:s'.nf=s.nf)
 (hw:∀f,s'.loc f≠.waiting->(s.loc f≠.waiting/\∀c,σ f c=2->σ' f c=2)∨s'.bt f=[]) (hk:∀f,∀k∈s'.bt f,k∈s.bt f) (hp:∀i c,i<C.N->s'.pc i= .fork c->s.pc i= .fork c/\∀x,σ (s.fr c).par x=2->σ' (s.fr c).par x=2)
 (ha:∀f,f<s'.nf->live (s'.loc f)=true->∀c,c<φ.slots (s'.fr f).fn->φ.R (s'.fr f).fn (s'.fr f).J c (σ' f c)):SL C φ s' σ':=by
 have fn_:∀g,(s'.fr g).fn=(s.fr g).fn:=λg=>nu (·.1) (h1 g);have bO:∀g,(s'.fr g).slot=(s.fr g).slot:=λg=>nu (·.2.1) (h1 g);have pr_:∀g,(s'.fr g).par=(s.fr g).par:=λg=>nu (·.2.2) (h1 g);refine⟨ha,?_,?_,?_,?_⟩
 ·intro f hf hn x hx;rw[fn_,bO];rcases hw f hn with e | e
  ·have:=h.b f (h2▸ hf) e.1 x (hk f x hx);exact⟨this.1,e.2 _ this.2⟩
  ·rw[e]at hx;cases hx
 ·intro i c hi hc;rw[pr_,fn_,bO];have:=h.k i c hi (hp i c hi hc).1;exact⟨this.1,(hp i c hi hc).2 _ this.2⟩
 ·intro f x hx y hy;rw[bO,bO];exact h.u f x (hk f x hx) y (hk f y hy)
 ·intro i c hi hc x hx;rw[pr_]at hx;rw[bO,bO];exact h.v i c hi (hp i c hi hc).1 x (hk _ x hx)
theorem yI{f:Nat}{y:Fr}(hy:Q3 y=Q3 (s.fr f))(g:Nat):Q3 (bJ s.fr f y g)=Q3 (s.fr g):=by
 rw[cA];split
 ·next e=>rw[e,hy]
 ·rfl
theorem SL.data{s':St}{f:Nat}{y:Fr}(h:SL C φ s σ)(hr:FR C s)(hf:(view s).FI C.N C.F)(hi:i<C.N)(hh:s.hold i=some f)
 (h1:s'.fr=bJ s.fr f y) (h2:s'.nf=s.nf) (h3:s'.loc=s.loc) (h4:s'.bt=s.bt) (h5:∀i c,s'.pc i= .fork c->s.pc i= .fork c) (hy:Q3 y=Q3 (s.fr f))
 (hn:y.J∈DZ C (s.fr f).fn (s.fr f).J) (ha:∀c st,PE (C.code (s.fr f).fn (s.fr f).J) c st=st):SL C φ s' σ:=by
 obtain⟨hl,hlt⟩:=nA hf hi hh;obtain⟨b1,b2,b3⟩:=hr f hlt;refine h.tail (λg=>by rw[h1];exact yI hy g) h2 (λg hg=>.inl ⟨h3▸ hg,λ_ e=>e⟩) (λg k hk=>h4▸ hk) (λi c _ hc=>⟨h5 i c hc,λ_ e=>e⟩) (λg hg QF c hc => ?_);rw[h3]at QF;have hfn:(s'.fr g).fn=(s.fr g).fn:=by have:=nu (·.1) (yI (s:=s) hy g);rw[h1];exact this
 rw[hfn]at hc⊢;by_cases e:g=f
 ·subst e;rw[h1,aF];have:=φ.rn _ _ c _ b1 (b3 hl) hc (h.a g hlt hl c hc) _ hn
  rwa [ha]at this
 ·rw[h1,aA e];exact h.a g (h2▸ hg) QF c hc
theorem SL.sync{s':St}{f:Nat}{y:Fr}{l:Loc}(h:SL C φ s σ)(hr:FR C s)(hf:(view s).FI C.N C.F)(hi:i<C.N)(hh:s.hold i=some f)(hp:s.pc i= .run)
 (hc:C.code (s.fr f).fn (s.fr f).J= .sync) (h1:s'.fr=bJ s.fr f y) (h2:s'.nf=s.nf) (h3:s'.loc=bJ s.loc f l) (hl:l= .waiting∨s.bt f=[]) (h4:s'.bt=s.bt) (h5:∀j c,s'.pc j= .fork c->j≠i/\s.pc j= .fork c)
 (hy:Q3 y=Q3 (s.fr f)) (hn:y.J=(s.fr f).J+1):SL C φ s' (bJ σ f (λc=>if σ f c=2 then 4 else σ f c)):=by
 obtain⟨hl',hlt⟩:=nA hf hi hh;obtain⟨b1,b2,b3⟩:=hr f hlt;refine h.tail (λg=>by rw[h1];exact yI hy g) h2 (λg hg => ?_) (λg k hk=>h4▸ hk) (λj c hj hc=>⟨(h5 j c hc).2,λx hx => ?_⟩) (λg hg QF c EE => ?_)
 ·rw[h3,cA]at hg;by_cases e:g=f
  ·subst e;rw[aM rfl]at hg;rcases hl with e | e
   ·exact absurd e hg
   ·exact .inr (by rw[h4];exact e)
  ·rw[bZ e]at hg;exact .inl ⟨hg,λc e'=>by rw[aA e];exact e'⟩
 ·have q:=(hf.fk j c hj (by show sig (s.pc j)=_;rw[(h5 j c hc).2];rfl)).2.2.1;have hne:(s.fr c).par≠f:=λe=>(h5 j c hc).1 (tj hf hj hi q (by show s.hold i=some (s.fr c).par;rw[e];exact hh));rw[aA hne];exact hx
 ·have hfn:(s'.fr g).fn=(s.fr g).fn:=by have:=nu (·.1) (yI (s:=s) hy g);rw[h1];exact this
  rw[hfn]at EE⊢;by_cases e:g=f
  ·subst e;rw[h1,aF,aF,hn];have:=φ.rn _ _ c _ b1 (b3 hl') EE (h.a g hlt hl' c EE) ((s.fr g).J+1) (by unfold DZ;rw[hc];exact List.mem_singleton.2 rfl)
   rwa [hc]at this
  ·rw[h1,aA e,aA e];rw[h3,aA e]at QF;exact h.a g (h2▸ hg) QF c EE
theorem SL.spawn{s':St}{f:Nat}{y c0:Fr}{sl g0 c:Nat}(h:SL C φ s σ)(hr:FR C s)(hf:(view s).FI C.N C.F)(hi:i<C.N)(hh:s.hold i=some f)(hp:s.pc i= .run)
 (hc:C.code (s.fr f).fn (s.fr f).J= .spawn sl g0 c) (RB:g0<C.QA) (h1:s'.fr=bJ (bJ s.fr f y) s.nf c0) (h2:s'.nf=s.nf+1) (h3:s'.loc=bJ s.loc s.nf (.bW i)) (h4:s'.bt=s.bt) (h5:s'.pc=bJ s.pc i (.fork s.nf))
 (hy:Q3 y=Q3 (s.fr f)) (hn:y.J=(s.fr f).J+1) (hc0:c0.fn=g0/\c0.slot=sl/\c0.par=f/\c0.J=0):SL C φ s' (bJ (bJ σ f (bJ (σ f) sl 2)) s.nf (λ_=>1)):=by
 obtain⟨hl',hlt⟩:=nA hf hi hh;obtain⟨b1,b2,b3⟩:=hr f hlt;obtain⟨s1,s2⟩:=φ.sp _ _ _ _ _ b1 (b3 hl') hc;have hfr:∀g,g<s.nf->Q3 (s'.fr g)=Q3 (s.fr g):=λg hg=>by rw[h1,aA I];exact yI hy g
 have VS:s'.fr s.nf=c0:=by rw[h1,aF]
 have fn_:∀g,g<s.nf->(s'.fr g).fn=(s.fr g).fn:=λg hg=>nu (·.1) (hfr g hg);have bO:∀g,g<s.nf->(s'.fr g).slot=(s.fr g).slot:=λg hg=>nu (·.2.1) (hfr g hg);have pr_:∀g,g<s.nf->(s'.fr g).par=(s.fr g).par:=λg hg=>nu (·.2.2) (hfr g hg);have kl:∀p,∀k∈s.bt p,k<s.nf/\p<s.nf:=λp k hk=>by
  have a:=hf.kd p k hk;have b:k<s.nf:=by
   rcases AV k s.nf with h | h
   ·exact h
   ·exact absurd (hf.free k h) a.2.2.2
  exact⟨b,a.2.1▸ hf.pr k b⟩
 have hσ:∀g,g<s.nf->∀c,σ g c=2->bJ (bJ σ f (bJ (σ f) sl 2)) s.nf (λ_=>1) g c=2:=λg hg c e=>by
  rw[aA I,cA];split
  ·next e' =>
   subst e';rw[cA];split
   ·rfl
   ·exact e
  ·exact e
 have aeW:σ f sl≠2:=λe=>s2 (e▸ h.a f hlt hl' sl s1);have hlf:s.loc f≠.waiting:=by rcases hf.hold i f hi hh with a | a<;>(have:=a.2;change s.loc f=_ at this;rw[this];simp)
 have ff:∀j c,s'.pc j= .fork c->(j=i/\c=s.nf)∨(j≠i/\s.pc j= .fork c):=λj c hj=>by
  rw[h5,cA]at hj;split at hj
  ·next e=>cases hj;exact .inl ⟨e,rfl⟩
  ·next e=>exact .inr ⟨e,hj⟩
 have fkl:∀j c,j<C.N->s.pc j= .fork c->c<s.nf:=λj c hj hc=>by
  have a:=(hf.fk j c hj (by show sig (s.pc j)=_;rw[hc];rfl)).2.1;rcases AV c s.nf with h | h
  ·exact h
  ·have:=hf.free c h;rw[this]at a;cases a
 refine⟨?_,?_,?_,?_,?_⟩
 ·intro g hg QF c EE;by_cases e:g=s.nf
  ·subst e;rw[VS]at EE⊢;rw[aF,hc0.1,hc0.2.2.2];exact φ.r0 _ RB c (hc0.1▸ EE)
  ·have JY:g<s.nf:=by omega
   rw[fn_ g JY]at EE⊢;rw[h3,aA e]at QF;rw[aA e];by_cases e2:g=f
   ·subst e2;rw[h1,aA e,aF,aF,hn];have:=φ.rn _ _ c _ b1 (b3 hl') EE (h.a g hlt hl' c EE) ((s.fr g).J+1) (by unfold DZ;rw[hc];exact List.mem_singleton.2 rfl);rw[hc]at this;simp only[PE]at this;rw[cA];simp only[eq_comm (a:=c)];exact this
   ·rw[h1,aA e,aA e2,aA e2];exact h.a g JY QF c EE
 ·intro g hg hn x hx;rw[h4]at hx;obtain⟨kx,kg⟩:=kl g x hx;rw[fn_ g kg,bO x kx];rw[h3,aA I]at hn;have:=h.b g kg hn x hx;exact⟨this.1,hσ g kg _ this.2⟩
 ·intro j c hj EE;rcases ff j c EE with ⟨rfl,rfl⟩ | ⟨e,e'⟩
  ·rw[VS,hc0.2.1,hc0.2.2.1,fn_ f hlt];refine⟨s1,?_⟩;rw[aA I,aF,aF]
  ·have c':=fkl j c hj e';have c'':=hf.pr c c';rw[pr_ c c',bO c c',fn_ (s.fr c).par c''];have:=h.k j c hj e';exact⟨this.1,hσ _ c'' _ this.2⟩
 ·intro g x hx y' hy';rw[h4]at hx hy';rw[bO x (kl g x hx).1,bO y' (kl g y' hy').1];exact h.u g x hx y' hy'
 ·intro j c hj EE x hx;rw[h4]at hx;rcases ff j c EE with ⟨rfl,rfl⟩ | ⟨e,e'⟩
  ·rw[VS,hc0.2.2.1]at hx;rw[VS,hc0.2.1,bO x (kl f x hx).1];intro e;have:=(h.b f hlt hlf x hx).2;rw[e]at this;exact aeW this
  ·have c':=fkl j c hj e';rw[pr_ c c']at hx;rw[bO c c',bO x (kl _ x hx).1];exact h.v j c hj e' x hx
theorem SL.E1(h:SL C φ s σ)(hr:FR C s)(hf:(view s).FI C.N C.F)(hi:i<C.N){f a:Nat}(hh:s.hold i=some f)(hc:C.code (s.fr f).fn (s.fr f).J= .ret a):s.bt f=[]:=by
 obtain⟨hl',hlt⟩:=nA hf hi hh;obtain⟨b1,b2,b3⟩:=hr f hlt;have hlf:s.loc f≠.waiting:=by rcases hf.hold i f hi hh with a | a<;>(have:=a.2;change s.loc f=_ at this;rw[this];simp)
 match hk:s.bt f with
 | []=>rfl
 | k::l =>
  obtain⟨x1,x2⟩:=h.b f hlt hlf k (by rw[hk];simp);exact absurd (x2▸ h.a f hlt hl' _ x1) (φ.rt _ _ _ b1 (b3 hl') hc _ x1)
end
theorem LH{α β:Type}[DecidableEq α](f:α->β)(a:α)(x y:β):bJ (bJ f a x) a y=bJ f a y:=by
 funext z;simp only[cA];split<;>rfl
section
variable {C:jt}{φ:NQ C}{s:St}{i:Nat}{σ:Nat->Nat->Nat}
theorem Sh(hf:(view s).FI C.N C.F)(hi:i<C.N){f:Nat}(hh:s.hold i=some f)(hp:s.pc i= .run)(hn:¬0<s.mem (.join f)-1):s.bt f=[]:=by
 have a:=hf.hold i f hi hh;have hg:(view s).g i= .run:=by show sig (s.pc i)=_;rw[hp];rfl
 rcases a with a | a
 ·rw[hg]at a;cases a.1
 ·have z:=hf.jn f (nA hf hi hh).2;rw[a.2]at z;have z:s.mem (.join f)=1+((s.bt f).length:Int):=z;exact G3 I
theorem SL.instr(hC:C.OK)(h:SL C φ s σ)(hr:FR C s)(hf:(view s).FI C.N C.F)(hi:i<C.N)(hp:s.pc i= .run) :∃σ',SL C φ (instr C s i).s σ':=by
 obtain⟨f,hh⟩:=n9 hf hi (by rw[hp];rfl);obtain⟨hl,hn⟩:=nA hf hi hh;obtain⟨a1,a2,a3⟩:=hr f hn;have a3:=a3 hl;have ok:=hC.ins _ a1 _ a3;have hw:s.loc f≠.waiting:=by rcases hf.hold i f hi hh with a | a<;>(have:=a.2;change s.loc f=_ at this;rw[this];simp)
 have nf:∀j c,bJ s.pc i .run j= .fork c->s.pc j= .fork c:=λj c e=>by
  rw[cA]at e;split at e
  ·cases e
  ·exact e
 unfold Kf at ok;unfold Am.instr;simp only[hh,nQ];split<;>rename_i hc<;>rw[hc]at ok<;>simp only at ok
 ·exact⟨σ,h.data hr hf hi hh rfl rfl rfl rfl (λ_ _ e=>e) rfl (by unfold DZ;rw[hc];exact List.mem_singleton.2 rfl) (λc st=>by rw[hc];rfl)⟩
 ·exact⟨σ,h.data hr hf hi hh rfl rfl rfl rfl (λ_ _ e=>e) rfl (by unfold DZ;rw[hc];exact List.mem_singleton.2 rfl) (λc st=>by rw[hc];rfl)⟩
 ·exact⟨σ,h.data hr hf hi hh rfl rfl rfl rfl (λ_ _ e=>e) rfl (by unfold DZ;rw[hc];exact List.mem_singleton.2 rfl) (λc st=>by rw[hc];rfl)⟩
 ·exact⟨σ,h.data hr hf hi hh rfl rfl rfl rfl (λ_ _ e=>e) rfl (by unfold DZ;rw[hc];exact List.mem_singleton.2 rfl) (λc st=>by rw[hc];rfl)⟩
 ·refine⟨σ,h.data hr hf hi hh rfl rfl rfl rfl (λ_ _ e=>e) (by split<;>rfl) ?_ (λc st=>by rw[hc];rfl)⟩;rename_i b_;have e:DZ C (s.fr f).fn (s.fr f).J=[(s.fr f).J+1,b_]:=by unfold DZ;rw[hc]
  rw[e];split
  ·exact L4 _ (List.mem_singleton.2 rfl)
  ·exact List.mem_cons.2 (.inl rfl)
 ·exact⟨σ,h.data hr hf hi hh rfl rfl rfl rfl (λ_ _ e=>e) rfl (by unfold DZ;rw[hc];exact List.mem_singleton.2 rfl) (λc st=>by rw[hc];rfl)⟩
 ·exact⟨σ,h.data hr hf hi hh rfl rfl rfl rfl (λ_ _ e=>e) rfl (by unfold DZ;rw[hc];exact List.mem_singleton.2 rfl) (λc st=>by rw[hc];rfl)⟩
 ·rename_i sl g c;split
  ·refine⟨bJ σ f (bJ (σ f) sl 2),h.tail (λk=>yI (s:=s) (f:=f) (y:={s.fr f with J:=(s.fr f).J+1}) rfl k) rfl (λk hk=>.inl ⟨hk,λc' e => ?_⟩) (λ_ _ e=>e) (λj c' hj e => ?_) (λk hk hlk c' EE => ?_)⟩
   ·rw[cA];split
    ·next e' =>
      subst e';rw[cA];split
      ·rfl
      ·exact e
    ·exact e
   ·have e:bJ s.pc i .full j= .fork c':=e;rw[cA]at e;split at e
    ·cases e
    ·refine⟨e,λx hx => ?_⟩;rw[cA];split
     ·next e' =>
       rw[cA];split
       ·rfl
       ·exact e'▸ hx
     ·exact hx
   ·have hfn:(bJ s.fr f {s.fr f with J:=(s.fr f).J+1} k).fn=(s.fr k).fn:=nu (·.1) (yI (s:=s) (f:=f) (y:={s.fr f with J:=(s.fr f).J+1}) rfl k);show φ.R (bJ s.fr f {s.fr f with J:=(s.fr f).J+1} k).fn (bJ s.fr f {s.fr f with J:=(s.fr f).J+1} k).J c' _;have NZ:c'<φ.slots (bJ s.fr f {s.fr f with J:=(s.fr f).J+1} k).fn:=EE;clear EE;rw[hfn]at NZ⊢;by_cases e:k=f
    ·subst e;rw[aF,aF];have:=φ.rn _ _ c' _ a1 a3 NZ (h.a k hn hl c' NZ) ((s.fr k).J+1) (by unfold DZ;rw[hc];exact List.mem_singleton.2 rfl);rw[hc]at this;simp only[PE]at this;rw[cA];simp only[eq_comm (a:=c')];exact this
    ·rw[aA e,aA e];exact h.a k hk hlk c' NZ
  ·refine⟨_,h.spawn (y:={s.fr f with J:=(s.fr f).J+1,bt:=(s.fr f).bt+1}) (c0:=kD C (s.fr f) f sl g c) hr hf hi hh hp hc ok.2.1 ?_ rfl rfl rfl rfl rfl rfl ⟨rfl,rfl,rfl,rfl⟩⟩;show bJ (bJ (bJ s.fr f _) f _) s.nf _=_;rw[LH]
 ·split
  ·exact⟨_,h.sync (l:=.waiting) hr hf hi hh hp hc rfl rfl rfl (.inl rfl) rfl (λj c e=>by
    have e:bJ s.pc i .Bw j= .fork c:=e;rw[cA]at e;split at e
    ·cases e
    ·next hne=>exact⟨hne,e⟩) rfl rfl⟩
  ·rename_i hk;exact⟨_,h.sync (l:=.uz i) hr hf hi hh hp hc rfl rfl rfl (.inr (Sh hf hi hh hp hk)) rfl (λj c e=>by
    have e:bJ s.pc i .nP j= .fork c:=e;rw[cA]at e;split at e
    ·cases e
    ·next hne=>exact⟨hne,e⟩) rfl rfl⟩
 ·rename_i a;have hk:=h.E1 hr hf hi hh hc;have fin:∀(p:Pc),(∀c,p≠.fork c)->∀(s':St),s'.fr=bJ s.fr f {s.fr f with J:=(s.fr f).J+1}->s'.nf=s.nf->s'.loc=bJ s.loc f (.fin i)->s'.bt=s.bt->s'.pc=bJ s.pc i p->SL C φ s' σ:=by
   intro p hp s' e1 e2 e3 e4 e5;refine h.tail (λk=>by rw[e1];exact yI (s:=s) (f:=f) (y:={s.fr f with J:=(s.fr f).J+1}) rfl k) e2 (λk hk' => ?_) (λk x hx=>e4▸ hx) (λj c hj e => ?_) (λk hk' hlk c' EE => ?_)
   ·by_cases e:k=f
    ·subst e;exact .inr (by rw[e4];exact hk)
    ·rw[e3,aA e]at hk';exact .inl ⟨hk',λ_ e=>e⟩
   ·rw[e5,cA]at e;split at e
    ·exact absurd e (hp c)
    ·exact⟨e,λ_ e=>e⟩
   ·have ek:k≠f:=λe=>by rw[e,e3,aF]at hlk;cases hlk
    rw[e1,aA ek]at EE⊢;rw[e3,aA ek]at hlk;exact h.a k (e2▸ hk') hlk c' EE
  split
  ·next e0=>subst e0;exact⟨σ,fin .done (λc e=>by cases e) _ rfl rfl rfl rfl rfl⟩
  ·exact⟨σ,fin (.out (s.fr f).par f) (λc e=>by cases e) _ rfl rfl rfl rfl rfl⟩
theorem SL.aC(hC:C.OK)(h:SL C φ s σ)(hr:FR C s)(hf:(view s).FI C.N C.F)(hd:DT C s)(hi:i<C.N)(d:Int) :∃σ',SL C φ (aC C s i d).s σ':=by
 cases hp:s.pc i with
 | run=>unfold Am.aC;rw[hp];exact SL.instr hC h hr hf hi hp
 | fork c =>
  obtain⟨f,hh⟩:=n9 hf hi (by rw[hp];rfl);obtain⟨hl,hn⟩:=nA hf hi hh;have hg:(view s).g i= .fork c:=by show sig (s.pc i)=_;rw[hp];rfl
  have fk:=hf.fk i c hi hg;have ep:(s.fr c).par=f:=Option.some.inj (fk.2.2.1.symm.trans hh);unfold Am.aC;rw[hp];simp only[hh,nQ];refine⟨σ,?_⟩;have kf:∀g k,k∈bJ s.bt f (c::s.bt f) g->(g=f/\k=c)∨k∈s.bt g:=λg k e=>by
   rw[cA]at e;split at e
   ·next e' =>
     rcases List.mem_cons.1 e with e | e
     ·exact .inl ⟨e',e⟩
     ·exact .inr (e'▸ e)
   ·exact .inr e
  have pf:∀j x,bJ s.pc i (.zP c) j= .fork x->j≠i/\s.pc j= .fork x:=λj x e=>by
   rw[cA]at e;split at e
   ·cases e
   ·next e'=>exact⟨e',e⟩
  have h2:=h.k i c hi hp;have h3:=h.v i c hi hp;rw[ep]at h2 h3;refine⟨h.a,?_,?_,?_,?_⟩
  ·intro g hg hw k hk;rcases kf g k hk with ⟨rfl,rfl⟩ | e
   ·exact h2
   ·exact h.b g hg hw k e
  ·intro j x hj e;exact h.k j x hj (pf j x e).2
  ·intro g k hk k' hk' e;rcases kf g k hk with ⟨e1,rfl⟩ | e1
   ·rcases kf g k' hk' with ⟨_,rfl⟩ | e2
    ·rfl
    ·subst e1;exact absurd e.symm (h3 k' e2)
   ·rcases kf g k' hk' with ⟨e3,rfl⟩ | e2
    ·subst e3;exact absurd e (h3 k e1)
    ·exact h.u g k e1 k' e2 e
  ·intro j x hj e k hk;obtain⟨n1,n2⟩:=pf j x e;rcases kf _ k hk with ⟨e1,rfl⟩ | e1
   ·exfalso
    have q:=(hf.fk j x hj (by show sig (s.pc j)=_;rw[n2];rfl)).2.2.1;have q:s.hold j=some (s.fr x).par:=q;have e1:(s.fr x).par=f:=e1;rw[e1]at q;exact n1 (tj hf hj hi q hh)
   ·exact h.v j x hj n2 k e1
 | start x =>
  unfold Am.aC;rw[hp];simp only;exact⟨σ,h.Yu rfl rfl rfl rfl rfl (λc e=>by cases e)⟩
 | nP =>
  obtain⟨f,hh⟩:=n9 hf hi (by rw[hp];rfl);unfold Am.aC;rw[hp];simp only[hh,nQ];have hg:(view s).g i= .one:=by show sig (s.pc i)=_;rw[hp];rfl
  refine⟨σ,h.put rfl rfl rfl rfl rfl (λc e=>by cases e) (λ_=>(nA hf hi hh).1) (.inl ?_)⟩;rcases hf.hold i f hi hh with a | a<;>(have:=a.2;change s.loc f=_ at this;rw[this];simp)
 | out p c =>
  have hg:(view s).g i= .out p c:=by show sig (s.pc i)=_;rw[hp];rfl
  unfold Am.aC;rw[hp];simp only;have hc:=(hf.out i p c hi hg).2.1;have hc:s.loc c= .fin i:=hc;have pf:∀(q:Pc),(∀x,q≠.fork x)->∀j x,bJ s.pc i q j= .fork x->s.pc j= .fork x:=λq hq j x e=>by
   rw[cA]at e;split at e
   ·exact absurd e (hq x)
   ·exact e
  have ke:∀g,∀k∈bJ s.bt p ((s.bt p).erase c) g,k∈s.bt g:=λg k hk=>by
   rw[cA]at hk;split at hk
   ·next e=>subst e;exact List.mem_of_mem_erase hk
   ·exact hk
  split
  ·rename_i hn;obtain⟨hw,hk,hne⟩:=hf.ie hi hg hn;have hw:s.loc p= .waiting:=hw;have hk:s.bt p=[c]:=hk;refine⟨σ,h.of rfl rfl (λg hg => ?_) (λg hg => ?_) ke (pf _ (λx e=>by cases e))⟩
   ·have hg:live (bJ (bJ s.loc c .gone) p (.sQ i) g)=true:=hg;rw[cA]at hg;split at hg
    ·next e=>subst e;rw[hw];rfl
    ·rw[cA]at hg;split at hg
     ·cases hg
     ·exact hg
   ·by_cases e:g=p
    ·subst e;right;show bJ s.bt g _ g=[];rw[aF,hk];simp
    ·have hg:bJ (bJ s.loc c .gone) p (.sQ i) g≠.waiting:=hg;rw[aA e,cA]at hg;split at hg
     ·next e=>left;rw[e,hc];simp
     ·exact .inl hg
  ·refine⟨σ,h.of rfl rfl (λg hg => ?_) (λg hg => ?_) ke (pf _ (λx e=>by cases e))⟩
   ·have hg:live (bJ s.loc c .gone g)=true:=hg;rw[cA]at hg;split at hg
    ·cases hg
    ·exact hg
   ·have hg:bJ s.loc c .gone g≠.waiting:=hg;rw[cA]at hg;split at hg
    ·next e=>left;rw[e,hc];simp
    ·exact .inl hg
 | take p c =>
  have hg:(view s).g i= .take p c:=by show sig (s.pc i)=_;rw[hp];rfl
  unfold Am.aC;rw[hp];simp only;have e:s.loc p= .sQ i:=hf.tk i p c hi hg;exact⟨σ,h.put rfl rfl rfl rfl rfl (λc e=>by cases e) (λ_=>by rw[e];rfl) (.inl (by rw[e];simp))⟩
 | n7 c b =>
  have hg:(view s).g i= .push c:=by show sig (s.pc i)=_;rw[hp];rfl
  have e:s.loc c= .bW i:=(hf.ps i c hi hg).2.1;unfold Am.aC;rw[hp];simp only;exact⟨σ,h.put rfl rfl rfl rfl rfl (λc e=>by cases e) (λ_=>by rw[e];rfl) (.inl (by rw[e];simp))⟩
 | AB b =>
  have P:=(hd.1 i hi).ph;unfold pT at P;rw[hp]at P;simp only at P;unfold Am.aC;rw[hp];simp only;split
  ·rename_i hlt;have hne:s.q i≠[]:=by
    intro e;simp only[St.L,St.T,e,xL]at P;omega
   have hm:(s.q i).getLastD 0∈s.q i:=by
    rw[JU,List.getLast?_eq_some_getLast hne];exact List.getLast_mem hne
   have e:s.loc ((s.q i).getLastD 0)= .Lc i:=(hf.q i _ hi hm).2;exact⟨σ,h.put rfl rfl rfl rfl rfl (λc e=>by cases e) (λ_=>by rw[e];rfl) (.inl (by rw[e];simp))⟩
  ·split<;>exact⟨σ,h.Yu rfl rfl rfl rfl rfl (λc e=>by cases e)⟩
 | pS b t cc =>
  have P:=(hd.1 i hi).ph;unfold pT at P;rw[hp]at P;simp only at P;unfold Am.aC;rw[hp];simp only;split
  ·rename_i hlt;obtain⟨x,hx,he⟩:=(P.1.2.2.2.1 hlt).2.2;rw[<-P.2]at he;rw[he];have e:s.loc x= .pop i:=(hf.pop i x hi hx).2;refine⟨σ,h.put (f:=x) (l:=.held i) (p:=.start (-1)) rfl rfl (by simp only[got,St.put,St.nH,St.to,St.holds,cL]) rfl rfl (λc e=>by cases e) (λ_=>by rw[e];rfl) (.inl (by rw[e];simp))⟩
  ·exact⟨σ,h.Yu rfl rfl rfl rfl rfl (λc e=>by cases e)⟩
 | sP b t x =>
  have P:=(hd.1 i hi).ph;unfold pT at P;rw[hp]at P;simp only at P;unfold Am.aC;rw[hp];simp only;split
  ·rename_i ht;have hq:=(P.2.2.2.2.1 ht).1;have e:s.loc x.toNat= .Lc i:=(hf.q i _ hi (by show x.toNat∈s.q i;rw[hq];simp)).2;exact⟨σ,h.put rfl rfl rfl rfl rfl (λc e=>by cases e) (λ_=>by rw[e];rfl) (.inl (by rw[e];simp))⟩
  ·exact⟨σ,h.Yu rfl rfl rfl rfl rfl (λc e=>by cases e)⟩
 | qa t x Al =>
  have P:=(hd.1 i hi).ph;unfold pT at P;rw[hp]at P;simp only at P;unfold Am.aC;rw[hp];simp only;split
  ·rename_i hw;have e:s.loc x.toNat= .pop i:=(hf.pop i _ hi (P.2.2.2 hw).1).2;exact⟨σ,h.put (f:=x.toNat) (l:=.held i) (p:=.start (-1)) rfl rfl rfl rfl rfl (λc e=>by cases e) (λ_=>by rw[e];rfl) (.inl (by rw[e];simp))⟩
  ·refine⟨σ,h.Yu (p:=if C.N=1 then .flag else .jQ) rfl rfl rfl rfl rfl (λc e => ?_)⟩;split at e<;>cases e
 | ny v t x =>
  have HT:=hd.2 i hi;unfold Th at HT;rw[hp]at HT;simp only at HT;unfold Am.aC;rw[hp];simp only;split
  ·rename_i ht;obtain⟨y,l,hq,hx⟩:=HT.2.2.2 ht.symm;have e:s.loc x.toNat= .Lc v:=(hf.q v _ HT.1 (by show x.toNat∈s.q v;rw[hq,hx];simp)).2;exact⟨σ,h.put (f:=x.toNat) (l:=.held i) (p:=.start v) rfl rfl rfl rfl rfl (λc e=>by cases e) (λ_=>by rw[e];rfl) (.inl (by rw[e];simp))⟩
  ·exact⟨σ,h.Yu rfl rfl rfl rfl rfl (λc e=>by cases e)⟩
 | halted=>unfold Am.aC;rw[hp];exact⟨σ,h⟩
 | full=>unfold Am.aC;rw[hp];exact⟨σ,h⟩
 | parked =>
  unfold Am.aC;rw[hp];simp only;split
  ·exact⟨σ,h⟩
  ·refine⟨σ,h.Yu (p:=if C.N=1 then .flag else .jQ) rfl rfl rfl rfl rfl (λc e => ?_)⟩;split at e<;>cases e
 | _ =>
  unfold Am.aC;rw[hp];simp only[lU,looking,yp,yZ]
  repeat' split
  all_goals exact⟨σ,h.Yu rfl rfl rfl rfl rfl (λc e=>by first | (cases e;done) | (split at e<;>cases e;done) | (split at e<;>(try split at e)<;>cases e;done))⟩
end
structure TS where
 J:Nat
 bw:Nat->Int
 sl:Nat->Int
 bt:Nat
def Bh(C:jt)(g:Nat)(pd:Int)(x:TS):Option TS:=
 match C.code g x.J with
 | .const a k=>some {x with J:=x.J+1,bw:=bJ x.bw a k}
 | .move a b=>some {x with J:=x.J+1,bw:=bJ x.bw a (x.bw b)}
 | .arith op a b c=>some {x with J:=x.J+1,bw:=bJ x.bw a (C.ap op (x.bw b) (x.bw c))}
 | .jump a=>some {x with J:=a}
 | .branch a b=>some {x with J:=if x.bw a≠0 then b else x.J+1}
 | .k8 a=>some {x with J:=x.J+1,bw:=bJ x.bw a pd}
 | .load a s=>some {x with J:=x.J+1,bw:=bJ x.bw a (x.sl s)}
 | .sync=>some {x with J:=x.J+1}
 | .spawn _ _ _=>none
 | .ret _=>none
def XB(a:Nat->Int):TS:=⟨0,a,λ_=>0,0⟩
def arg(C:jt)(x:Nat->Int)(g c:Nat):Nat->Int:=λr=>if r<C.params g then x (c+r)else 0
inductive Pre(C:jt):Nat->Int->Nat->TS->TS->Nat->Nat->Prop
 | nil (g:Nat) (pd:Int) (d:Nat) (x:TS):Pre C g pd d x x 0 0
 | Bh {g:Nat} {pd:Int} {d:Nat} {x y z:TS} {n t:Nat} (h:Pre C g pd d x y n t) (e:Bh C g pd y=some z):Pre C g pd d x z (n+1) t
 | spawn {g:Nat} {pd:Int} {d:Nat} {x y z:TS} {n t s f c n1 t1 a:Nat} (h:Pre C g pd d x y n t) (e:C.code g y.J= .spawn s f c) (hd:d<4096)
  (h1:Pre C f (C.pd pd y.bt) (d+1) (XB (arg C y.bw f c)) z n1 t1) (e1:C.code f z.J= .ret a) :
  Pre C g pd d x {y with J:=y.J+1,sl:=bJ y.sl s (z.bw a),bt:=y.bt+1} (n+1+(n1+1)) (t+(t1+1))
structure LY where
 fn:Nat
 k8:Int
 dp:Nat
 a0:Nat->Int
def Dn(C:jt)(D:LY)(r:Int×Nat×Nat):Prop:=∃z a n t,Pre C D.fn D.k8 D.dp (XB D.a0) z n t/\C.code D.fn z.J= .ret a/\r=(z.bw a,n+1,t+1)
structure SG where
 pn:Nat->Nat->Option Nat
 ds:Nat->LY
 wk:Nat->Nat
 tk:Nat->Nat
def PF(p:Nat->Option Nat)(m:Nat->Int)(vs:Nat->Int×Nat×Nat)(x:Nat):Int:=match p x with
 | some c=>(vs c).1
 | none=>m x
def wn(p:Nat->Option Nat)(vs:Nat->Int×Nat×Nat)(x:Nat):Nat:=match p x with
 | some c=>(vs c).2.1
 | none=>0
def tn(p:Nat->Option Nat)(vs:Nat->Int×Nat×Nat)(x:Nat):Nat:=match p x with
 | some c=>(vs c).2.2
 | none=>0
def IW(s:St)(f:Nat):Nat->Int:=λx=>s.mem (.slot f x)
def ze(C:jt)(s:St)(f:Nat):Prop:=∀i,i<C.N->s.pc i= .full->s.hold i≠some f
def AF(C:jt)(s:St)(γ:SG)(f:Nat):Prop:=∀vs:Nat->Int×Nat×Nat,(∀x c,γ.pn f x=some c->Dn C (γ.ds c) (vs c))->
 Pre C (γ.ds f).fn (γ.ds f).k8 (γ.ds f).dp (XB (γ.ds f).a0) ⟨(s.fr f).J,(s.fr f).bw,PF (γ.pn f) (IW s f) vs,(s.fr f).bt⟩ (γ.wk f+fU (wn (γ.pn f) vs) 8) (γ.tk f+fU (tn (γ.pn f) vs) 8)
structure SI(C:jt)(D0:LY)(s:St)(γ:SG)(g:Nat):Prop where
 A:∀f,f<s.nf->live (s.loc f)=true->ze C s f->AF C s γ f
 D:∀f,f<s.nf->(γ.ds f).fn=(s.fr f).fn/\(γ.ds f).k8=(s.fr f).k8/\(γ.ds f).dp<=f+1
 d0:γ.ds 0=D0
 pn:∀f x c,γ.pn f x=some c->c≠0/\c<s.nf/\(s.fr c).par=f/\(s.fr c).slot=x/\live (s.loc c)=true
 np:∀c,c≠0->c<s.nf->live (s.loc c)=true->γ.pn (s.fr c).par (s.fr c).slot=some c
 z:∀f,s.nf<=f->(∀x,s.mem (.slot f x)=0)/\γ.wk f=0/\γ.tk f=0/\∀x,γ.pn f x=none
 w:fU γ.wk s.nf<=g
theorem sK{f:Nat->Nat}:∀{n:Nat},(∀j,j<n->f j=0)->fU f n=0
 | 0,_=>rfl
 | n+1,h=>by show fU f n+f n=0;rw[sK (λj hj=>h j I),h n I]
theorem GY{f:Nat->Nat}{i:Nat}:∀{n:Nat},i<n->f i<=fU f n
 | 0,h=>by omega
 | n+1,h=>by
  show f i<=fU f n+f n;by_cases e:i=n
  ·subst e;omega
  ·have:=GY (f:=f) (i:=i) (n:=n) I;omega
section
variable {C:jt}{φ:NQ C}{s:St}{i:Nat}{σ:Nat->Nat->Nat}{D0:LY}{γ:SG}{g:Nat}
theorem SI.of{s':St}(h:SI C D0 s γ g)(h1:s'.fr=s.fr)(h2:s'.nf=s.nf)(hm:∀f x,s'.mem (.slot f x)=s.mem (.slot f x))(hl:∀f,live (s'.loc f)=live (s.loc f))
 (hp:∀j,s.pc j= .full->s'.pc j= .full/\s'.hold j=s.hold j):SI C D0 s' γ (g+1):=by
 refine⟨λf hf hlf hn => ?_,by rw[h1,h2];exact h.D,h.d0,λf x c e=>by rw[h1,h2,hl];exact h.pn f x c e,λc h0 hc hlc=>by rw[h1];exact h.np c h0 (h2▸ hc) (by rw[<-hl];exact hlc),λf hf => ?_,by rw[h2];have:=h.w;omega⟩
 ·have:=h.A f (h2▸ hf) (by rw[<-hl];exact hlf) (λj hj e=>by rw[<-(hp j e).2];exact hn j hj (hp j e).1);unfold AF at this⊢;rw[h1,show IW s' f=IW s f from funext (hm f)];exact this
 ·obtain⟨a,b⟩:=h.z f (h2▸ hf);exact⟨λx=>by rw[hm];exact a x,b⟩
theorem Ve(h:SI C D0 s γ g)(sl:SL C φ s σ)(hf:(view s).FI C.N C.F){f x c:Nat}(hw:s.loc f≠.waiting)(e:γ.pn f x=some c):σ f x=2:=by
 obtain⟨c0,cn,cp,cs,cl⟩:=h.pn f x c e;have hg:s.loc c≠.gone:=λe=>by rw[e]at cl;cases cl
 have pf:f<s.nf:=by rw[<-cp];exact hf.pr c cn
 rcases hf.un c c0 cn hg with u | u
 ·have:=(sl.b f pf hw c (by rw[<-cp];exact u)).2;rwa [cs]at this
 ·rw[Is]at u;have e':(view s).loc c=s.loc c:=rfl;rw[e']at u;split at u
  ·next j hj =>
   have Z0:s.pc j= .fork c:=by
    have:=u.2;change sig (s.pc j)= .fork c at this;cases hpj:s.pc j<;>rw[hpj]at this<;>simp only[sig]at this<;>first | (cases this;rfl) | cases this
   have:=(sl.k j c u.1 Z0).2;rwa [cp,cs]at this
  ·exact u.elim
theorem xK{s':St}(hp:∀j,s.pc j= .full->s'.pc j= .full/\s'.hold j=s.hold j){f:Nat}(h:ze C s' f):ze C s f:=
 λj hj e=>by rw[<-(hp j e).2];exact h j hj (hp j e).1
theorem SI.data{s':St}{f:Nat}{y:Fr}(h:SI C D0 s γ g)(hn:f<s.nf)(hl:live (s.loc f)=true)(h1:s'.fr=bJ s.fr f y)(h2:s'.nf=s.nf)(hm:∀f x,s'.mem (.slot f x)=s.mem (.slot f x))(hlv:∀f,live (s'.loc f)=live (s.loc f))
 (hp:∀j,s.pc j= .full->s'.pc j= .full/\s'.hold j=s.hold j) (hy:y.fn=(s.fr f).fn/\y.k8=(s.fr f).k8/\y.par=(s.fr f).par/\y.slot=(s.fr f).slot)
 (hs:∀vs,Bh C (s.fr f).fn (s.fr f).k8 ⟨(s.fr f).J,(s.fr f).bw,PF (γ.pn f) (IW s f) vs,(s.fr f).bt⟩=some ⟨y.J,y.bw,PF (γ.pn f) (IW s f) vs,y.bt⟩) :
 SI C D0 s' {γ with wk:=bJ γ.wk f (γ.wk f+1)} (g+1):=by
 have hk:∀k,(s'.fr k).fn=(s.fr k).fn/\(s'.fr k).k8=(s.fr k).k8/\(s'.fr k).par=(s.fr k).par/\(s'.fr k).slot=(s.fr k).slot:=λk=>by
  rw[h1,cA];split
  ·next e=>subst e;exact hy
  ·exact⟨rfl,rfl,rfl,rfl⟩
 refine⟨λk hk' hlk hnk => ?_,λk hk' => ?_,h.d0,λk x c e => ?_,λc h0 hc hlc => ?_,λk hk' => ?_,?_⟩
 ·have hA:=h.A k (h2▸ hk') (by rw[<-hlv];exact hlk) (xK hp hnk);intro vs hv;have hA:=hA vs hv;have YE:IW s' k=IW s k:=funext (hm k);show Pre C (γ.ds k).fn _ _ _ _ (bJ γ.wk f (γ.wk f+1) k+_) _;rw[YE,h1];by_cases e:k=f
  ·subst e;rw[aF,aF];have hd:=h.D k hn;have:=Pre.Bh hA (by rw[hd.1,hd.2.1];exact hs vs)
   rwa [Nat.add_right_comm]at this
  ·rw[aA e,aA e];exact hA
 ·rw[(hk k).1,(hk k).2.1];exact h.D k (h2▸ hk')
 ·rw[(hk c).2.2.1,(hk c).2.2.2,h2,hlv];exact h.pn k x c e
 ·rw[(hk c).2.2.1,(hk c).2.2.2];exact h.np c h0 (h2▸ hc) (by rw[<-hlv];exact hlc)
 ·obtain⟨a,b,c,d⟩:=h.z k (h2▸ hk');exact⟨λx=>by rw[hm];exact a x,by show bJ γ.wk f _ k=0;rw[aA (by have:s.nf<=k:=h2▸ hk';omega)];exact b,c,d⟩
 ·rw[h2,nW (f:=γ.wk) (i:=f) (k:=1) hn (λj hj=>aA hj) (aF _ _ _)];have:=h.w;omega
theorem pn8(h:SI C D0 s γ g)(hr:FR C s){f x c:Nat}(e:γ.pn f x=some c):x<8:=by
 obtain⟨_,cn,_,cs,_⟩:=h.pn f x c e;rw[<-cs];exact(hr c cn).2.1
theorem SI.spawn{s':St}{f:Nat}{y c0:Fr}{sl g0 c:Nat}(h:SI C D0 s γ g)(hs:SL C φ s σ)(hr:FR C s)(hf:(view s).FI C.N C.F)(hi:i<C.N)(hh:s.hold i=some f)(hp:s.pc i= .run)
 (hc:C.code (s.fr f).fn (s.fr f).J= .spawn sl g0 c) (h48:s.nf<4096) (h1:s'.fr=bJ (bJ s.fr f y) s.nf c0) (h2:s'.nf=s.nf+1) (h3:s'.loc=bJ s.loc s.nf (.bW i)) (h4:∀f x,s'.mem (.slot f x)=s.mem (.slot f x))
 (h5:∀j,s.pc j= .full->s'.pc j= .full/\s'.hold j=s.hold j) (hy:y={s.fr f with J:=(s.fr f).J+1,bt:=(s.fr f).bt+1}) (hc0:c0=kD C (s.fr f) f sl g0 c) (h8:sl<8) :
 SI C D0 s' {pn:=bJ γ.pn f (bJ (γ.pn f) sl (some s.nf)),ds:=bJ γ.ds s.nf ⟨g0,C.pd (s.fr f).k8 (s.fr f).bt,(γ.ds f).dp+1,arg C (s.fr f).bw g0 c⟩,wk:=bJ γ.wk f (γ.wk f+1),tk:=γ.tk} (g+1):=by
 obtain⟨hl,hlt⟩:=nA hf hi hh;have hne:f≠s.nf:=by omega
 obtain⟨b1,b2,b3⟩:=hr f hlt;have hw:s.loc f≠.waiting:=by rcases hf.hold i f hi hh with a | a<;>(have:=a.2;change s.loc f=_ at this;rw[this];simp)
 have Ps:γ.pn f sl=none:=by
  cases e:γ.pn f sl with
  | none=>rfl
  | some k=>exact absurd ((Ve h hs hf hw e)▸ hs.a f hlt hl sl (φ.sp _ _ _ _ _ b1 (b3 hl) hc).1) (φ.sp _ _ _ _ _ b1 (b3 hl) hc).2
 have hk:∀k,k<s.nf->(s'.fr k).fn=(s.fr k).fn/\(s'.fr k).k8=(s.fr k).k8/\(s'.fr k).par=(s.fr k).par/\(s'.fr k).slot=(s.fr k).slot:=λk hk=>by
  rw[h1,aA I,cA];split
  ·next e=>subst e;subst hy;exact⟨rfl,rfl,rfl,rfl⟩
  ·exact⟨rfl,rfl,rfl,rfl⟩
 have VS:s'.fr s.nf=c0:=by rw[h1,aF]
 have hlk:∀k,k≠s.nf->s'.loc k=s.loc k:=λk hk=>by rw[h3,aA hk]
 have YE:∀k,IW s' k=IW s k:=λk=>funext (h4 k);have hD:=h.D f hlt;have dsn:∀k,k≠s.nf->bJ γ.ds s.nf ⟨g0,C.pd (s.fr f).k8 (s.fr f).bt,(γ.ds f).dp+1,arg C (s.fr f).bw g0 c⟩ k=γ.ds k:=λk hk=>aA hk;have acW:∀k x q,γ.pn k x=some q->q≠s.nf:=λk x q e=>by have:=(h.pn k x q e).2.1;omega
 refine⟨λk hk' Vf hnk => ?_,λk hk' => ?_,?_,λk x q e => ?_,λq q0 hq hlq => ?_,λk hk' => ?_,?_⟩
 ·intro vs hv;simp only at hv⊢;by_cases e:k=s.nf
  ·subst e;obtain⟨z1,z2,z3,z4⟩:=h.z s.nf (ja _);have pz:bJ γ.pn f (bJ (γ.pn f) sl (some s.nf)) s.nf=γ.pn s.nf:=aA (Ne.symm hne);rw[aF,pz,VS,aA (Ne.symm hne),z2,z3,YE,sK (λj _=>by unfold wn;rw[z4]),sK (λj _=>by unfold tn;rw[z4])];have e1:PF (γ.pn s.nf) (IW s s.nf) vs=λ_=>0:=funext λx=>by unfold PF;rw[z4];exact z1 x
   rw[e1,hc0];exact Pre.nil _ _ _ _
  ·have hk2:k<s.nf:=by rw[h2]at hk';omega
   have hA:=h.A k hk2 (by rw[<-hlk k e];exact Vf) (xK h5 hnk);rw[dsn k e,YE];by_cases e2:k=f
   ·subst e2;rw[aF]at hv⊢;have hfr:s'.fr k=y:=by rw[h1,aA e,aF]
    rw[hfr,aF];have hA:=hA vs (λx q hq=>by
     have:=hv x q (by rw[aA (λe=>by subst e;rw[Ps]at hq;cases hq)];exact hq)
     rwa [dsn q (acW _ _ _ hq)]at this)
    have Sk:=hv sl s.nf (by rw[aF]);rw[aF]at Sk;obtain⟨z,a,n1,t1,Y,p2,p3⟩:=Sk;have ed:=h.D k hlt;have:=Pre.spawn hA (by rw[ed.1];exact hc) (by have:=ed.2.2;omega) (z:=z) (n1:=n1) (t1:=t1) (a:=a) (by rw[ed.2.1];exact Y) p2;have f1:PF (bJ (γ.pn k) sl (some s.nf)) (IW s k) vs=bJ (PF (γ.pn k) (IW s k) vs) sl (z.bw a):=funext λx=>by
     unfold PF;by_cases ex:x=sl
     ·subst ex;rw[aF,aF];simp only[p3]
     ·rw[aA ex,aA ex]
    have s1:fU (wn (bJ (γ.pn k) sl (some s.nf)) vs) 8=fU (wn (γ.pn k) vs) 8+(n1+1):=nW h8 (λj hj=>by unfold wn;rw[aA hj]) (by unfold wn;rw[aF,Ps];simp only[p3];omega);have s2:fU (tn (bJ (γ.pn k) sl (some s.nf)) vs) 8=fU (tn (γ.pn k) vs) 8+(t1+1):=nW h8 (λj hj=>by unfold tn;rw[aA hj]) (by unfold tn;rw[aF,Ps];simp only[p3];omega);rw[f1,s1,s2,hy];rw[show γ.wk k+1+(fU (wn (γ.pn k) vs) 8+(n1+1))=γ.wk k+fU (wn (γ.pn k) vs) 8+1+(n1+1) by omega,show γ.tk k+(fU (tn (γ.pn k) vs) 8+(t1+1))=γ.tk k+fU (tn (γ.pn k) vs) 8+(t1+1) by omega];exact this
   ·rw[aA e2]at hv⊢;have hfr:s'.fr k=s.fr k:=by rw[h1,aA e,aA e2]
    rw[hfr,aA e2];exact hA vs (λx q hq=>by have:=hv x q hq;rwa [dsn q (acW _ _ _ hq)]at this)
 ·show(bJ γ.ds s.nf _ k).fn=_/\(bJ γ.ds s.nf _ k).k8=_/\(bJ γ.ds s.nf _ k).dp<=_;by_cases e:k=s.nf
  ·subst e;rw[aF,VS,hc0];exact⟨rfl,rfl,by show(γ.ds f).dp+1<=_;have:=hD.2.2;omega⟩
  ·have hk2:k<s.nf:=by rw[h2]at hk';omega
   rw[dsn k e,(hk k hk2).1,(hk k hk2).2.1];exact h.D k hk2
 ·show bJ γ.ds s.nf _ 0=D0;rw[dsn 0 I];exact h.d0
 ·have e:bJ γ.pn f (bJ (γ.pn f) sl (some s.nf)) k x=some q:=e;have old:γ.pn k x=some q->q≠0/\q<s'.nf/\(s'.fr q).par=k/\(s'.fr q).slot=x/\live (s'.loc q)=true:=λe=>by
   obtain⟨a,b,c,d,e⟩:=h.pn k x q e;exact⟨a,I,by rw[(hk q b).2.2.1];exact c,by rw[(hk q b).2.2.2];exact d,by rw[hlk q I];exact e⟩
  by_cases e1:k=f
  ·subst e1;rw[aF]at e;by_cases e2:x=sl
   ·subst e2;rw[aF]at e;cases e;exact⟨I,I,by rw[VS,hc0];rfl,by rw[VS,hc0];rfl,by rw[h3,aF];rfl⟩
   ·rw[aA e2]at e;exact old e
  ·rw[aA e1]at e;exact old e
 ·show bJ γ.pn f (bJ (γ.pn f) sl (some s.nf)) _ _=some q;by_cases e:q=s.nf
  ·subst e;rw[VS,hc0];show bJ γ.pn f (bJ (γ.pn f) sl (some s.nf)) f sl=_;rw[aF,aF]
  ·have hq2:q<s.nf:=by rw[h2]at hq;omega
   rw[(hk q hq2).2.2.1,(hk q hq2).2.2.2];have:=h.np q q0 hq2 (by rw[<-hlk q e];exact hlq);rw[cA];split
   ·next e1 =>
    rw[cA];split
    ·next e2=>rw[e1,e2,Ps]at this;cases this
    ·rw[<-e1];exact this
   ·exact this
 ·obtain⟨a,b,c',d⟩:=h.z k I;refine⟨λx=>by rw[h4];exact a x,by show bJ γ.wk f _ k=0;rw[aA I];exact b,c',λx => ?_⟩;show bJ γ.pn f _ k x=none;rw[aA I];exact d x
 ·rw[h2];show fU (bJ γ.wk f (γ.wk f+1)) s.nf+bJ γ.wk f (γ.wk f+1) s.nf<=g+1;rw[nW (f:=γ.wk) (i:=f) (k:=1) hlt (λj hj=>aA hj) (aF _ _ _),aA (Ne.symm hne),(h.z s.nf (ja _)).2.1];have:=h.w;omega
theorem SI.done(h:SI C D0 s γ g){f a:Nat}(hn:f<s.nf)(hl:live (s.loc f)=true)(D7:ze C s f)(hk:∀x,γ.pn f x=none)(hc:C.code (s.fr f).fn (s.fr f).J= .ret a):Dn C (γ.ds f) ((s.fr f).bw a,γ.wk f+1,γ.tk f+1):=by
 have:=h.A f hn hl D7 (λ_=>(0,0,0)) (λx c e=>by rw[hk]at e;cases e);rw[sK (λj _=>by unfold wn;rw[hk]),sK (λj _=>by unfold tn;rw[hk])]at this;exact⟨_,a,_,_,this,by rw[(h.D f hn).1];exact hc,rfl⟩
theorem FM(h:SI C D0 s γ g)(hf:(view s).FI C.N C.F){f:Nat}(hk:s.bt f=[])(hl:∀j c,j<C.N->s.pc j= .fork c->(s.fr c).par≠f)(x:Nat):γ.pn f x=none:=by
 cases e:γ.pn f x with
 | none=>rfl
 | some c =>
  exfalso
  obtain⟨c0,cn,cp,cs,cl⟩:=h.pn f x c e;have hg:s.loc c≠.gone:=λe=>by rw[e]at cl;cases cl
  rcases hf.un c c0 cn hg with u | u
  ·have u:c∈s.bt (s.fr c).par:=u;rw[cp,hk]at u;cases u
  ·rw[Is]at u;have e':(view s).loc c=s.loc c:=rfl;rw[e']at u;split at u
   ·next j hj =>
    have Z0:s.pc j= .fork c:=by
     have:=u.2;change sig (s.pc j)= .fork c at this;cases hpj:s.pc j<;>rw[hpj]at this<;>simp only[sig]at this<;>first | (cases this;rfl) | cases this
    exact hl j c u.1 Z0 cp
   ·exact u.elim
theorem SI.ret{s':St}{f a:Nat}{y:Fr}(h:SI C D0 s γ g)(hr:FR C s)(hf:(view s).FI C.N C.F)(hn:f<s.nf)(h0:f≠0)(hl:live (s.loc f)=true)(D7:ze C s f)(hk:∀x,γ.pn f x=none)
 (hc:C.code (s.fr f).fn (s.fr f).J= .ret a) (h1:s'.fr=bJ s.fr f y) (h2:s'.nf=s.nf) (h3:s'.loc=bJ s.loc f (.fin i)) (h4:∀k x,s'.mem (.slot k x)=if k=(s.fr f).par/\x=(s.fr f).slot then(s.fr f).bw a else s.mem (.slot k x))
 (h5:∀j,s.pc j= .full->s'.pc j= .full/\s'.hold j=s.hold j) (hy:y={s.fr f with J:=(s.fr f).J+1}) :
 SI C D0 s' {pn:=bJ γ.pn (s.fr f).par (bJ (γ.pn (s.fr f).par) (s.fr f).slot none),ds:=γ.ds,wk:=bJ (bJ γ.wk (s.fr f).par (γ.wk (s.fr f).par+(γ.wk f+1))) f 0,tk:=bJ (bJ γ.tk (s.fr f).par (γ.tk (s.fr f).par+(γ.tk f+1))) f 0} (g+1):=by
 have hpf:=h.np f h0 hn hl;have hdn:=h.done hn hl D7 hk hc;generalize hp:(s.fr f).par=p at *;generalize hx:(s.fr f).slot=x0 at *;have Ps:p<s.nf:=by rw[<-hp];exact hf.pr f hn
 have hne:p≠f:=λe=>by rw[e,hk]at hpf;cases hpf
 have h8:x0<8:=by rw[<-hx];exact(hr f hn).2.1
 have hfr:∀k,(s'.fr k).fn=(s.fr k).fn/\(s'.fr k).k8=(s.fr k).k8/\(s'.fr k).par=(s.fr k).par/\(s'.fr k).slot=(s.fr k).slot:=λk=>by
  rw[h1,cA];split
  ·next e=>subst e;subst hy;exact⟨rfl,rfl,rfl,rfl⟩
  ·exact⟨rfl,rfl,rfl,rfl⟩
 have hlv:∀k,k≠f->s'.loc k=s.loc k:=λk e=>by rw[h3,aA e]
 have X1:live (s'.loc f)=false:=by rw[h3,aF];rfl
 have pnq:∀k x c,bJ γ.pn p (bJ (γ.pn p) x0 none) k x=some c->γ.pn k x=some c/\¬(k=p/\x=x0):=λk x c e=>by
  rw[cA]at e;split at e
  ·next e1 =>
   subst e1;rw[cA]at e;split at e
   ·cases e
   ·next e2=>exact⟨e,λe'=>e2 e'.2⟩
  ·next e1=>exact⟨e,λe'=>e1 e'.1⟩
 have nf_:∀k x c,γ.pn k x=some c->¬(k=p/\x=x0)->c≠f:=λk x c e hxx e'=>by
  obtain⟨_,_,a,b,_⟩:=h.pn k x c e;exact hxx ⟨by rw[<-a,e',hp],by rw[<-b,e',hx]⟩
 refine⟨λk hk' Vf hnk => ?_,λk hk' => ?_,h.d0,λk x c e => ?_,λq q0 hq hlq => ?_,λk hk' => ?_,?_⟩
 ·have ekf:k≠f:=λe=>by rw[e,X1]at Vf;cases Vf
  have hA:=h.A k (h2▸ hk') (by rw[<-hlv k ekf];exact Vf) (xK h5 hnk);intro vs hv;simp only at hv⊢;have hfk:s'.fr k=s.fr k:=by rw[h1,aA ekf]
  rw[hfk,aA ekf,aA ekf];by_cases e:k=p
  ·subst e;rw[aF]at hv⊢;rw[aF,aF];have hA:=hA (bJ vs f ((s.fr f).bw a,γ.wk f+1,γ.tk f+1)) (λx q hq=>by
    by_cases e:x=x0
    ·subst e;rw[hpf]at hq;cases hq;rw[aF];exact hdn
    ·have:=nf_ k x q hq (λe'=>e e'.2);rw[aA this];exact hv x q (by rw[aA e];exact hq))
   have vq:∀x q,x≠x0->γ.pn k x=some q->bJ vs f ((s.fr f).bw a,γ.wk f+1,γ.tk f+1) q=vs q:=λx q e hq=>aA (nf_ k x q hq (λe'=>e e'.2));have f1:PF (bJ (γ.pn k) x0 none) (IW s' k) vs=PF (γ.pn k) (IW s k) (bJ vs f ((s.fr f).bw a,γ.wk f+1,γ.tk f+1)):=funext λx=>by
    unfold PF IW;by_cases e:x=x0
    ·subst e;rw[aF,hpf,h4,aM ⟨rfl,rfl⟩];simp only[aF]
    ·rw[aA e,h4,bZ (λe'=>e e'.2)];cases hq:γ.pn k x with
     | none=>rfl
     | some q=>simp only;rw[vq x q e hq]
   have s1:fU (wn (γ.pn k) (bJ vs f ((s.fr f).bw a,γ.wk f+1,γ.tk f+1))) 8=fU (wn (bJ (γ.pn k) x0 none) vs) 8+(γ.wk f+1):=nW h8 (λj hj=>by
    unfold wn;rw[aA hj];cases hq:γ.pn k j with
    | none=>rfl
    | some q=>simp only;rw[vq j q hj hq]) (by unfold wn;rw[aF,hpf];simp only[aF];omega)
   have s2:fU (tn (γ.pn k) (bJ vs f ((s.fr f).bw a,γ.wk f+1,γ.tk f+1))) 8=fU (tn (bJ (γ.pn k) x0 none) vs) 8+(γ.tk f+1):=nW h8 (λj hj=>by
    unfold tn;rw[aA hj];cases hq:γ.pn k j with
    | none=>rfl
    | some q=>simp only;rw[vq j q hj hq]) (by unfold tn;rw[aF,hpf];simp only[aF];omega)
   rw[s1,s2,<-f1]at hA;rw[show γ.wk k+(γ.wk f+1)+fU (wn (bJ (γ.pn k) x0 none) vs) 8=γ.wk k+(fU (wn (bJ (γ.pn k) x0 none) vs) 8+(γ.wk f+1)) by omega,show γ.tk k+(γ.tk f+1)+fU (tn (bJ (γ.pn k) x0 none) vs) 8=γ.tk k+(fU (tn (bJ (γ.pn k) x0 none) vs) 8+(γ.tk f+1)) by omega];exact hA
  ·rw[aA e]at hv⊢;rw[aA e,aA e];have hA:=hA vs hv;have:IW s' k=IW s k:=funext λx=>by unfold IW;rw[h4,bZ (λe'=>e e'.1)]
   rw[this];exact hA
 ·rw[(hfr k).1,(hfr k).2.1];exact h.D k (h2▸ hk')
 ·obtain⟨e1,e2⟩:=pnq k x c e;have:=nf_ k x c e1 e2;rw[(hfr c).2.2.1,(hfr c).2.2.2,h2,hlv c this];exact h.pn k x c e1
 ·have eqf:q≠f:=λe=>by rw[e,X1]at hlq;cases hlq
  have:=h.np q q0 (h2▸ hq) (by rw[<-hlv q eqf];exact hlq);rw[(hfr q).2.2.1,(hfr q).2.2.2];show bJ γ.pn p (bJ (γ.pn p) x0 none) _ _=some q;rw[cA];split
  ·next e1 =>
   rw[cA];split
   ·next e2=>rw[e1,e2,hpf]at this;exact absurd (Option.some.inj this).symm eqf
   ·rw[<-e1];exact this
  ·exact this
 ·have hk2:s.nf<=k:=h2▸ hk';obtain⟨a',b,c',d⟩:=h.z k hk2;refine⟨λx=>by rw[h4,bZ (λe=>I)];exact a' x,?_,?_,λx => ?_⟩
  ·show bJ (bJ γ.wk p _) f 0 k=0;rw[aA I,aA I];exact b
  ·show bJ (bJ γ.tk p _) f 0 k=0;rw[aA I,aA I];exact c'
  ·show bJ γ.pn p _ k x=none;rw[aA I];exact d x
 ·rw[h2];show fU (bJ (bJ γ.wk p (γ.wk p+(γ.wk f+1))) f 0) s.nf<=g+1;have a1:=nW (f:=bJ (bJ γ.wk p (γ.wk p+(γ.wk f+1))) f 0) (g:=bJ γ.wk p (γ.wk p+(γ.wk f+1))) (i:=f) (k:=γ.wk f) hn (λj hj=>(aA hj).symm) (by rw[aA (Ne.symm hne),aF];omega);have a2:=nW (f:=γ.wk) (g:=bJ γ.wk p (γ.wk p+(γ.wk f+1))) (i:=p) (k:=γ.wk f+1) Ps (λj hj=>aA hj) (aF _ _ _);have:=h.w;omega
end
section
variable {C:jt}{φ:NQ C}{s:St}{i:Nat}{σ:Nat->Nat->Nat}{D0:LY}{γ:SG}{g:Nat}
theorem ku{s':St}{p:Pc}(hi:s.pc i≠.full)(h1:s'.pc=bJ s.pc i p)(h2:s'.hold=s.hold∨∃x,s'.hold=bJ s.hold i x):∀j,s.pc j= .full->s'.pc j= .full/\s'.hold j=s.hold j:=λj hj=>by
 have e:j≠i:=λe=>hi (e▸ hj);refine⟨by rw[h1,aA e,hj],?_⟩;rcases h2 with h2 | ⟨x,h2⟩
 ·rw[h2]
 ·rw[h2,aA e]
theorem sj{f:Nat}{l:Loc}(h:live l=live (s.loc f))(k:Nat):live (bJ s.loc f l k)=live (s.loc k):=by
 rw[cA];split
 ·next e=>subst e;exact h
 ·rfl
def Rt(C:jt)(D0:LY)(g:Nat)(o:Option Ev):Prop:=∀e,o=some e->e.kind=6->e.ax=0->∃n t,Dn C D0 (e.v,n,t)/\n<=g+1
theorem SI.Km{s':St}{f:Nat}{y:Fr}(h:SI C D0 s γ g)(hi:i<C.N)(hp':s.pc i≠.full)(hh:s'.hold i=some f)(hp:s'.pc i= .full)(h1:s'.fr=bJ s.fr f y)(h2:s'.nf=s.nf)(hm:∀f x,s'.mem (.slot f x)=s.mem (.slot f x))(h3:s'.loc=s.loc)
 (h5:∀j,s.pc j= .full->s'.pc j= .full/\s'.hold j=s.hold j) (hy:y.fn=(s.fr f).fn/\y.k8=(s.fr f).k8/\y.par=(s.fr f).par/\y.slot=(s.fr f).slot):SI C D0 s' γ (g+1):=by
 have hk:∀k,(s'.fr k).fn=(s.fr k).fn/\(s'.fr k).k8=(s.fr k).k8/\(s'.fr k).par=(s.fr k).par/\(s'.fr k).slot=(s.fr k).slot:=λk=>by
  rw[h1,cA];split
  ·next e=>subst e;exact hy
  ·exact⟨rfl,rfl,rfl,rfl⟩
 refine⟨λk hk' hlk hnk => ?_,λk hk' => ?_,h.d0,λk x c e => ?_,λc h0 hc hlc => ?_,λk hk' => ?_,by rw[h2];have:=h.w;omega⟩
 ·have ekf:k≠f:=λe=>hnk i hi hp (e▸ hh);have hA:=h.A k (h2▸ hk') (by rw[<-h3];exact hlk) (xK h5 hnk);intro vs hv;rw[h1,aA ekf,show IW s' k=IW s k from funext (hm k)];exact hA vs hv
 ·rw[(hk k).1,(hk k).2.1];exact h.D k (h2▸ hk')
 ·rw[(hk c).2.2.1,(hk c).2.2.2,h2,h3];exact h.pn k x c e
 ·rw[(hk c).2.2.1,(hk c).2.2.2];exact h.np c h0 (h2▸ hc) (by rw[<-h3];exact hlc)
 ·obtain⟨a,b⟩:=h.z k (h2▸ hk');exact⟨λx=>by rw[hm];exact a x,b⟩
theorem SI.instr(hC:C.OK)(h:SI C D0 s γ g)(hs:SL C φ s σ)(hr:FR C s)(hf:(view s).FI C.N C.F)(hi:i<C.N)(hp:s.pc i= .run) :
 (∃γ',SI C D0 (instr C s i).s γ' (g+1))/\Rt C D0 g (instr C s i).ev:=by
 obtain⟨f,hh⟩:=n9 hf hi (by rw[hp];rfl);obtain⟨hl,hn⟩:=nA hf hi hh;obtain⟨a1,a2,a3⟩:=hr f hn;have a3:=a3 hl;have ok:=hC.ins _ a1 _ a3;have D7:ze C s f:=λj hj e e'=>by
  have:=tj hf hj hi e' hh;subst this;rw[hp]at e;cases e
 have hw:s.loc f≠.waiting:=by rcases hf.hold i f hi hh with a | a<;>(have:=a.2;change s.loc f=_ at this;rw[this];simp)
 have PG:s.pc i≠.full:=by rw[hp];simp
 have same:∀j,s.pc j= .full->s.pc j= .full/\s.hold j=s.hold j:=λj hj=>⟨hj,rfl⟩;have NR:∀{k:Nat} {a b c:Int},k≠6->Rt C D0 g (ev k a b c):=λhk e he=>by cases he;exact λh=>absurd h hk
 have vV:Rt C D0 g none:=λe he=>by cases he
 have held:s.loc f= .held i:=by
  rcases hf.hold i f hi hh with a | a
  ·have:sig (s.pc i)= .one:=a.1;rw[hp]at this;cases this
  ·exact a.2
 unfold Kf at ok;unfold Am.instr;simp only[hh,nQ];split<;>rename_i hc<;>rw[hc]at ok<;>simp only at ok
 ·exact⟨⟨_,h.data hn hl rfl rfl (λ_ _=>rfl) (λ_=>rfl) same ⟨rfl,rfl,rfl,rfl⟩ (λvs=>by unfold Bh;simp only[hc])⟩,vV⟩
 ·exact⟨⟨_,h.data hn hl rfl rfl (λ_ _=>rfl) (λ_=>rfl) same ⟨rfl,rfl,rfl,rfl⟩ (λvs=>by unfold Bh;simp only[hc])⟩,vV⟩
 ·exact⟨⟨_,h.data hn hl rfl rfl (λ_ _=>rfl) (λ_=>rfl) same ⟨rfl,rfl,rfl,rfl⟩ (λvs=>by unfold Bh;simp only[hc])⟩,vV⟩
 ·exact⟨⟨_,h.data hn hl rfl rfl (λ_ _=>rfl) (λ_=>rfl) same ⟨rfl,rfl,rfl,rfl⟩ (λvs=>by unfold Bh;simp only[hc])⟩,vV⟩
 ·exact⟨⟨_,h.data hn hl rfl rfl (λ_ _=>rfl) (λ_=>rfl) same (by split<;>exact⟨rfl,rfl,rfl,rfl⟩) (λvs=>by unfold Bh;simp only[hc];split<;>rfl)⟩,vV⟩
 ·exact⟨⟨_,h.data hn hl rfl rfl (λ_ _=>rfl) (λ_=>rfl) same ⟨rfl,rfl,rfl,rfl⟩ (λvs=>by unfold Bh;simp only[hc])⟩,vV⟩
 ·rename_i a sl;have Ps:γ.pn f sl=none:=by
   obtain⟨l1,l2,l3⟩:=φ.ld _ _ _ _ a1 a3 hc;cases e:γ.pn f sl with
   | none=>rfl
   | some k=>exact absurd ((Ve h hs hf hw e)▸ hs.a f hn hl sl l1) l3
  exact⟨⟨_,h.data hn hl rfl rfl (λ_ _=>rfl) (λ_=>rfl) same ⟨rfl,rfl,rfl,rfl⟩ (λvs=>by
   unfold Bh;simp only[hc];have:PF (γ.pn f) (IW s f) vs sl=s.mem (.slot f sl):=by unfold PF;rw[Ps];rfl
   rw[this])⟩,vV⟩
 ·rename_i sl g0 c;split
  ·exact⟨⟨_,h.Km (f:=f) (y:={s.fr f with J:=(s.fr f).J+1}) hi PG hh (aF _ _ _) rfl rfl (λ_ _=>rfl) rfl (ku (p:=.full) PG rfl (.inl rfl)) ⟨rfl,rfl,rfl,rfl⟩⟩,NR dO⟩
  ·rename_i hx;have hF:=hC.f4;have hnx:=hf.nx;have hnx:s.mem .next=s.nf∨(s.nf=C.F/\(C.F:Int)<=s.mem .next):=hnx;have hnF:s.nf<=C.F:=hf.xC;have h48:s.nf<4096:=by rcases hnx with e | e<;>omega
   refine⟨⟨_,h.spawn (f:=f) (y:={s.fr f with J:=(s.fr f).J+1,bt:=(s.fr f).bt+1}) (c0:=kD C (s.fr f) f sl g0 c) hs hr hf hi hh hp hc h48 ?_ rfl rfl (λ_ _=>rfl) (ku (p:=.fork s.nf) PG rfl (.inl rfl)) rfl rfl ok.1⟩,vV⟩;show bJ (bJ (bJ s.fr f _) f _) s.nf _=_;rw[LH]
 ·split
  ·exact⟨⟨_,h.data hn hl rfl rfl (λ_ _=>rfl) (sj (s:=s) (f:=f) (by rw[held];rfl)) (ku (p:=.Bw) PG rfl (.inr ⟨none,rfl⟩)) ⟨rfl,rfl,rfl,rfl⟩ (λvs=>by unfold Bh;simp only[hc])⟩,NR dO⟩
  ·exact⟨⟨_,h.data hn hl rfl rfl (λ_ _=>rfl) (sj (s:=s) (f:=f) (by rw[held];rfl)) (ku (p:=.nP) PG rfl (.inl rfl)) ⟨rfl,rfl,rfl,rfl⟩ (λvs=>by unfold Bh;simp only[hc])⟩,vV⟩
 ·rename_i a;have hk:=hs.E1 hr hf hi hh hc;have hkn:=FM h hf hk (λj c hj e e'=>by
   have q:=(hf.fk j c hj (by show sig (s.pc j)=_;rw[e];rfl)).2.2.1;have q:s.hold j=some (s.fr c).par:=q;rw[e']at q;have:=tj hf hj hi q hh;subst this;rw[hp]at e;cases e)
  split
  ·next e0 =>
   subst e0;have hd:=h.done hn hl D7 hkn hc;rw[h.d0]at hd;have hwk:γ.wk 0<=g:=Bi (GY hn) h.w;refine⟨⟨γ,?_⟩,λe he _ _ => ?_⟩
   rotate_left
   ·cases he;exact⟨_,_,hd,I⟩
   ·have hno:∀x,γ.pn 0 x=none:=hkn;refine⟨λk hk' hlk hnk => ?_,λk hk' => ?_,h.d0,λk x c e => ?_,λc h0 EE hlc => ?_,λk hk' => ?_,by have:=h.w;exact Nat.le_succ_of_le this⟩
    ·have ek:k≠0:=λe=>by subst e;have hlk:live (bJ s.loc 0 (.fin i) 0)=true:=hlk;rw[aF]at hlk;cases hlk
     have hlk:live (bJ s.loc 0 (.fin i) k)=true:=hlk;rw[aA ek]at hlk;have hA:=h.A k hk' hlk (xK (ku (p:=.done) PG rfl (.inr ⟨none,rfl⟩)) hnk);intro vs hv;show Pre C _ _ _ _ ⟨(bJ s.fr 0 _ k).J,(bJ s.fr 0 _ k).bw,_,(bJ s.fr 0 _ k).bt⟩ _ _;rw[aA ek];exact hA vs hv
    ·show(γ.ds k).fn=(bJ s.fr 0 _ k).fn/\(γ.ds k).k8=(bJ s.fr 0 _ k).k8/\_;have:=h.D k hk';rw[cA];split
     ·next e=>subst e;exact this
     ·exact this
    ·obtain⟨b1,b2,b3,b4,b5⟩:=h.pn k x c e;show c≠0/\c<s.nf/\(bJ s.fr 0 _ c).par=k/\(bJ s.fr 0 _ c).slot=x/\live (bJ s.loc 0 _ c)=true;rw[aA b1,aA b1];exact⟨b1,b2,b3,b4,b5⟩
    ·have hlc:live (bJ s.loc 0 (.fin i) c)=true:=hlc;rw[aA h0]at hlc;show γ.pn (bJ s.fr 0 _ c).par (bJ s.fr 0 _ c).slot=some c;rw[aA h0];exact h.np c h0 EE hlc
    ·exact h.z k hk'
  ·next e0 =>
   refine⟨⟨_,h.ret (i:=i) (f:=f) (a:=a) (y:={s.fr f with J:=(s.fr f).J+1}) hr hf hn e0 hl D7 hkn hc rfl rfl rfl (λk x => ?_) (ku (p:=.out (s.fr f).par f) PG rfl (.inr ⟨none,rfl⟩)) rfl⟩,λe he h1 h2 => ?_⟩
   ·show bJ s.mem (.slot (s.fr f).par (s.fr f).slot) ((s.fr f).bw a) (.slot k x)=_;rw[cA];simp only[tF.slot.injEq]
   ·cases he;exact absurd h2 (by show ¬(f:Int)=0;omega)
theorem SI.aC(hC:C.OK)(h:SI C D0 s γ g)(hs:SL C φ s σ)(hr:FR C s)(hf:(view s).FI C.N C.F)(hd:DT C s)(hi:i<C.N)(d:Int) :
 (∃γ',SI C D0 (aC C s i d).s γ' (g+1))/\Rt C D0 g (aC C s i d).ev:=by
 have NR:∀{k:Nat} {a b c:Int},k≠6->Rt C D0 g (ev k a b c):=λhk e he=>by cases he;exact λh=>absurd h hk
 have vV:Rt C D0 g none:=λe he=>by cases he
 cases hp:s.pc i with
 | run=>unfold Am.aC;rw[hp];exact SI.instr hC h hs hr hf hi hp
 | halted=>unfold Am.aC;rw[hp];exact⟨⟨γ,h.of rfl rfl (λ_ _=>rfl) (λ_=>rfl) (λj hj=>⟨hj,rfl⟩)⟩,vV⟩
 | full=>unfold Am.aC;rw[hp];exact⟨⟨γ,h.of rfl rfl (λ_ _=>rfl) (λ_=>rfl) (λj hj=>⟨hj,rfl⟩)⟩,vV⟩
 | nP =>
  obtain⟨f,hh⟩:=n9 hf hi (by rw[hp];rfl);unfold Am.aC;rw[hp];simp only[hh,nQ];exact⟨⟨γ,h.of rfl rfl (λ_ _=>rfl) (sj (s:=s) (f:=f) (by rw[(nA hf hi hh).1];rfl)) (ku (i:=i) (p:=.run) (by rw[hp];simp) rfl (.inl rfl))⟩,NR dO⟩
 | out p c =>
  have hg:(view s).g i= .out p c:=by show sig (s.pc i)=_;rw[hp];rfl
  have hc:s.loc c= .fin i:=(hf.out i p c hi hg).2.1;unfold Am.aC;rw[hp];simp only;split
  ·rename_i hn;have hw:s.loc p= .waiting:=(hf.ie hi hg hn).1;refine⟨⟨γ,h.of rfl rfl (λ_ _=>rfl) (λk => ?_) (ku (i:=i) (p:=.take p c) (by rw[hp];simp) rfl (.inl rfl))⟩,vV⟩;show live (bJ (bJ s.loc c .gone) p (.sQ i) k)=live (s.loc k);rw[cA];split
   ·next e=>subst e;rw[hw];rfl
   ·exact sj (s:=s) (f:=c) (by rw[hc];rfl) k
  ·exact⟨⟨γ,h.of rfl rfl (λ_ _=>rfl) (sj (s:=s) (f:=c) (by rw[hc];rfl)) (ku (i:=i) (p:=.Bw) (by rw[hp];simp) rfl (.inl rfl))⟩,vV⟩
 | take p c =>
  have hg:(view s).g i= .take p c:=by show sig (s.pc i)=_;rw[hp];rfl
  unfold Am.aC;rw[hp];simp only;exact⟨⟨γ,h.of rfl rfl (λ_ _=>rfl) (sj (s:=s) (f:=p) (by rw[show s.loc p= .sQ i from hf.tk i p c hi hg];rfl)) (ku (i:=i) (p:=.run) (by rw[hp];simp) rfl (.inr ⟨some p,rfl⟩))⟩,NR dO⟩
 | n7 c b =>
  have hg:(view s).g i= .push c:=by show sig (s.pc i)=_;rw[hp];rfl
  unfold Am.aC;rw[hp];simp only;exact⟨⟨γ,h.of rfl rfl (λ_ _=>rfl) (sj (s:=s) (f:=c) (by rw[show s.loc c= .bW i from(hf.ps i c hi hg).2.1];rfl)) (ku (i:=i) (p:=.DQ) (by rw[hp];simp) rfl (.inl rfl))⟩,NR dO⟩
 | AB b =>
  have P:=(hd.1 i hi).ph;unfold pT at P;rw[hp]at P;simp only at P;unfold Am.aC;rw[hp];simp only;split
  ·rename_i hlt;have hne:s.q i≠[]:=by
    intro e;simp only[St.L,St.T,e,xL]at P;omega
   have hm:(s.q i).getLastD 0∈s.q i:=by
    rw[JU,List.getLast?_eq_some_getLast hne];exact List.getLast_mem hne
   have e:s.loc ((s.q i).getLastD 0)= .Lc i:=(hf.q i _ hi hm).2;exact⟨⟨γ,h.of rfl rfl (λ_ _=>rfl) (sj (s:=s) (f:=(s.q i).getLastD 0) (by rw[e];rfl)) (ku (i:=i) (p:=.tP b (s.mem (.top i))) (by rw[hp];simp) rfl (.inl rfl))⟩,vV⟩
  ·split<;>exact⟨⟨γ,h.of rfl rfl (λ_ _=>rfl) (λ_=>rfl) (ku (i:=i) (by rw[hp];simp) rfl (.inl rfl))⟩,vV⟩
 | pS b t cc =>
  have P:=(hd.1 i hi).ph;unfold pT at P;rw[hp]at P;simp only at P;unfold Am.aC;rw[hp];simp only;split
  ·rename_i hlt;obtain⟨x,hx,he⟩:=(P.1.2.2.2.1 hlt).2.2;rw[<-P.2]at he;rw[he];have e:s.loc x= .pop i:=(hf.pop i x hi hx).2;refine⟨⟨γ,h.of rfl rfl (λ_ _=>rfl) (sj (s:=s) (f:=x) (l:=.held i) (by rw[e];rfl)) (ku (i:=i) (p:=.start (-1)) (by rw[hp];simp) rfl (.inr ⟨some x,rfl⟩))⟩,vV⟩
  ·exact⟨⟨γ,h.of rfl rfl (λ_ _=>rfl) (λ_=>rfl) (ku (i:=i) (by rw[hp];simp) rfl (.inl rfl))⟩,vV⟩
 | sP b t x =>
  have P:=(hd.1 i hi).ph;unfold pT at P;rw[hp]at P;simp only at P;unfold Am.aC;rw[hp];simp only;split
  ·rename_i ht;have hq:=(P.2.2.2.2.1 ht).1;have e:s.loc x.toNat= .Lc i:=(hf.q i _ hi (by show x.toNat∈s.q i;rw[hq];simp)).2;exact⟨⟨γ,h.of rfl rfl (λ_ _=>rfl) (sj (s:=s) (f:=x.toNat) (by rw[e];rfl)) (ku (i:=i) (p:=.qa t x true) (by rw[hp];simp) rfl (.inl rfl))⟩,vV⟩
  ·exact⟨⟨γ,h.of rfl rfl (λ_ _=>rfl) (λ_=>rfl) (ku (i:=i) (by rw[hp];simp) rfl (.inl rfl))⟩,vV⟩
 | qa t x Al =>
  have P:=(hd.1 i hi).ph;unfold pT at P;rw[hp]at P;simp only at P;unfold Am.aC;rw[hp];simp only;split
  ·rename_i hw;have e:s.loc x.toNat= .pop i:=(hf.pop i _ hi (P.2.2.2 hw).1).2;exact⟨⟨γ,h.of rfl rfl (λ_ _=>rfl) (sj (s:=s) (f:=x.toNat) (l:=.held i) (by rw[e];rfl)) (ku (i:=i) (p:=.start (-1)) (by rw[hp];simp) rfl (.inr ⟨some x.toNat,rfl⟩))⟩,vV⟩
  ·exact⟨⟨γ,h.of rfl rfl (λ_ _=>rfl) (λ_=>rfl) (ku (i:=i) (p:=if C.N=1 then .flag else .jQ) (by rw[hp];simp) rfl (.inl rfl))⟩,vV⟩
 | ny v t x =>
  have HT:=hd.2 i hi;unfold Th at HT;rw[hp]at HT;simp only at HT;unfold Am.aC;rw[hp];simp only;split
  ·rename_i ht;obtain⟨y,l,hq,hx⟩:=HT.2.2.2 ht.symm;have e:s.loc x.toNat= .Lc v:=(hf.q v _ HT.1 (by show x.toNat∈s.q v;rw[hq,hx];simp)).2;exact⟨⟨γ,h.of rfl rfl (λ_ _=>rfl) (sj (s:=s) (f:=x.toNat) (l:=.held i) (by rw[e];rfl)) (ku (i:=i) (p:=.start v) (by rw[hp];simp) rfl (.inr ⟨some x.toNat,rfl⟩))⟩,NR dO⟩
  ·exact⟨⟨γ,h.of rfl rfl (λ_ _=>rfl) (λ_=>rfl) (ku (i:=i) (by rw[hp];simp) rfl (.inl rfl))⟩,vV⟩
 | parked =>
  unfold Am.aC;rw[hp];simp only;split
  ·exact⟨⟨γ,h.of rfl rfl (λ_ _=>rfl) (λ_=>rfl) (λj hj=>⟨hj,rfl⟩)⟩,vV⟩
  ·exact⟨⟨γ,h.of rfl rfl (λ_ _=>rfl) (λ_=>rfl) (ku (i:=i) (p:=if C.N=1 then .flag else .jQ) (by rw[hp];simp) rfl (.inl rfl))⟩,vV⟩
 | grow c b t cc =>
  unfold Am.aC;rw[hp];simp only;exact⟨⟨γ,h.of rfl rfl (λ_ _=>rfl) (λ_=>rfl) (ku (i:=i) (p:=.mS c b t cc) (by rw[hp];simp) rfl (.inl rfl))⟩,vV⟩
 | _ =>
  unfold Am.aC;rw[hp];simp only[lU,looking,yp,yZ]
  repeat' split
  all_goals exact⟨⟨γ,h.of rfl rfl (λ_ _=>rfl) (λ_=>rfl) (ku (i:=i) (by rw[hp];simp) rfl (.inl rfl))⟩,by first | exact vV | exact NR dO⟩
end
end Am
end
section
namespace Mo
open Go SL GX
section
variable {K:Nat}{p:aH}{N F f m:Nat}
structure TR(x:Am.TS)(d me:Int)(T:dN):Prop where
 pt:T.At=(x.J:Int)
 rg:∀r,r<16->GX.J T.sw r=x.bw r
 sg:∀s,s<8->GX.J T.nq s=x.sl s
 kd:T.Kids=(x.bt:Int)
 Yv:T.Me=me
 dp:T.iN=d
structure SIn(x:Am.TS):Prop where
 r:∀r,r<16->uu (x.bw r)
 s:∀s,s<8->uu (x.sl s)
theorem CE(hv:Valid p)(IV:X2 p){g a:Nat}(hg:g<p.ah.length)(ha:a<(GX.J p.ah g).ai.length) :
 let c:=GX.J (GX.J p.ah g).ai a
 nl (GX.J p.ah g) c=true/\vY p (GX.J p.ah g) c=true/\uu c.K/\(GX.J p.ah g).cZ<=16/\(GX.J p.ah g).bP<=8/\
 (c.aP=0∨c.aP=1∨c.aP=2∨c.aP=3∨c.aP=4∨c.aP=5∨c.aP=6∨c.aP=7∨c.aP=8∨c.aP=9)/\(c.aP≠3->c.aP≠9->a+1<(GX.J p.ah g).ai.length):=by
 have hs:=hv.GO g hg;have hc:=hv.code g hg;have hk:=(Code.snd hs hc).kind (a:Int) I I;rw[cL]at hk;refine⟨(hc.ins a ha).1,(hc.ins a ha).2,(IV.c _ (tD hg) _ (tD ha)).2.2.2,hs.r16,hs.s8,I,λh3 h9=>Uu hc hs ha h3 h9⟩
theorem aan(hv:Valid p)(IV:X2 p){g:Nat}(hg:g<p.ah.length){x y:Am.TS}{pd:Int}(hx:x.J<(GX.J p.ah g).ai.length)(h:Am.Bh (cfg p N F f m) g pd x=some y)(i:SIn x)(hpd:uu pd) :
 y.J<(GX.J p.ah g).ai.length/\SIn y:=by
 obtain⟨a1,a2,a3,a4,a5,hk,hl⟩:=CE hv IV hg hx;have h:(match mU (GX.J (GX.J p.ah g).ai x.J)with
  | .const a k=>some {x with J:=x.J+1,bw:=Am.bJ x.bw a k}
  | .move a b=>some {x with J:=x.J+1,bw:=Am.bJ x.bw a (x.bw b)}
  | .arith op a b c=>some {x with J:=x.J+1,bw:=Am.bJ x.bw a (Ut op (x.bw b) (x.bw c))}
  | .jump a=>some {x with J:=a}
  | .branch a b=>some {x with J:=if x.bw a≠0 then b else x.J+1}
  | .k8 a=>some {x with J:=x.J+1,bw:=Am.bJ x.bw a pd}
  | .load a s=>some {x with J:=x.J+1,bw:=Am.bJ x.bw a (x.sl s)}
  | .sync=>some {x with J:=x.J+1}
  | .spawn _ _ _=>none
  | .ret _=>none)=some y:=h
 generalize GX.J (GX.J p.ah g).ai x.J=c at *;have up:∀(a:Nat) (v:Int),uu v->SIn {x with J:=x.J+1,bw:=Am.bJ x.bw a v}:=λa v hv=>⟨λr hr=>by
  show uu (Am.bJ x.bw a v r);rw[Am.cA];split
  ·exact hv
  ·exact i.r r hr,i.s⟩
 unfold nl at a1;unfold mU at h;rcases hk with k | k | k | k | k | k | k | k | k | k<;>simp[k,tM]at a1 h hl
 ·subst h;exact⟨hl,up _ _ a3⟩
 ·subst h;exact⟨hl,up _ _ (i.r _ I)⟩
 ·subst h;exact⟨hl,up _ _ (acV I I (i.r _ I) (i.r _ I))⟩
 ·subst h;exact⟨by show c.A.toNat<_;omega,i.r,i.s⟩
 ·subst h;refine⟨?_,i.r,i.s⟩;show(if x.bw c.A.toNat=0 then x.J+1 else c.B.toNat)<_;split<;>omega
 ·subst h;exact⟨hl,i.r,i.s⟩
 ·subst h;exact⟨hl,up _ _ (i.s _ I)⟩
 ·subst h;exact⟨hl,up _ _ hpd⟩
theorem Vg(hv:Valid p)(IV:X2 p)(hK:100<K){g:Nat}(hg:g<p.ah.length){x y:Am.TS}{pd d me:Int}{T:dN}{S:bB}
 (hx:x.J<(GX.J p.ah g).ai.length) (h:Am.Bh (cfg p N F f m) g pd x=some y) (h6:¬(GX.J (GX.J p.ah g).ai x.J).aP=6)
 (t:TR {x with J:=x.J+1} d me T) (i:SIn x) (hme:0<=me) (hm:me<S.bI.length) (hp:(GX.J S.bI me.toNat).E6=pd) :
 ∃T',lP K S p.ah T (GX.J (GX.J p.ah g).ai x.J)=some T'/\TR y d me T':=by
 obtain⟨a1,a2,a3,a4,a5,hk,hl⟩:=CE hv IV hg hx;have h:(match mU (GX.J (GX.J p.ah g).ai x.J)with
  | .const a k=>some {x with J:=x.J+1,bw:=Am.bJ x.bw a k}
  | .move a b=>some {x with J:=x.J+1,bw:=Am.bJ x.bw a (x.bw b)}
  | .arith op a b c=>some {x with J:=x.J+1,bw:=Am.bJ x.bw a (Ut op (x.bw b) (x.bw c))}
  | .jump a=>some {x with J:=a}
  | .branch a b=>some {x with J:=if x.bw a≠0 then b else x.J+1}
  | .k8 a=>some {x with J:=x.J+1,bw:=Am.bJ x.bw a pd}
  | .load a s=>some {x with J:=x.J+1,bw:=Am.bJ x.bw a (x.sl s)}
  | .sync=>some {x with J:=x.J+1}
  | .spawn _ _ _=>none
  | .ret _=>none)=some y:=h
 generalize GX.J (GX.J p.ah g).ai x.J=c at *;have up:∀(a:Nat) (v:Int),TR {x with J:=x.J+1,bw:=Am.bJ x.bw a v} d me {T with sw:=mB 16 T.sw a v}:=λa v=>⟨t.pt,λr hr=>by
  show GX.J (mB 16 T.sw a v) r=Am.bJ x.bw a v r;rw[EV hr,Am.cA,t.rg r hr],t.sg,t.kd,t.Yv,t.dp⟩
 have rg:∀r,r<16->GX.J T.sw r=x.bw r:=t.rg;have sg:∀s,s<8->GX.J T.nq s=x.sl s:=t.sg;unfold nl at a1;unfold mU at h;unfold lP;rcases hk with k | k | k | k | k | k | k | k | k | k
 ·simp[k,tM]at a1 h;rw[aM k,aM ⟨I,I⟩];subst h;exact⟨_,rfl,up _ _⟩
 ·simp[k,tM]at a1 h;rw[eu,aM k,aM ⟨I,I⟩,aM ⟨I,I⟩,rg _ I];subst h;exact⟨_,rfl,up _ _⟩
 ·simp[k,tM]at a1 h;have e:=PD (K:=K) (op:=c.K) (x:=x.bw c.B.toNat) (y:=x.bw c.C.toNat) I I (i.r _ I) (i.r _ I) hK;rw[Iw I I]at e;rw[eu,eu,aM k,aM ⟨I,I⟩,aM ⟨I,I⟩,rg _ I,rg _ I,e,eF,aM ⟨I,I⟩];subst h;exact⟨_,rfl,up _ _⟩
 ·simp[k,tM]at a1 h;rw[eu,eu,eu,eu,eu,aM k];subst h;exact⟨_,rfl,by show c.A=(c.A.toNat:Int);omega,t.rg,t.sg,t.kd,t.Yv,t.dp⟩
 ·simp[k,tM]at a1 h;rw[eu,eu,eu,eu,eu,eu,aM k,aM ⟨I,I⟩,rg _ I];subst h;by_cases e:x.bw c.A.toNat=0
  ·rw[aM e];exact⟨_,rfl,by show T.At=((if x.bw c.A.toNat=0 then x.J+1 else c.B.toNat:Nat):Int);rw[aM e];exact t.pt,t.rg,t.sg,t.kd,t.Yv,t.dp⟩
  ·rw[bZ e];exact⟨_,rfl,by show c.B=((if x.bw c.A.toNat=0 then x.J+1 else c.B.toNat:Nat):Int);rw[bZ e];omega,t.rg,t.sg,t.kd,t.Yv,t.dp⟩
 ·simp[k]at h
 ·exact absurd k h6
 ·simp[k,tM]at a1 h;rw[eu,eu,eu,aM k,aM ⟨I,I⟩,aM ⟨I,I⟩,sg _ I];subst h;exact⟨_,rfl,up _ _⟩
 ·simp[k,tM]at a1 h;rw[eu,eu,eu,eu,aM k,aM ⟨by rw[t.Yv];exact hme,by rw[t.Yv];exact hm⟩,aM ⟨I,I⟩,show(GX.J S.bI T.Me.toNat).E6=pd by rw[t.Yv];exact hp];subst h;exact⟨_,rfl,up _ _⟩
 ·simp[k]at h
theorem Vh{args:List Int}(hn:args.length<=16):∀(e k g:Nat) (l:List Int),g+e=args.length->e<k->(∀r,r<16->GX.J l r=if r<g then GX.J args r else 0)->
 ∃l',ij K args k l (g:Int)=some l'/\∀r,r<16->GX.J l' r=if r<args.length then GX.J args r else 0
 | e,k,g,l,he,hk,hl=>by
  obtain⟨k,rfl⟩ :∃n,k=n+1:=⟨k-1,I⟩;rw[ij];by_cases hg:g<args.length
  ·obtain⟨e,rfl⟩ :∃n,e=n+1:=⟨e-1,I⟩;rw[sR,aM ⟨I,I⟩,aM ⟨I,I⟩,cL,D5 I];exact Vh hn e k (g+1) _ I I (λr hr=>by
    rw[EV hr,hl r hr];by_cases e:r=g
    ·subst e;rw[aM rfl,sR]
    ·rw[bZ e];by_cases e':r<g
     ·rw[aM e',sR]
     ·rw[bZ e',eu])
  ·rw[eu];have:g=args.length:=by omega
   subst this;exact⟨l,rfl,hl⟩
theorem Vi{nd:fg}{T:dN}{x:Am.TS}{B C n g0:Nat}(hgf:nd.Func=(g0:Int))(hB:(GX.J (GX.J p.ah g0).ai T.At.toNat).B=(B:Int))(hBl:B<p.ah.length)(hC:n=0∨(GX.J (GX.J p.ah g0).ai T.At.toNat).C=(C:Int))(hP:(GX.J p.ah B).aS=(n:Int))(h16:n=0∨C+n<=16)(hn:n<=16)(hr:∀r,r<16->GX.J T.sw r=x.bw r) :
 ∀(e k g:Nat) (l:List Int),g+e=n->e<k->l.length=g->(∀r,r<g->GX.J l r=x.bw (C+r))->
 ∃l',ik K p.ah nd T k l (g:Int)=some l'/\l'.length=n/\∀r,r<n->GX.J l' r=x.bw (C+r)
 | e,k,g,l,he,hk,hl,hh=>by
  obtain⟨k,rfl⟩ :∃n,k=n+1:=⟨k-1,I⟩;rw[ik,hgf,cL,hB,aM ⟨I,I⟩,cL,hP];by_cases hg:g<n
  ·obtain⟨e,rfl⟩ :∃n,e=n+1:=⟨e-1,I⟩;have hC':(GX.J (GX.J p.ah g0).ai T.At.toNat).C=(C:Int):=by rcases hC with h | h;omega;exact h
   have afF:C+n<=16:=by rcases h16 with h | h;omega;exact h
   have ew:wi ((C:Int)+(g:Int))=((C+g:Nat):Int):=by rw[eO I];omega
   rw[sR,hC',ew,aM ⟨I,I⟩,sR,cL,hr _ I,D5 I];exact Vi hgf hB hBl hC hP h16 hn hr e k (g+1) _ I I (by simp[hl]) (λr Hj=>by
    by_cases e:r=g
    ·subst e;have:GX.J (l++[x.bw (C+r)]) r=x.bw (C+r):=by
      unfold GX.J;rw[List.getD_eq_getElem?_getD,List.getElem?_append_right I,hl,Nat.sub_self];rfl
     exact this
    ·have:GX.J (l++[x.bw (C+g)]) r=GX.J l r:=by
      unfold GX.J;rw[List.getD_eq_getElem?_getD,List.getD_eq_getElem?_getD,List.getElem?_append_left I]
     rw[this];exact hh r I)
  ·rw[eu];exact⟨l,rfl,I,λr Hj=>hh r I⟩
structure SO(S S':bB)(n t:Nat):Prop where
 er:S'.wQ=0
 lf:S'.Left=S.Left-n
 nn:S'.bI.length=S.bI.length+t
 pd:∀i,i<S.bI.length->(GX.J S'.bI i).E6=(GX.J S.bI i).E6
structure Vj(S:bB)(n:Nat):Prop where
 er:S.wQ=0
 lf:(n:Int)<=S.Left
 l2:S.Left<=4194304
 nn:(S.bI.length:Int)+S.Left<=9000000
def zX(S:bB)(me:Nat):bB:={S with Left:=wi (S.Left-1),bI:=S.bI.set me ({GX.J S.bI me with j0:=wi ((GX.J S.bI me).j0+1)})}
theorem Vk{S:bB}{me n:Nat}(h:Vj S (n+1))(hm:me<S.bI.length):SO S (zX S me) 1 0/\Vj (zX S me) n/\(zX S me).bI.length=S.bI.length:=by
 have e1:=h.lf;have e2:=h.l2;have e3:=h.nn;have el:(zX S me).Left=S.Left-1:=eO I;have en:(zX S me).bI.length=S.bI.length:=by show(S.bI.set _ _).length=_;rw[gV]
 refine⟨⟨h.er,by rw[el];rfl,by rw[en];rfl,λi hi => ?_⟩,⟨h.er,by rw[el];omega,by rw[el];omega,by rw[el,en];omega⟩,en⟩;show(GX.J (S.bI.set me _) i).E6=_;rw[qU hm];split
 ·next e=>subst e;rfl
 ·rfl
theorem SO.trans{S S' S'':bB}{n t n' t':Nat}(a:SO S S' n t)(b:SO S' S'' n' t'):SO S S'' (n+n') (t+t'):=
 ⟨b.er,by rw[b.lf,a.lf];omega,by rw[b.nn,a.nn];omega,λi hi=>by rw[b.pd i (by rw[a.nn];omega),a.pd i hi]⟩
theorem Vj.mono{S:bB}{n k:Nat}(h:Vj S n)(hk:k<=n):Vj S k:=⟨h.er,by have:=h.lf;omega,h.l2,h.nn⟩
theorem SO.sg{S S':bB}{n t k:Nat}(o:SO S S' n t)(h:Vj S (n+k))(ht:t<=n):Vj S' k:=by
 have e1:=h.lf;have e2:=h.l2;have e3:=h.nn;exact⟨o.er,by rw[o.lf];omega,by rw[o.lf];omega,by rw[o.lf,o.nn];omega⟩
theorem PJ{C:Am.jt}{g:Nat}{pd:Int}{d:Nat}{x y:Am.TS}{n t:Nat}(h:Am.Pre C g pd d x y n t):t<=n/\y.bt<=x.bt+n:=by
 induction h with
 | nil=>exact⟨ja _,ja _⟩
 | Bh h e ih =>
  refine⟨I,?_⟩;rename_i y z _ _;have:z.bt=y.bt:=by
   unfold Am.Bh at e;split at e<;>first | (cases e;rfl) | cases e
  omega
 | spawn h e hd h1 e1 ih Tz=>exact⟨I,by show _+1<=_;omega⟩
end
section
variable {K:Nat}{p:aH}{N F f m:Nat}
theorem Vl(hv:Valid p)(IV:X2 p){g:Nat}(hg:g<p.ah.length){x:Am.TS}{pd:Int}(hx:x.J<(GX.J p.ah g).ai.length)(h5:¬(GX.J (GX.J p.ah g).ai x.J).aP=5)(h9:¬(GX.J (GX.J p.ah g).ai x.J).aP=9) :∃y,Am.Bh (cfg p N F f m) g pd x=some y:=by
 obtain⟨a1,a2,a3,a4,a5,kk,a7⟩:=CE hv IV hg hx;show∃y,(match mU (GX.J (GX.J p.ah g).ai x.J)with
  | .const a k=>some {x with J:=x.J+1,bw:=Am.bJ x.bw a k}
  | .move a b=>some {x with J:=x.J+1,bw:=Am.bJ x.bw a (x.bw b)}
  | .arith op a b c=>some {x with J:=x.J+1,bw:=Am.bJ x.bw a (Ut op (x.bw b) (x.bw c))}
  | .jump a=>some {x with J:=a}
  | .branch a b=>some {x with J:=if x.bw a≠0 then b else x.J+1}
  | .k8 a=>some {x with J:=x.J+1,bw:=Am.bJ x.bw a pd}
  | .load a s=>some {x with J:=x.J+1,bw:=Am.bJ x.bw a (x.sl s)}
  | .sync=>some {x with J:=x.J+1}
  | .spawn _ _ _=>none
  | .ret _=>none)=some y
 unfold mU;rcases kk with k | k | k | k | k | k | k | k | k | k<;>first | exact absurd k h5 | exact absurd k h9 | exact⟨_,by simp[k];rfl⟩
theorem Q4{nd:fg}{R:bB->List aD->fg->List Int->Int->Option (Int×Int×bB)}{k:Nat}{S:bB}{T:dN}(h:¬S.wQ=0)(hk:0<k){P:Int->bB->Prop} :∃v c S',eI K p.ah nd R k S T=some (v,c,S')/\(S'.wQ=0->P v S'):=by
 obtain⟨k,rfl⟩ :∃m,k=m+1:=⟨k-1,I⟩;rw[eI,bZ h];exact⟨_,_,_,rfl,λe=>absurd e h⟩
def SC(p:aH)(N F f m g:Nat)(pd:Int)(d:Nat)(x0:Am.TS)(n0 t0:Nat)(S:bB)(v:Int)(S':bB):Prop:=∃z a n t,Am.Pre (cfg p N F f m) g pd d x0 z (n0+n) (t0+t)/\mU (GX.J (GX.J p.ah g).ai z.J)= .ret a/\v=z.bw a/\uu (z.bw a)/\S'.Left=S.Left-((n+1:Nat):Int)/\((n+1:Nat):Int)<=S.Left/\S'.bI.length=S.bI.length+t/\∀i,i<S.bI.length->(GX.J S'.bI i).E6=(GX.J S.bI i).E6
def acX(K:Nat)(p:aH)(N F f m D:Nat):Prop:=
 ∀(g:Nat) (pd:Int) (d:Nat) (a0:Nat->Int) (nd:fg) (S:bB) (args:List Int),g<p.ah.length->nd.Func=(g:Int)->nd.E6=pd->uu pd->args.length<=16->(∀r,r<16->(if r<args.length then GX.J args r else 0)=a0 r)->(∀r,r<16->uu (a0 r))->
   Vj S 0->(S.bI.length:Int)+1+S.Left<=9000000->d<=4096->4096<d+D->∃v JL S',fM K D S p.ah nd args (d:Int)=some (v,JL,S')/\(S'.wQ=0->∃z a n t,Am.Pre (cfg p N F f m) g pd d (Am.XB a0) z n t/\mU (GX.J (GX.J p.ah g).ai z.J)= .ret a/\v=z.bw a/\uu (z.bw a)/\S'.Left=S.Left-((n+1:Nat):Int)/\((n+1:Nat):Int)<=S.Left/\S'.bI.length=S.bI.length+(t+1)/\∀i,i<S.bI.length->(GX.J S'.bI i).E6=(GX.J S.bI i).E6)
theorem Vm(hv:Valid p)(IV:X2 p)(hK:4200000<K){D:Nat}(hT:acX K p N F f m D){g:Nat}{pd:Int}{d me:Nat}{nd:fg}{x0:Am.TS}(hg:g<p.ah.length)(hf:nd.Func=(g:Int))(hp:uu pd)(hd:d<=4096)(hdD:4096<d+(D+1))(hx0:x0.bt=0) :
 ∀(k:Nat) (S:bB) (T:dN) (x:Am.TS) (n0 t0:Nat),Am.Pre (cfg p N F f m) g pd d x0 x n0 t0->x.J<(GX.J p.ah g).ai.length->SIn x->TR x (d:Int) (me:Int) T->Vj S 0->(n0:Int)+S.Left<=4194304->me<S.bI.length->(GX.J S.bI me).E6=pd->S.Left+1<(k:Int)->
 ∃v JL S',eI K p.ah nd (fM K D) k S T=some (v,JL,S')/\(S'.wQ=0->SC p N F f m g pd d x0 n0 t0 S v S')
 | 0,_,_,_,_,_,_,_,_,_,afV,_,_,_,hk=>by have:=afV.lf;omega
 | k+1,S,T,x,n0,t0,P,hx,hi,tr,afV,hb,hm,hpd,hk=>by
  have ih:=Vm (me:=me) (nd:=nd) hv IV hK hT hg hf hp hd hdD hx0 k;have afl:=(hv.GO g hg).Jc;have afG:=(PJ P).2;obtain⟨a1,a2,a3,a4,a5,kk,a7⟩:=CE hv IV hg hx;have g1:=afV.lf;obtain⟨Me,iN,sw,nq,At,dZ,End,Kids⟩:=T;have q1:At=(x.J:Int):=tr.pt;have q2:Me=((me:Nat):Int):=tr.Yv;have q3:iN=(d:Int):=tr.dp;have q4:Kids=(x.bt:Int):=tr.kd;subst q1 q2 q3 q4;rw[eI,aM afV.er,hf];simp only[cL];by_cases hl:S.Left=0
  ·rw[aM hl];exact⟨_,_,_,rfl,λe=>absurd e (by show ¬(62:Int)=0;decide)⟩
  rw[bZ hl,aM ⟨I,I⟩,aM ⟨I,I⟩,aM ⟨I,I⟩];have G1:Vj S (0+1):=⟨afV.er,I,afV.l2,afV.nn⟩;obtain⟨w1,w2,w3⟩:=Vk G1 hm;have hp1:(GX.J (zX S me).bI me).E6=pd:=by rw[w1.pd me hm,hpd]
  have wl:(zX S me).Left=S.Left-1:=eO (by have:=afV.l2;omega);have more:∀(y:Am.TS) (T':dN),Am.Bh (cfg p N F f m) g pd x=some y->TR y (d:Int) (me:Int) T'->∃v JL S',eI K p.ah nd (fM K D) k (zX S me) T'=some (v,JL,S')/\(S'.wQ=0->SC p N F f m g pd d x0 n0 t0 S v S'):=λy T' hs ht=>by
   obtain⟨c1,c2⟩:=aan hv IV hg hx hs hi hp;obtain⟨v,JL,S',q,hq⟩:=ih (zX S me) T' y (n0+1) t0 (Am.Pre.Bh P hs) c1 c2 ht w2 (by rw[wl];omega) I hp1 (by rw[wl];omega);refine⟨v,JL,S',q,λhe => ?_⟩;obtain⟨z,a,n,t,b1,b2,b3,b4,b5,b6,b7,b8⟩:=hq he;exact⟨z,a,n+1,t,by rw[show n0+(n+1)=n0+1+n by omega];exact b1,b2,b3,b4,by rw[b5,wl];omega,by rw[wl]at b6;omega,by rw[b7,w3],λi hi=>by rw[b8 i I,w1.pd i hi]⟩
  by_cases k5:(GX.J (GX.J p.ah g).ai x.J).aP=5
  ·rw[aM k5];by_cases hd':(d:Int)>=4096
   ·rw[aM hd'];exact Q4 (by show ¬(63:Int)=0;decide) I
   ·rw[bZ hd'];have hin:mU (GX.J (GX.J p.ah g).ai x.J)= .spawn (GX.J (GX.J p.ah g).ai x.J).A.toNat (GX.J (GX.J p.ah g).ai x.J).B.toNat (GX.J (GX.J p.ah g).ai x.J).C.toNat:=by
     unfold mU;simp[k5]
    unfold nl at a1;unfold vY at a2;simp[k5,tM]at a1 a2;obtain⟨⟨B0,B1⟩,a2⟩:=a2;have hsf:=hv.GO (GX.J (GX.J p.ah g).ai x.J).B.toNat I;obtain⟨Q,hQ⟩ :∃Q:Nat,(GX.J p.ah (GX.J (GX.J p.ah g).ai x.J).B.toNat).aS=(Q:Int):=⟨(GX.J p.ah (GX.J (GX.J p.ah g).ai x.J).B.toNat).aS.toNat,by have:=hsf.O;omega⟩;have hQ8:=hsf.p8;rw[hQ]at a2;obtain⟨l,l1,l2,l3⟩:=Vi (K:=K) (p:=p) (nd:=nd) (T:=⟨(me:Int),(d:Int),sw,nq,(x.J:Int),dZ,End,(x.bt:Int)⟩) (x:=x) (B:=(GX.J (GX.J p.ah g).ai x.J).B.toNat) (C:=(GX.J (GX.J p.ah g).ai x.J).C.toNat) (n:=Q) hf (by show(GX.J (GX.J p.ah g).ai ((x.J:Int)).toNat).B=_;rw[cL];omega) I (by show _∨(GX.J (GX.J p.ah g).ai ((x.J:Int)).toNat).C=_;rw[cL];omega) hQ I I tr.rg Q K 0 [] I I rfl (λr hr=>I);have l1:ik K p.ah nd ⟨(me:Int),(d:Int),sw,nq,(x.J:Int),dZ,End,(x.bt:Int)⟩ K [] 0=some l:=l1;have LD:(cfg p N F f m).params (GX.J (GX.J p.ah g).ai x.J).B.toNat=Q:=by show(GX.J p.ah _).aS.toNat=Q;omega
    have aeX:∀r,r<16->(if r<l.length then GX.J l r else 0)=Am.arg (cfg p N F f m) x.bw (GX.J (GX.J p.ah g).ai x.J).B.toNat (GX.J (GX.J p.ah g).ai x.J).C.toNat r:=λr hr=>by
     unfold Am.arg;rw[LD,l2];split
     ·next hh=>rw[l3 r hh]
     ·rfl
    have aeY:∀r,r<16->uu (Am.arg (cfg p N F f m) x.bw (GX.J (GX.J p.ah g).ai x.J).B.toNat (GX.J (GX.J p.ah g).ai x.J).C.toNat r):=λr hr=>by
     unfold Am.arg;rw[LD];split
     ·exact hi.r _ I
     ·unfold uu;omega
    rw[l1,aq,aM ⟨I,by rw[gV];omega⟩];have hp2:uA (GX.J (S.bI.set me ({GX.J S.bI me with j0:=wi ((GX.J S.bI me).j0+1)})) me).E6 (x.bt:Int)=some ((cfg p N F f m).pd pd x.bt):=by
     have:(GX.J (S.bI.set me ({GX.J S.bI me with j0:=wi ((GX.J S.bI me).j0+1)})) me).E6=pd:=hp1;rw[this];rfl
    rw[hp2,aq,D5 I];obtain⟨r1,r2,S3,hr,hsn⟩:=hT (GX.J (GX.J p.ah g).ai x.J).B.toNat ((cfg p N F f m).pd pd x.bt) (d+1) _ (⟨(me:Int),(x.bt:Int),(GX.J (GX.J p.ah g).ai x.J).B,0,(cfg p N F f m).pd pd x.bt,0,0⟩:fg) (zX S me) l I (by show(GX.J (GX.J p.ah g).ai x.J).B=_;omega) rfl (Gy _) I aeX aeY w2 (by rw[wl,w3];have:=afV.nn;omega) I I;have fin:∀abx:Int->Int->bB->Option (Int×Int×bB),(∃v JL S',abx r1 r2 S3=some (v,JL,S')/\(S'.wQ=0->SC p N F f m g pd d x0 n0 t0 S v S'))->∃v JL S',ql (fM K D (zX S me) p.ah (⟨(me:Int),(x.bt:Int),(GX.J (GX.J p.ah g).ai x.J).B,0,(cfg p N F f m).pd pd x.bt,0,0⟩:fg) l ((d+1:Nat):Int)) abx=some (v,JL,S')/\(S'.wQ=0->SC p N F f m g pd d x0 n0 t0 S v S'):=λabx h=>by rw[hr,dc];exact h
    refine fin _ ?_;rw[aM ⟨I,I⟩];by_cases h3:S3.wQ=0
    ·obtain⟨z1,a9,n1,t1,Y,p2,p3,p4,p5,p6,p7,p8⟩:=hsn h3;have htn:=(PJ Y).1;rw[wl]at p5 p6;have P':=Am.Pre.spawn P (show(cfg p N F f m).code g x.J=_ from hin) I Y p2;obtain⟨v,JL,S',q,hq⟩:=ih S3 ⟨(me:Int),(d:Int),sw,mB 8 nq (GX.J (GX.J p.ah g).ai x.J).A.toNat r1,wi ((x.J:Int)+1),wi (dZ+1),(if(wi ((wi (dZ+1))+r2))>End then(wi ((wi (dZ+1))+r2))else End),wi ((x.bt:Int)+1)⟩ _ _ _ P' (by show x.J+1<_;exact a7 I I) ⟨hi.r,λs' hs'=>by
      show uu (Am.bJ x.sl _ (z1.bw a9) s');rw[Am.cA];split
      ·exact p4
      ·exact hi.s s' hs'⟩ ⟨D5 I,tr.rg,λs' hs'=>by
      show GX.J (mB 8 nq _ _) s'=Am.bJ x.sl _ (z1.bw a9) s';rw[EV hs',Am.cA,p3,tr.sg s' hs'],D5 I,rfl,rfl⟩ ⟨h3,I,by have:=afV.l2;omega,by rw[p7,w3];have:=afV.nn;omega⟩ I (by rw[p7];omega) (by rw[p8 me I,hp1]) I
     refine⟨v,JL,S',q,λhe => ?_⟩;obtain⟨z,a,n,t,b1,b2,b3,b4,b5,b6,b7,b8⟩:=hq he;exact⟨z,a,1+(n1+1)+n,t1+1+t,by rw[show n0+(1+(n1+1)+n)=n0+1+(n1+1)+n by omega,show t0+(t1+1+t)=t0+(t1+1)+t by omega];exact b1,b2,b3,b4,by rw[b5,p5];omega,I,by rw[b7,p7,w3];omega,λi hi'=>by rw[b8 i I,p8 i I,w1.pd i hi']⟩
    ·exact Q4 h3 I
  ·rw[bZ k5];by_cases k6:(GX.J (GX.J p.ah g).ai x.J).aP=6
   ·rw[aM k6];refine more {x with J:=x.J+1} ⟨(me:Int),(d:Int),sw,nq,wi ((x.J:Int)+1),wi ((if End>dZ then End else dZ)+1),0,(x.bt:Int)⟩ ?_ ⟨D5 I,tr.rg,tr.sg,tr.kd,rfl,tr.dp⟩;show(match mU (GX.J (GX.J p.ah g).ai x.J)with
     | .const a k=>some {x with J:=x.J+1,bw:=Am.bJ x.bw a k}
     | .move a b=>some {x with J:=x.J+1,bw:=Am.bJ x.bw a (x.bw b)}
     | .arith op a b c=>some {x with J:=x.J+1,bw:=Am.bJ x.bw a (Ut op (x.bw b) (x.bw c))}
     | .jump a=>some {x with J:=a}
     | .branch a b=>some {x with J:=if x.bw a≠0 then b else x.J+1}
     | .k8 a=>some {x with J:=x.J+1,bw:=Am.bJ x.bw a pd}
     | .load a s=>some {x with J:=x.J+1,bw:=Am.bJ x.bw a (x.sl s)}
     | .sync=>some {x with J:=x.J+1}
     | .spawn _ _ _=>none
     | .ret _=>none)=_
    unfold mU;simp[k6]
   ·rw[bZ k6];by_cases k9:(GX.J (GX.J p.ah g).ai x.J).aP=9
    ·have hA:0<=(GX.J (GX.J p.ah g).ai x.J).A/\(GX.J (GX.J p.ah g).ai x.J).A<16:=by
      unfold nl at a1;simp[k9,tM]at a1;omega
     rw[aM k9,aM ⟨hA.1,I⟩,aM ⟨I,by rw[gV];omega⟩];have e1:=tr.rg (GX.J (GX.J p.ah g).ai x.J).A.toNat I;have e1:GX.J sw (GX.J (GX.J p.ah g).ai x.J).A.toNat=x.bw (GX.J (GX.J p.ah g).ai x.J).A.toNat:=e1;refine⟨_,_,_,rfl,λ_=>⟨x,(GX.J (GX.J p.ah g).ai x.J).A.toNat,0,0,P,by unfold mU;simp[k9],e1,hi.r _ I,?_,I,?_,λi hi' => ?_⟩⟩
     ·show wi (S.Left-1)=_;rw[eO (by have:=afV.l2;omega)];omega
     ·show((S.bI.set _ _).set _ _).length=_;rw[gV,gV];rfl
     ·show(GX.J ((S.bI.set _ _).set _ _) i).E6=_;rw[qU (by rw[gV];omega)];split
      ·next e=>subst e;rfl
      ·rw[qU I];split
       ·next e=>subst e;rfl
       ·rfl
    ·rw[bZ k9];obtain⟨y,hs⟩:=Vl (N:=N) (F:=F) (f:=f) (m:=m) (pd:=pd) hv IV hg hx k5 k9;obtain⟨T',Y,p2⟩:=Vg (T:=⟨(me:Int),(d:Int),sw,nq,wi ((x.J:Int)+1),wi (dZ+1),End,(x.bt:Int)⟩) (S:=zX S me) (me:=(me:Int)) (d:=(d:Int)) (K:=K) hv IV I hg hx hs k6 ⟨D5 I,tr.rg,tr.sg,tr.kd,rfl,tr.dp⟩ hi I I (by rw[cL];exact hp1);have fin:∀abx:dN->Option (Int×Int×bB),(∃v JL S',abx T'=some (v,JL,S')/\(S'.wQ=0->SC p N F f m g pd d x0 n0 t0 S v S'))->∃v JL S',eA (lP K (zX S me) p.ah ⟨(me:Int),(d:Int),sw,nq,wi ((x.J:Int)+1),wi (dZ+1),End,(x.bt:Int)⟩ (GX.J (GX.J p.ah g).ai x.J)) abx=some (v,JL,S')/\(S'.wQ=0->SC p N F f m g pd d x0 n0 t0 S v S'):=λabx h=>by rw[Y,aq];exact h
     exact fin _ (more y T' hs p2)
theorem Q5(hv:Valid p)(IV:X2 p)(hK:4200000<K):∀D,acX K p N F f m D
 | 0=>λg pd d a0 nd S args _ _ _ _ _ _ _ _ _ hd h0=>by omega
 | D+1=>λg pd d a0 nd S args hg hf hpd hs ha hr h0 afV XO hd hD=>by
  have g1:=afV.lf;have g2:=afV.l2;have g3:=afV.nn;obtain⟨l,Ht,F7⟩:=Vh (K:=K) ha args.length K 0 (List.replicate 16 (0:Int)) I I (λr hr=>by
   rw[eu];unfold GX.J;rw[List.getD_eq_getElem?_getD,List.getElem?_replicate];split<;>rfl)
  have YB:=(hv.GO g hg).c1;rw[fM]
  dsimp only
  have Ht:ij K args K (List.replicate 16 (0:Int)) 0=some l:=Ht;rw[Ht,aq,aM ⟨I,I⟩];have aeZ :∃v,(if((args.length:Nat):Int)=0 then some 0 else some (GX.J l 0))=some v:=by split<;>exact⟨_,rfl⟩
  obtain⟨v0,hv0⟩:=aeZ;rw[hv0,aq,sR];generalize hS1:({S with bI:=S.bI++[{nd with Arg:=v0}],Deep:=if(d:Int)>S.Deep then(d:Int)else S.Deep}:bB)=S1;have n1:S1.bI=S.bI++[{nd with Arg:=v0}]:=by rw[<-hS1]
  have n1l:S1.bI.length=S.bI.length+1:=by rw[n1,kQ];rfl
  have n1f:S1.Left=S.Left:=by rw[<-hS1]
  have n1e:S1.wQ=0:=by rw[<-hS1];exact afV.er
  have n1p:∀i,i<S.bI.length->GX.J S1.bI i=GX.J S.bI i:=λi hi=>by
   rw[n1];unfold GX.J;rw[List.getD_eq_getElem?_getD,List.getD_eq_getElem?_getD,List.getElem?_append_left hi]
  have n1q:(GX.J S1.bI S.bI.length).E6=pd:=by
   rw[n1];unfold GX.J;rw[List.getD_eq_getElem?_getD,List.getElem?_append_right I,Nat.sub_self];exact hpd
  obtain⟨v,JL,S',q,hq⟩:=Vm hv IV hK (Q5 hv IV hK D) (me:=S.bI.length) (x0:=Am.XB a0) hg hf hs hd hD rfl K S1 (⟨((S.bI.length:Nat):Int),(d:Int),l,List.replicate 8 (0:Int),0,0,0,0⟩:dN) (Am.XB a0) 0 0 (Am.Pre.nil _ _ _ _) (by show 0<_;omega)
   ⟨λr hr=>h0 r hr,λs _=>by show uu 0;unfold uu;omega⟩ ⟨rfl,λr Hj=>by rw[F7 r Hj,hr r Hj];rfl,λs hs=>by
    show GX.J (List.replicate 8 (0:Int)) s=0;unfold GX.J;rw[List.getD_eq_getElem?_getD,List.getElem?_replicate];split<;>rfl,rfl,rfl,rfl⟩ ⟨n1e,by rw[n1f];omega,by rw[n1f];exact g2,by rw[n1f,n1l];omega⟩ (by rw[n1f];omega) I n1q (by rw[n1f];omega)
  refine⟨v,JL,S',q,λhe => ?_⟩;obtain⟨z,a,n,t,b1,b2,b3,b4,b5,b6,b7,b8⟩:=hq he;rw[Dv,Dv]at b1;exact⟨z,a,n,t,b1,b2,b3,b4,by rw[b5,n1f],by rw[<-n1f];exact b6,by rw[b7,n1l];omega,λi hi=>by rw[b8 i I,n1p i hi]⟩
end
section
theorem XC{α:Type}[Inhabited α]{l:List α}{i:Nat}(h:i<l.length):J l i=l[i]:=by
 unfold J;rw[List.getD_eq_getElem?_getD,List.getElem?_eq_getElem h];rfl
theorem XD{p:aH}{N F f m:Nat}(hv:Valid p) :∃φ:Am.NQ (cfg p N F f m),True:=by
 have kd:∀g a,g<p.ah.length->a<(J p.ah g).ai.length->(J (J p.ah g).ai a).aP=0∨(J (J p.ah g).ai a).aP=1∨(J (J p.ah g).ai a).aP=2∨(J (J p.ah g).ai a).aP=3∨(J (J p.ah g).ai a).aP=4∨(J (J p.ah g).ai a).aP=5∨(J (J p.ah g).ai a).aP=6∨(J (J p.ah g).ai a).aP=7∨(J (J p.ah g).ai a).aP=8∨(J (J p.ah g).ai a).aP=9:=λg a hg ha=>by
  have hk:=(Code.snd (hv.GO g hg) (hv.code g hg)).kind (a:Int) I I;rw[cL]at hk;omega
 have al:∀g a,g<p.ah.length->a<(J p.ah g).ai.length->nl (J p.ah g) (J (J p.ah g).ai a)=true:=λg a hg ha=>((hv.code g hg).ins a ha).1;refine⟨⟨λg=>(J p.ah g).bP.toNat,λg a c st=>((a:Int),(st:Int))∈reach (J p.ah g) (c:Int),?_,?_,?_,?_,?_⟩,bU⟩
 ·intro g hg c hc;exact(Ic (Code.snd (hv.GO g hg) (hv.code g hg)) (c:Int)).2.2
 ·intro g a c st hg ha hc hR n hn;change g<p.ah.length at hg;change a<(J p.ah g).ai.length at ha;change c<(J p.ah g).bP.toNat at hc;obtain⟨ok,cl,_⟩:=Ic (Code.snd (hv.GO g hg) (hv.code g hg)) (c:Int);obtain⟨j,hj,e⟩:=List.getElem_of_mem hR;have ej:J (reach (J p.ah g) (c:Int)) j=((a:Int),(st:Int)):=(XC hj).trans e;have:=cl j hj hj;rw[ej]at this;have hst:(Am.PE (mU (J (J p.ah g).ai a)) c st:Int)=OG (J p.ah g) c a st/\(∀n∈Am.DZ (cfg p N F f m) g a,(n:Int)∈nx (J p.ah g) a):=by
   have a1:=al g a hg ha;unfold OG nx Am.DZ;show(Am.PE (mU (J (J p.ah g).ai a)) c st:Int)=_/\∀n∈(match mU (J (J p.ah g).ai a)with | .jump t=>[t] | .branch _ t=>[a+1,t] | .ret _=>[] | _=>[a+1]),_;rw[cL];have hk:=kd g a hg ha;unfold nl at a1;generalize J (J p.ah g).ai a=x at *;unfold mU;rcases hk with k | k | k | k | k | k | k | k | k | k<;>simp[k,tM,Am.PE]at a1⊢
   ·omega
   ·omega
   ·obtain⟨a1,a2⟩:=a1;have e:x.A.toNat=c↔x.A=(c:Int):=by omega
    by_cases h:x.A=(c:Int)
    ·rw[aM (e.2 h),aM h];rfl
    ·rw[bZ (λh'=>h (e.1 h')),bZ h]
   ·by_cases h:st=2
    ·rw[aM h,sR];rfl
    ·rw[bZ h,eu]
  rw[<-hst.1]at this;exact this n (hst.2 n hn)
 ·intro g a s f' c hg ha hc;change g<p.ah.length at hg;change a<(J p.ah g).ai.length at ha;have hc:mU (J (J p.ah g).ai a)= .spawn s f' c:=hc;have a1:=al g a hg ha;have so:=(hv.slot g hg a ha).1;have hk:=kd g a hg ha;unfold nl at a1;generalize J (J p.ah g).ai a=x at *;unfold mU at hc;rcases hk with k | k | k | k | k | k | k | k | k | k<;>simp[k]at hc
  simp[k,tM]at a1;have so:=so k;have e:x.A=(s:Int):=by omega
  rw[e]at so;exact⟨by show s<(J p.ah g).bP.toNat;omega,so⟩
 ·intro g a x0 s hg ha hc;change g<p.ah.length at hg;change a<(J p.ah g).ai.length at ha;have hc:mU (J (J p.ah g).ai a)= .load x0 s:=hc;have a1:=al g a hg ha;have so:=(hv.slot g hg a ha).2.1;have hk:=kd g a hg ha;unfold nl at a1;generalize J (J p.ah g).ai a=x at *;unfold mU at hc;rcases hk with k | k | k | k | k | k | k | k | k | k<;>simp[k]at hc
  simp[k,tM]at a1;have so:=so k;have e:x.B=(s:Int):=by omega
  rw[e]at so;exact⟨by show s<(J p.ah g).bP.toNat;omega,so.1,so.2⟩
 ·intro g a x0 hg ha hc c EE;change g<p.ah.length at hg;change a<(J p.ah g).ai.length at ha;have hc:mU (J (J p.ah g).ai a)= .ret x0:=hc;have so:=(hv.slot g hg a ha).2.2;have hk:=kd g a hg ha;generalize J (J p.ah g).ai a=x at *;unfold mU at hc;rcases hk with k | k | k | k | k | k | k | k | k | k<;>simp[k]at hc
  exact so k c EE
end
end Mo
end
end Go.Proofs.YtaiffafelihaaaaGreatDoor
