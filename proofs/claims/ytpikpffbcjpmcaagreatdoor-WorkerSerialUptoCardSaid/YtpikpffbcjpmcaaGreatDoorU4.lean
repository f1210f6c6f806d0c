/- plunderlaw11.WorkerSerial answers true for every input of the bulk that the statement names, and leaves its input alone. Conditions: none. -/
import Derived.Test.YtpikpffbcjpmcaaGreatDoorU3
set_option linter.unusedVariables false
set_option linter.unusedSimpArgs false
set_option linter.unusedSectionVars false
set_option maxRecDepth 100000
set_option maxHeartbeats 4000000
set_option autoImplicit true
set_option relaxedAutoImplicit true
namespace Go.Proofs.YtpikpffbcjpmcaaGreatDoor
open Proofs.Tryz
section
namespace Mo
open Go SL GX
abbrev E0:aq:=⟨0,0,0,0,0,0⟩
section
variable {K:Nat}{C:Am.kY}{p:aE}{s:Am.St}{S:ag}{M M':af}{sz n i f:Nat}{D:aT}{d:Int}{T:List aY}{a:bH}
theorem jN.X8{o:Am.Out}{q:Am.Pc}{x:Int}{l:Bool}{r:Option (aq×ag×af)}(b:xJ C p s S M sz n)(hi:i<C.N)(hr:r=some (Dm o.ev,{gP (lB S T) i a with value:=x,left:=l},M'))
 (HO:a.bz=i) (hfr:a.ay=fi (o.s.hold i)) (hq:o.s.pc=Am.cI s.pc i q) (hph:ph C i q (o.s.gu i) (o.s.cur i) o.s.base a) (har:AR C o.s M' sz (n+1)) (Py:Lg C o.s M M' o.acc) (Q6:Vr o.ev)
 (hT:T.length=C.F) (htk:∀g,g<o.s.nf->Ss (o.s.fr g) g (GX.J T g)) (hl:l=o.s.val.isSome) (hx:x=o.s.val.getD 0)
 (hh:∀j,j≠i->o.s.hold j=s.hold j:=by intros;rfl) (Su:o.s.gu=s.gu:=by rfl) (hc:o.s.cur=s.cur:=by rfl) (hb:o.s.base=s.base:=by rfl):jN C p sz n M o r:=by
 refine⟨_,_,hr,?_,har,Py,Q6⟩;have h:=b.ku;have hwl:=h.wl;refine⟨h.code,h.res,h.tb,h.tf,h.lb,h.lw,h.dl,h.dq,hT,htk,by show(gP (lB S T) i a).aj.length=_;rw[j5];exact h.wl,λj hj => ?_,hl,hx⟩;show aOK C o.s j (GX.J (S.aj.set i a) j);by_cases e:j=i
 ·subst e;rw[rf I,aP rfl];exact⟨HO,hfr,by rw[hq,Am.aU];exact hph⟩
 ·rw[rf I,cu e];obtain⟨w1,w2,w3⟩:=h.wk j hj;have ep:o.s.pc j=s.pc j:=by rw[hq];exact Am.aM e
  exact⟨w1,by rw[hh j e];exact w2,by rw[ep,Su,hc,hb];exact w3⟩
theorem Eg(b:xJ C p s S M sz n)(hf:f<s.nf){t:aY}{y:Am.Fr}(ht:Ss y f t):∀g,g<s.nf->Ss (Am.cI s.fr f y g) g (GX.J (S.aK.set f t) g):=λg hg=>by
 have hl:=b.ku.tl;have hn:s.nf<=C.F:=b.fi.yj;rw[rf I,Am.cS];by_cases e:g=f
 ·subst e;rw[aP rfl,aP rfl];exact ht
 ·rw[cu e,cu e];exact b.ku.tk g hg
def xx(S:ag)(M:af)(i:Nat)(D:aT)(f:Nat)(ci:ct)(t:aY):Option (aq×ag×af):=
 let fr:Int:=f
 if ci.aN=0 then if bI ci.A 16 then some (E0,lB S ((S.aK.set f t).set f ({t with bD:=mN 16 t.bD ci.A.toNat ci.K})),M)else none
 else if ci.aN=1 then if bI ci.B 16 then if bI ci.A 16 then some (E0,lB S ((S.aK.set f t).set f ({t with bD:=mN 16 t.bD ci.A.toNat (GX.J t.bD ci.B.toNat)})),M)else none else none
 else if ci.aN=2 then if bI ci.B 16 then if bI ci.C 16 then tN (rM ci.K (GX.J t.bD ci.B.toNat) (GX.J t.bD ci.C.toNat)) (λtL Eo=>if bI ci.A 16 then some (E0,lB S ((S.aK.set f t).set f ({t with bD:=mN 16 t.bD ci.A.toNat tL})),M)else none)else none else none
 else if ci.aN=3 then some (E0,lB S ((S.aK.set f t).set f ({t with J:=ci.A})),M)
 else if ci.aN=4 then if bI ci.A 16 then(if(GX.J t.bD ci.A.toNat)=0 then some (E0,lB S (S.aK.set f t),M)else some (E0,lB S ((S.aK.set f t).set f ({t with J:=ci.B})),M))else none
 else if ci.aN=8 then if bI ci.A 16 then some (E0,lB S ((S.aK.set f t).set f ({t with bD:=mN 16 t.bD ci.A.toNat t.lX})),M)else none
 else if ci.aN=7 then ei (vC (⟨S.dL,S.cW⟩:bq) fr ci.B) (λr51=>Jk (fg (gP (lB S (S.aK.set f t)) i {act S i with dP:=r51}) M (i:Int)) (λr54 Nj Fs Za=>(if r54=15 then if bI fr Fs.aK.length then if bI ci.A 16 then some (E0,{Fs with aK:=Fs.aK.set f ({GX.J Fs.aK f with bD:=mN 16 (GX.J Fs.aK f).bD ci.A.toNat Nj})},Za)else none else none else if bI (i:Int) Fs.aj.length then tN (dV Fs Za (i:Int)) (λWA WB=>some (WA,WB,Za))else none)))
 else if ci.aN=5 then qd (mq (lB S (S.aK.set f t)) M (i:Int) ci) (λR8 JD O9=>some (R8,JD,O9))
 else if ci.aN=6 then ei (wV (⟨S.dL,S.cW⟩:bq) fr) (λWC=>qd (dA ({S with aK:=S.aK.set f t,aj:=(S.aj.set i ({act S i with dP:=WC})).set i ({({act S i with dP:=WC}:bH)with aI:=5})}) M (i:Int) D) (λZb U4 Sd=>some (Zb,U4,Sd)))
 else if bI ci.A 16 then qd (mu (lB S (S.aK.set f t)) M (i:Int) (GX.J t.bD ci.A.toNat)) (λr96 S97 S98=>some (r96,S97,S98))else none
variable (b:xJ C p s S M sz n)(hi:i<C.N)
include b hi
structure Ins(p:aE)(C:Am.kY)(s:Am.St)(S:ag)(i f:Nat)(ci:ct)(t:aY):Prop where
 hh:s.hold i=some f
 hn:f<s.nf
 hF:f<C.F
 fr:(act S i).ay=f
 fn:(s.fr f).fn<p.ah.length
 J:(s.fr f).J<512
 ok:QH p (GX.J p.ah (s.fr f).fn) ci
 G3:Mi (GX.J p.ah (s.fr f).fn)
 kd:0<=ci.aN/\ci.aN<10
 code:C.code (s.fr f).fn (s.fr f).J=nE ci
 t:Ss {s.fr f with J:=(s.fr f).J+1} f t
theorem X9(hp:s.pc i= .run) :∃f ci t,Ins p C s S i f ci t/\lj S M (i:Int) D=xx S M i D f ci t:=by
 obtain⟨f,hh,hn,hF,hfr⟩:=HG b hi (by rw[hp];rfl);obtain⟨r1,r2,r3⟩:=b.fr f hn;have r3:=r3 (Am.pZ b.fi hi hh).1;have cf:=b.cf;have e1:C.QZ=p.ah.length:=by rw[cf];rfl
 have e2:C.len (s.fr f).fn=(GX.J p.ah (s.fr f).fn).ai.length:=by rw[cf];rfl
 have e3:C.code (s.fr f).fn (s.fr f).J=nE (GX.J (GX.J p.ah (s.fr f).fn).ai (s.fr f).J):=by rw[cf];rfl
 rw[e1]at r1;rw[e2]at r3;have hs:=b.vd.G3 _ r1;have hc:=b.vd.code _ r1;have c5:=hs.IE;have hk:=(Code.snd hs hc).kind ((s.fr f).J:Int) I I;rw[cQ]at hk;have ht:=b.ku.tk f hn;have h1:bI (act S i).ay S.aK.length:=by rw[hfr];exact b.task hn
 have h2:bI (GX.J S.aK (act S i).ay.toNat).fn S.code.length:=by rw[hfr,cQ,ht.fn,b.ku.code];exact⟨I,I⟩
 have h3:bI (GX.J S.aK (act S i).ay.toNat).J (GX.J S.code (GX.J S.aK (act S i).ay.toNat).fn.toNat).ai.length:=by rw[hfr,cQ,ht.fn,ht.J,b.ku.code,cQ];exact⟨I,I⟩
 refine⟨f,GX.J (GX.J p.ah (s.fr f).fn).ai (s.fr f).J,{GX.J S.aK f with J:=wi ((GX.J S.aK f).J+1)},⟨hh,hn,hF,hfr,r1,I,hc.ins _ r3,hs,hk,e3,⟨ht.fn,by show wi ((GX.J S.aK f).J+1)=_;rw[ht.J,eO I];rfl,ht.par,ht.slot,ht.bC,ht.lX,ht.bD⟩⟩,?_⟩;have Ki:GX.J (GX.J S.code (GX.J S.aK f).fn.toNat).ai (GX.J S.aK f).J.toNat=GX.J (GX.J p.ah (s.fr f).fn).ai (s.fr f).J:=by rw[ht.fn,ht.J,b.ku.code,cQ,cQ]
 unfold lj eG EL fN D4 eJ j3 qY an;rw[cQ,aP h1,jC,aP h1,aP h2,aP h3];have afC:(GX.J S.aj i).ay=(f:Int):=hfr;rw[afC,cQ,Ki]
 rfl
end
theorem I9(r:Nat):J (List.replicate 16 (0:Int)) r=0:=by
 unfold J;rw[List.getD_eq_getElem?_getD,List.getElem?_replicate];split<;>rfl
theorem Ss.LS{x:Am.Fr}{f A:Nat}{t:aY}(h:Ss x f t)(v:Int):Ss {x with bD:=Am.cI x.bD A v} f {t with bD:=mN 16 t.bD A v}:=
 ⟨h.fn,h.J,h.par,h.slot,h.bC,h.lX,λr hr=>by show GX.J (mN 16 t.bD A v) r=Am.cI x.bD A v r;rw[Fc hr,Am.cS,h.bD r hr]⟩
section
variable {K:Nat}{C:Am.kY}{p:aE}{s:Am.St}{S:ag}{M M':af}{sz n i f:Nat}{D:aT}{d:Int}{T:List aY}{a:bH}{ci:ct}{t:aY}
theorem SU(b:xJ C p s S M sz n)(hi:i<C.N):gP (lB S T) i (act S i)=lB S T:=by
 have:=kr b hi;show({S with aK:=T,aj:=S.aj.set i (act S i)}:ag)=_;have e:S.aj.set i (act S i)=S.aj:=nV (·.aj) this;rw[e];rfl
variable (b:xJ C p s S M sz n)(hi:i<C.N)(ag3:Ins p C s S i f ci t)(hp:s.pc i= .run)
include b hi ag3 hp
theorem Bo{y:Am.Fr}{t2:aY}{o:Am.Out}{r:Option (aq×ag×af)}(hr:r=some (E0,lB S (S.aK.set f t2),M))(ho:o=⟨s.lay f y,none,none⟩)(ht:Ss y f t2):jN C p sz n M o r:=by
 subst ho;obtain⟨w1,w2,w3⟩:=b.ku.wk i hi;rw[hp]at w3;refine jN.X8 (T:=S.aK.set f t2) (a:=act S i) (x:=S.value) (l:=S.left) (q:=.run) b hi (by rw[hr,SU b hi];rfl) w1 w2 (by rw[<-hp,Am.rQ];rfl) w3 (b.ar.keep rfl rfl rfl rfl) Lg.none_ trivial (by rw[hU];exact b.ku.tl) (Eg b ag3.hn ht) b.ku.left b.ku.val
theorem tK:Am.aJ C s i d=Am.instr C s i:=by unfold Am.aJ;rw[hp]
theorem zL{A:Int}(h:uf A (GX.J p.ah (s.fr f).fn).dw=true):bI A 16/\A.toNat<16:=by
 have h1:=Ed h;have h2:=ag3.G3.r16;exact⟨⟨I,I⟩,I⟩
theorem PT{t2:aY}:(S.aK.set f t).set f t2=S.aK.set f t2:=iX ..
theorem adj(k:ci.aN=0):jN C p sz n M (Am.aJ C s i d) (xx S M i D f ci t):=by
 have ok:=ag3.ok.1;unfold nH at ok;rw[aP (.inl k)]at ok;obtain⟨r1,r2⟩:=zL b hi ag3 hp ok;refine Bo b hi ag3 hp (t2:={t with bD:=mN 16 t.bD ci.A.toNat ci.K}) ?_ ?_ (ag3.t.LS ci.K)
 ·unfold xx;simp only;rw[aP k,aP r1,PT b hi ag3 hp]
 ·rw[tK b hi ag3 hp];unfold Am.instr;simp only[ag3.hh,pK];rw[ag3.code];unfold nE;rw[aP k]
theorem adk(k:ci.aN=1):jN C p sz n M (Am.aJ C s i d) (xx S M i D f ci t):=by
 have ok:=ag3.ok.1;unfold nH at ok;rw[ef,aP k,mR]at ok;obtain⟨r1,r2⟩:=zL b hi ag3 hp ok.1;obtain⟨q1,q2⟩:=zL b hi ag3 hp ok.2;refine Bo b hi ag3 hp (t2:={t with bD:=mN 16 t.bD ci.A.toNat (GX.J t.bD ci.B.toNat)}) ?_ ?_ (ag3.t.LS _)
 ·unfold xx;simp only;rw[ef,aP k,aP q1,aP r1,PT b hi ag3 hp]
 ·rw[tK b hi ag3 hp];unfold Am.instr;simp only[ag3.hh,pK];rw[ag3.code];unfold nE;rw[ef,aP k,ag3.t.bD _ q2]
theorem adl(k:ci.aN=2):jN C p sz n M (Am.aJ C s i d) (xx S M i D f ci t):=by
 have ok:=ag3.ok.1;unfold nH at ok;rw[ef,ef,aP k,mR,mR,mR]at ok;obtain⟨r1,r2⟩:=zL b hi ag3 hp ok.1.1.1;obtain⟨q1,q2⟩:=zL b hi ag3 hp ok.1.1.2;obtain⟨u1,u2⟩:=zL b hi ag3 hp ok.1.2;have ko:=Ed ok.2;have hap:C.ap=Vk:=by rw[b.cf];rfl
 refine Bo b hi ag3 hp (t2:={t with bD:=mN 16 t.bD ci.A.toNat (Vk ci.K (GX.J t.bD ci.B.toNat) (GX.J t.bD ci.C.toNat))}) ?_ ?_ (ag3.t.LS _)
 ·unfold xx;simp only;rw[ef,ef,aP k,aP q1,aP u1,I4 ko.1 ko.2,eR,aP r1,PT b hi ag3 hp]
 ·rw[tK b hi ag3 hp];unfold Am.instr;simp only[ag3.hh,pK];rw[ag3.code];unfold nE;rw[ef,ef,aP k,ag3.t.bD _ q2,ag3.t.bD _ u2,hap]
theorem adm(k:ci.aN=3):jN C p sz n M (Am.aJ C s i d) (xx S M i D f ci t):=by
 have ok:=ag3.ok.1;unfold nH at ok;rw[ef,ef,ef,aP k]at ok;have h1:=Ed ok;refine Bo b hi ag3 hp (y:={s.fr f with J:=ci.A.toNat}) (t2:={t with J:=ci.A}) ?_ ?_ ⟨ag3.t.fn,by show ci.A=((ci.A.toNat:Nat):Int);omega,ag3.t.par,ag3.t.slot,ag3.t.bC,ag3.t.lX,ag3.t.bD⟩
 ·unfold xx;simp only;rw[ef,ef,ef,aP k,PT b hi ag3 hp]
 ·rw[tK b hi ag3 hp];unfold Am.instr;simp only[ag3.hh,pK];rw[ag3.code];unfold nE;rw[ef,ef,ef,aP k]
theorem adn(k:ci.aN=4):jN C p sz n M (Am.aJ C s i d) (xx S M i D f ci t):=by
 have ok:=ag3.ok.1;unfold nH at ok;rw[ef,ef,ef,ef,aP k,mR]at ok;obtain⟨r1,r2⟩:=zL b hi ag3 hp ok.1;have h1:=Ed ok.2;by_cases e:(s.fr f).bD ci.A.toNat=0
 ·refine Bo b hi ag3 hp (y:={s.fr f with J:=(s.fr f).J+1}) (t2:=t) ?_ ?_ ag3.t
  ·unfold xx;simp only;rw[ef,ef,ef,ef,aP k,aP r1,aP (by rw[ag3.t.bD _ r2];exact e)]
  ·rw[tK b hi ag3 hp];unfold Am.instr;simp only[ag3.hh,pK];rw[ag3.code];unfold nE;rw[ef,ef,ef,ef,aP k];simp only;rw[cu (by simpa using e)]
 ·refine Bo b hi ag3 hp (y:={s.fr f with J:=ci.B.toNat}) (t2:={t with J:=ci.B}) ?_ ?_ ⟨ag3.t.fn,by show ci.B=((ci.B.toNat:Nat):Int);omega,ag3.t.par,ag3.t.slot,ag3.t.bC,ag3.t.lX,ag3.t.bD⟩
  ·unfold xx;simp only;rw[ef,ef,ef,ef,aP k,aP r1,cu (by rw[ag3.t.bD _ r2];exact e),PT b hi ag3 hp]
  ·rw[tK b hi ag3 hp];unfold Am.instr;simp only[ag3.hh,pK];rw[ag3.code];unfold nE;rw[ef,ef,ef,ef,aP k];simp only;rw[aP e]
theorem ado(k:ci.aN=8):jN C p sz n M (Am.aJ C s i d) (xx S M i D f ci t):=by
 have ok:=ag3.ok.1;unfold nH at ok;rw[aP (.inr (.inl k))]at ok;obtain⟨r1,r2⟩:=zL b hi ag3 hp ok;refine Bo b hi ag3 hp (t2:={t with bD:=mN 16 t.bD ci.A.toNat t.lX}) ?_ ?_ (ag3.t.LS _)
 ·unfold xx;simp only;rw[ef,ef,ef,ef,ef,aP k,aP r1,PT b hi ag3 hp]
 ·rw[tK b hi ag3 hp];unfold Am.instr;simp only[ag3.hh,pK];rw[ag3.code];unfold nE;rw[ef,ef,ef,ef,ef,ef,ef,ef,aP k,ag3.t.lX]
theorem VN:GX.J (S.aK.set f t) f=t:=by
 have h:=b.ku.tl;have hF:=ag3.hF;rw[rf I,aP rfl]
theorem adp:bI (f:Int) (S.aK.set f t).length:=by rw[hU];exact b.task ag3.hn
theorem adq(k:ci.aN=7):jN C p sz n M (Am.aJ C s i d) (xx S M i D f ci t):=by
 obtain⟨w1,w2,w3⟩:=b.ku.wk i hi;rw[hp]at w3;have ok:=ag3.ok.1;unfold nH at ok;rw[ef,ef,ef,ef,ef,ef,ef,aP k,mR]at ok;obtain⟨r1,r2⟩:=zL b hi ag3 hp ok.1;have h1:=Ed ok.2;have s8:=ag3.G3.s8;obtain⟨B,hB⟩ :∃B:Nat,ci.B=B:=⟨ci.B.toNat,I⟩;have hB8:B<8:=by omega
 have hs:=X3 b.ar b.z b.cN ag3.hF hB8;have h:=yF (T:=S.aK.set f t) b hi (a:={act S i with dP:=j7 C 5 f B 0}) hs (L6 rfl rfl);have hst:Am.aJ C s i d=⟨s.lay f {s.fr f with J:=(s.fr f).J+1,bD:=Am.cI (s.fr f).bD ci.A.toNat (s.mem (.slot f B))},none,Am.rh (.slot f B) (s.mem (.slot f B))⟩:=by
  rw[tK b hi ag3 hp];unfold Am.instr;simp only[ag3.hh,pK];rw[ag3.code];unfold nE;rw[ef,ef,ef,ef,ef,ef,ef,aP k,hB,cQ]
 rw[hst];refine jN.X8 (M':=nt M M.cell 0 (Am.cH C s (.slot f B)) (s.mem (.slot f B)) 0 true) (T:=S.aK.set f {t with bD:=mN 16 t.bD ci.A.toNat (s.mem (.slot f B))}) (a:={act S i with dP:={j7 C 5 f B 0 with aA:=0,fF:=15,mO:=s.mem (.slot f B)}}) (x:=S.value) (l:=S.left) (q:=.run) b hi ?_ w1 w2 (by show s.pc=_;rw[<-hp,Am.rQ]) w3 (b.ar.same (s':=s.lay f {s.fr f with J:=(s.fr f).J+1,bD:=Am.cI (s.fr f).bD ci.A.toNat (s.mem (.slot f B))}) rfl rfl rfl rfl _ _ _ _ _) (Lg.nt rfl) trivial (by rw[hU];exact b.ku.tl) (Eg b ag3.hn (ag3.t.LS _)) b.ku.left b.ku.val;unfold xx vC;simp only;rw[ef,ef,ef,ef,ef,ef,aP k,SN b hi,hB,PO b.ok ag3.hF hB8,au,au,h,gH,aP rfl];rw[aP (by exact adp b hi ag3 hp),aP r1];rw[show(gP (lB S (S.aK.set f t)) i _).aK=S.aK.set f t from rfl,VN b hi ag3 hp,PT b hi ag3 hp];rfl
theorem adr(k:ci.aN=6):jN C p sz n M (Am.aJ C s i d) (xx S M i D f ci t):=by
 obtain⟨w1,w2,w3⟩:=b.ku.wk i hi;have agZ:=b.fi.jn f ag3.hn;have hl:s.loc f= .uL i∨s.loc f= .held i:=(b.fi.hold i f hi ag3.hh).elim (λa=>.inl a.2) (λa=>.inr a.2);have hjn:0<=s.mem (.join f)-1:=by
  have hg:(Am.view s).g i= .run:=by show Am.sig (s.pc i)=_;rw[hp];rfl
  rcases b.fi.hold i f hi ag3.hh with h | h
  ·rw[hg]at h;exact absurd h.1 (by simp)
  ·rw[h.2]at agZ;change s.mem (.join f)=1+(((s.bC f).length:Nat):Int)at agZ;omega
 have hs:=X2 b.ar b.z b.cN ag3.hF (b.NP rfl);have hst:Am.aJ C s i d=(if 0<s.mem (.join f)-1 then⟨((((s.wr (.join f) (s.mem (.join f)-1)).lay f {s.fr f with J:=(s.fr f).J+1}).holds i none).to i .E3).put f .waiting,Am.ev 4 f 0 0,Am.Dk (.join f) (-1) (s.mem (.join f)-1)⟩
  else ⟨((((s.wr (.join f) (s.mem (.join f)-1)).lay f {s.fr f with J:=(s.fr f).J+1}).to i .ru).put f (.uL i)),none,Am.Dk (.join f) (-1) (s.mem (.join f)-1)⟩):=by
  rw[tK b hi ag3 hp];unfold Am.instr;simp only[ag3.hh,pK];rw[ag3.code];unfold nE;rw[ef,ef,ef,ef,ef,ef,aP k]
 have hr:xx S M i D f ci t=dA (gP (lB S (S.aK.set f t)) i {act S i with dP:=j7 C 3 f 0 0,aI:=5}) M (i:Int) D:=by
  unfold xx wV;simp only;rw[ef,ef,ef,ef,ef,ef,ef,ef,aP k,SN b hi,HF b.ok ag3.hF,au,au,iX];show qd (dA (gP (lB S (S.aK.set f t)) i {act S i with dP:=j7 C 3 f 0 0,aI:=5}) M (i:Int) D) _=_;cases dA (gP (lB S (S.aK.set f t)) i {act S i with dP:=j7 C 3 f 0 0,aI:=5}) M (i:Int) D<;>rfl
 rw[hr,hst];by_cases h0:0<s.mem (.join f)-1
 ·rw[aP h0];rw[ef]at hs;refine jN.X8 (T:=S.aK.set f t) (x:=S.value) (l:=S.left) (q:=.E3) b hi (SR b hi (a:={act S i with dP:=j7 C 3 f 0 0,aI:=5}) w1 hs rfl rfl rfl ag3.fr) w1 (by show(-1:Int)=fi (Am.cI s.hold i none i);rw[Am.aU];rfl) rfl ⟨rfl,⟨rfl,rfl,rfl,rfl⟩,rfl,rfl⟩ (b.BS (c:=.join f) rfl (by rw[hp];rfl) ag3.hF _ _ _ _ _) (Lg.nt rfl) (by show(4:Nat)≠0;decide) (by rw[hU];exact b.ku.tl) (Eg b ag3.hn ag3.t) b.ku.left b.ku.val (hh:=λj hj=>Am.aM hj)
 ·rw[cu h0];rw[p7]at hs;refine jN.X8 (T:=S.aK.set f t) (x:=S.value) (l:=S.left) (q:=.ru) b hi (VK b hi (a:={act S i with dP:=j7 C 3 f 0 0,aI:=5}) hs rfl (by show(2:Int)>0;decide)) w1 w2 rfl ⟨rfl,rfl,rfl,?_,rfl,rfl⟩ (b.BS (c:=.join f) rfl (by rw[hp];rfl) ag3.hF _ _ _ _ _) (Lg.nt rfl) trivial (by rw[hU];exact b.ku.tl) (Eg b ag3.hn ag3.t) b.ku.left b.ku.val;show(f:Int)=(((act S i).ay.toNat:Nat):Int);rw[ag3.fr];rfl
end
def aaP(C:Am.kY)(i:Nat):cg:=⟨2+10*(C.F:Int),C.N,i,4,10,1,0,0,0,List.replicate 64 ⟨0,0⟩,⟨0,0,0,0,0,0,0,0,0,0,0,0,0,false,0,0⟩⟩
section
variable {K:Nat}{C:Am.kY}{p:aE}{s:Am.St}{S:ag}{M M':af}{sz n i f:Nat}{D:aT}{d:Int}{T:List aY}{a:bH}{ci:ct}{t:aY}
theorem SV(b:xJ C p s S M sz n)(hi:i<C.N):tH (⟨S.fH,S.cT⟩:fz) (i:Int)=some (aaP C i):=by
 have h1:=b.ok.n1;have h2:=b.ok.n64;unfold tH nC nQ cE bL;rw[b.ku.lb,b.ku.lw];simp only;rw[ef,ef,au,eO (x:=2+(C.N:Int)) I,p7,p7,tY I,au,aP rfl];rfl
variable (b:xJ C p s S M sz n)(hi:i<C.N)(ag3:Ins p C s S i f ci t)(hp:s.pc i= .run)
include b hi ag3 hp
theorem N8:bI (act S i).ay (S.aK.set f t).length:=by rw[ag3.fr];exact adp b hi ag3 hp
theorem ads(k:ci.aN=9):jN C p sz n M (Am.aJ C s i d) (xx S M i D f ci t):=by
 obtain⟨w1,w2,w3⟩:=b.ku.wk i hi;have ok:=ag3.ok.1;unfold nH at ok;rw[aP (.inr (.inr k))]at ok;obtain⟨r1,r2⟩:=zL b hi ag3 hp ok;obtain⟨v,hv⟩ :∃v,v=(s.fr f).bD ci.A.toNat:=⟨_,rfl⟩;have hst:Am.aJ C s i d=(if f=0 then⟨{((((s.lay f {s.fr f with J:=(s.fr f).J+1}).wr .result v).holds i none).to i .done).put 0 (.fin i)with val:=some v},Am.ev 6 0 (-1) v,Am.uh .result v⟩
  else ⟨((((s.lay f {s.fr f with J:=(s.fr f).J+1}).wr (.slot (s.fr f).par (s.fr f).slot) v).holds i none).to i (.out (s.fr f).par f)).put f (.fin i),Am.ev 6 f (s.fr f).par v,Am.uh (.slot (s.fr f).par (s.fr f).slot) v⟩):=by
  rw[tK b hi ag3 hp];unfold Am.instr;simp only[ag3.hh,pK];rw[ag3.code];unfold nE;rw[ef,ef,ef,ef,ef,ef,ef,ef,ef,hv]
 have hin:=N8 b hi ag3 hp;have hgt:GX.J (S.aK.set f t) (act S i).ay.toNat=t:=by rw[ag3.fr,cQ];exact VN b hi ag3 hp
 have hr:xx S M i D f ci t=mu (lB S (S.aK.set f t)) M (i:Int) v:=by
  unfold xx;simp only;rw[ef,ef,ef,ef,ef,ef,ef,ef,ef,aP r1,ag3.t.bD _ r2,hv];cases mu (lB S (S.aK.set f t)) M (i:Int) _<;>rfl
 rw[hr];unfold mu eG j3 qY an;rw[cQ,aP (by exact hin),jC,aP (by exact hin),hst];by_cases h0:f=0
 ·rw[aP h0,aP (by show(act S i).ay=0;rw[ag3.fr,h0];rfl)];have afD:=wD b.ar b.z b.cN (a:=.result) trivial v;have adt:eB M (lB S (S.aK.set f t)).result v=some (0,nt M (M.cell.set (Am.cH C s .result).toNat v) 1 (Am.cH C s .result) v 0 true):=by rw[show(lB S (S.aK.set f t)).result=Am.cH C s .result from b.ku.res];exact afD
  rw[adt,eR,aP rfl];have hfi:tH (⟨(lB S (S.aK.set f t)).fH,(lB S (S.aK.set f t)).cT⟩:fz) (J (lB S (S.aK.set f t)).aj i).bz=some (aaP C i):=by
   show tH (⟨S.fH,S.cT⟩:fz) (act S i).bz=_;rw[show(act S i).bz=i from w1];exact SV b hi
  rw[hfi,au];refine jN.X8 (T:=S.aK.set f t) (a:={act S i with cR:=aaP C i,ay:=-1,aI:=7}) (x:=v) (l:=true) (q:=.done) b hi ?_ w1 (by show(-1:Int)=fi (Am.cI s.hold i none i);rw[Am.aU];rfl) rfl ⟨rfl,rfl,rfl,rfl,rfl,rfl,rfl⟩ (b.BS (c:=.result) rfl (by rw[hp];rfl) trivial _ _ _ _ _) (Lg.nt rfl) (by show(6:Nat)≠0;decide) (by rw[hU];exact b.ku.tl) (Eg b ag3.hn ag3.t) rfl rfl (hh:=λj hj=>Am.aM hj);show some ((⟨0,0,6,0,-1,v⟩:aq),({S with aK:=S.aK.set f t,aj:=((S.aj.set i _).set i _).set i _,value:=v,left:=true}:ag),_)=_;rw[iX,iX];rfl
 ·rw[cu h0,cu (by show ¬(act S i).ay=0;rw[ag3.fr];omega)];have hfr:=b.fr f ag3.hn;have WJ:(s.fr f).par<s.nf:=b.fi.pr f ag3.hn;have hpF:(s.fr f).par<C.F:=Nat.lt_of_lt_of_le WJ b.fi.yj;have hs:=aaN b.ar b.z b.cN hpF hfr.2.1 v;have htb:=yF (T:=S.aK.set f t) b hi (a:={act S i with dP:=j7 C 2 (s.fr f).par (s.fr f).slot v}) hs (VG rfl (by show(2:Int)>0;decide));have hbg:uC (⟨(lB S (S.aK.set f t)).dL,(lB S (S.aK.set f t)).cW⟩:bq) (J (lB S (S.aK.set f t)).aK (J (lB S (S.aK.set f t)).aj i).ay.toNat).parent (J (lB S (S.aK.set f t)).aK (J (lB S (S.aK.set f t)).aj i).ay.toNat).slot v=some (j7 C 2 (s.fr f).par (s.fr f).slot v):=by
   have afE:J (lB S (S.aK.set f t)).aK (J (lB S (S.aK.set f t)).aj i).ay.toNat=t:=hgt;rw[afE,ag3.t.par,ag3.t.slot,cu h0];unfold uC;rw[show(⟨(lB S (S.aK.set f t)).dL,(lB S (S.aK.set f t)).cW⟩:bq)=⟨1,C.F⟩from(show(⟨S.dL,S.cW⟩:bq)=⟨1,C.F⟩from SN b hi),PO b.ok hpF hfr.2.1,au]
  rw[hbg,au];rw[show({lB S (S.aK.set f t)with aj:=(lB S (S.aK.set f t)).aj.set i {J (lB S (S.aK.set f t)).aj i with dP:=j7 C 2 (s.fr f).par (s.fr f).slot v}}:ag)=gP (lB S (S.aK.set f t)) i {act S i with dP:=j7 C 2 (s.fr f).par (s.fr f).slot v}from rfl,htb,gH,aP rfl,aP (VJ b hi)];rw[show J (gP (lB S (S.aK.set f t)) i {act S i with dP:={j7 C 2 (s.fr f).par (s.fr f).slot v with aA:=2}}).aj i={act S i with dP:={j7 C 2 (s.fr f).par (s.fr f).slot v with aA:=2}}from ot (b.wl hi)];refine jN.X8 (T:=S.aK.set f t) (a:={act S i with dP:={j7 C 2 (s.fr f).par (s.fr f).slot v with aA:=2},ay:=-1,done:=(act S i).ay,aI:=6}) (x:=S.value) (l:=S.left) (q:=.out (s.fr f).par f) b hi ?_ w1 (by show(-1:Int)=fi (Am.cI s.hold i none i);rw[Am.aU];rfl) rfl ⟨rfl,ag3.fr,rfl,rfl,rfl,rfl,rfl⟩ (b.BS (c:=.slot (s.fr f).par (s.fr f).slot) rfl (by rw[hp];rfl) ⟨hpF,hfr.2.1⟩ _ _ _ _ _) (Lg.nt rfl) (by show(6:Nat)≠0;decide) (by rw[hU];exact b.ku.tl) (Eg b ag3.hn ag3.t) b.ku.left b.ku.val (hh:=λj hj=>Am.aM hj);show some ((⟨0,0,6,(act S i).ay,(GX.J (S.aK.set f t) (act S i).ay.toNat).parent,v⟩:aq),({S with aK:=S.aK.set f t,aj:=(((S.aj.set i _).set i _).set i _).set i _}:ag),_)=_;rw[iX,iX,iX];refine nV some (B6 ?_ rfl);show(⟨0,0,6,(act S i).ay,(GX.J (S.aK.set f t) (act S i).ay.toNat).parent,v⟩:aq)=_;rw[hgt,ag3.t.par,ag3.fr,cu h0];rfl
def Rd(L:List aY)(k:Nat):List aY:=L.set k {GX.J L k with bC:=wi ((GX.J L k).bC+1)}
def Eh(ci:ct)(f:Nat)(pd:Int):aY:=⟨ci.B,0,(f:Int),ci.A,0,pd,List.replicate 16 (0:Int)⟩
theorem N9{A B Cc:Nat}{Hf:aY}(hk:Ss (Am.lq C (s.fr f) f A B Cc) s.nf Hf)(hlt:s.nf<C.F){L:List aY}(hL:L=(S.aK.set f t).set s.nf Hf) :
 ∀g,g<s.nf+1->Ss (Am.cI (Am.cI (Am.cI s.fr f {s.fr f with J:=(s.fr f).J+1}) f {s.fr f with J:=(s.fr f).J+1,bC:=(s.fr f).bC+1}) s.nf (Am.lq C (s.fr f) f A B Cc) g) g (GX.J (L.set f {GX.J L f with bC:=wi ((GX.J L f).bC+1)}) g):=λg hg=>by
 subst hL;have hl:=b.ku.tl;have hne:f≠s.nf:=Nat.ne_of_lt ag3.hn;have hF:=ag3.hF;have hkb:=b.bd.k f;have hbn:=b.n;have e1:GX.J ((S.aK.set f t).set s.nf Hf) f=t:=by rw[rf (by rw[hU];omega),cu hne];exact VN b hi ag3 hp
 rw[e1,rf (by rw[hU,hU];omega),Am.cS];by_cases e:g=s.nf
 ·rw[aP e,ef,rf (by rw[hU];omega),aP e,e];exact hk
 ·rw[cu e,Am.cS];by_cases e2:g=f
  ·rw[aP e2,aP e2,e2];exact⟨ag3.t.fn,ag3.t.J,ag3.t.par,ag3.t.slot,by show wi (t.bC+1)=(((s.fr f).bC+1:Nat):Int);rw[show t.bC=((s.fr f).bC:Int)from ag3.t.bC,eO I];rfl,ag3.t.lX,ag3.t.bD⟩
  ·rw[cu e2,cu e2,Am.aM e2,rf (by rw[hU];omega),cu e,rf I,cu e2];exact b.ku.tk g I
theorem adu(k:ci.aN=5):jN C p sz n M (Am.aJ C s i d) (xx S M i D f ci t):=by
 obtain⟨w1,w2,w3⟩:=b.ku.wk i hi;have ok:=ag3.ok.1;have cl:=ag3.ok.2;unfold nH at ok;rw[ef,ef,ef,ef,ef,aP k]at ok;unfold wz at cl;rw[aP k,mR,B4,B5,mR,B5,B5]at cl;have hA:=Ed ok;have hB:=Ed cl.1;have s8:=ag3.G3.s8;have r16:=ag3.G3.r16;have hPs:=b.vd.G3 ci.B.toNat I;have O:=hPs.O;have p8:=hPs.p8;obtain⟨P,hP⟩ :∃P:Nat,(GX.J p.ah ci.B.toNat).aS=P:=⟨(GX.J p.ah ci.B.toNat).aS.toNat,I⟩;have hcp:C.params ci.B.toNat=P:=by rw[b.cf];show(GX.J p.ah ci.B.toNat).aS.toNat=P;omega
 have TG:C.pd (s.fr f).lX (s.fr f).bC=wi (wi (wi ((s.fr f).lX*1000003)+((s.fr f).bC:Int))+1):=by rw[b.cf];rfl
 have hkb:=b.bd.k f;have hbn:=b.n;obtain⟨pd,adv⟩ :∃pd,pd=C.pd (s.fr f).lX (s.fr f).bC:=⟨_,rfl⟩;have afF:0<=s.mem .next/\s.mem .next<=1000000000000:=by
  have h2:=b.NP (a:=.next) rfl;have h1:s.mem .next=s.nf∨(s.nf=C.F/\(C.F:Int)<=s.mem .next):=b.fi.nx;omega
 have hst:Am.aJ C s i d=(if(C.F:Int)<=s.mem .next+1-1 then⟨{((s.wr .next (s.mem .next+1)).lay f {s.fr f with J:=(s.fr f).J+1})with LI:=true}.to i .full,Am.ev 11 (-1) 0 0,Am.Dk .next 1 (s.mem .next+1)⟩
  else ⟨{((((s.wr .next (s.mem .next+1)).lay f {s.fr f with J:=(s.fr f).J+1}).lay f {s.fr f with J:=(s.fr f).J+1,bC:=(s.fr f).bC+1}).lay s.nf (Am.lq C (s.fr f) f ci.A.toNat ci.B.toNat ci.C.toNat))with nf:=s.nf+1}.put s.nf (.cr i) |>.to i (.fork s.nf),none,Am.Dk .next 1 (s.mem .next+1)⟩):=by
  rw[tK b hi ag3 hp];unfold Am.instr;simp only[ag3.hh,pK];rw[ag3.code];unfold nE;rw[ef,ef,ef,ef,ef,aP k];rfl
 have hr:xx S M i D f ci t=mq (lB S (S.aK.set f t)) M (i:Int) ci:=by
  unfold xx;simp only;rw[ef,ef,ef,ef,ef,ef,ef,aP k];cases mq (lB S (S.aK.set f t)) M (i:Int) _<;>rfl
 have hs:=X4 b.ar b.z b.cN afF;have hTl:(S.aK.set f t).length=C.F:=by rw[hU];exact b.ku.tl
 have F0:0<C.F:=by have:=b.ok.f1;omega
 rw[hr];unfold mq j3 qY an;rw[show n3 (⟨(lB S (S.aK.set f t)).dL,(lB S (S.aK.set f t)).cW⟩:bq)=some (j7 C 0 0 0 0) by
  unfold n3;rw[show(⟨(lB S (S.aK.set f t)).dL,(lB S (S.aK.set f t)).cW⟩:bq)=⟨1,C.F⟩from(show(⟨S.dL,S.cW⟩:bq)=⟨1,C.F⟩from SN b hi)];show ei (k8 0 (⟨1,C.F⟩:bq) ((0:Nat):Int) 0 0) _=_;rw[HF b.ok F0];rfl,au]
 rw[show({lB S (S.aK.set f t)with aj:=(lB S (S.aK.set f t)).aj.set (i:Int).toNat {J (lB S (S.aK.set f t)).aj (i:Int).toNat with dP:=j7 C 0 0 0 0}}:ag)=gP (lB S (S.aK.set f t)) i {act S i with dP:=j7 C 0 0 0 0}from rfl];by_cases h0:s.mem .next+1<=C.F
 ·rw[aP h0]at hs;have htb:=yF (T:=S.aK.set f t) b hi (a:={act S i with dP:=j7 C 0 0 0 0}) hs (L6 rfl rfl);have VO:s.mem .next=s.nf:=by
   have h1:s.mem .next=s.nf∨(s.nf=C.F/\(C.F:Int)<=s.mem .next):=b.fi.nx;rcases h1 with h | h
   ·exact h
   ·omega
  have hlt:s.nf<C.F:=by omega
  have Jj:s.nf≠0:=by have:1<=s.nf:=b.fi.Bj;omega
  have hne:f≠s.nf:=Nat.ne_of_lt ag3.hn;have hin:=N8 b hi ag3 hp;have Vy:bI (s.mem .next) (S.aK.set f t).length:=by rw[VO,hTl];exact⟨I,I⟩
  have afG:bI ci.B S.code.length:=by rw[b.ku.code];exact⟨I,I⟩
  have SS:(GX.J S.code ci.B.toNat).aS=P:=by rw[b.ku.code];exact hP
  have hgt:GX.J (S.aK.set f t) (act S i).ay.toNat=t:=by rw[ag3.fr,cQ];exact VN b hi ag3 hp
  have YO:wi (wi (wi ((GX.J (S.aK.set f t) (act S i).ay.toNat).lX*1000003)+(GX.J (S.aK.set f t) (act S i).ay.toNat).bC)+1)=pd:=by
   rw[hgt,adv,TG,show t.lX=(s.fr f).lX from ag3.t.lX,show t.bC=((s.fr f).bC:Int)from ag3.t.bC]
  have hkt:∀R:List Int,(∀r,r<16->GX.J R r=if r<P then(s.fr f).bD (ci.C.toNat+r)else 0)->Ss (Am.lq C (s.fr f) f ci.A.toNat ci.B.toNat ci.C.toNat) s.nf {Eh ci f pd with bD:=R}:=λR hR =>
   ⟨by show ci.B=((ci.B.toNat:Nat):Int);omega,rfl,by rw[cu Jj];rfl,by show ci.A=((ci.A.toNat:Nat):Int);omega,rfl,by show pd=C.pd (s.fr f).lX (s.fr f).bC;exact adv,λr hr=>by show GX.J R r=if r<C.params ci.B.toNat then(s.fr f).bD (ci.C.toNat+r)else 0;rw[hcp];exact hR r hr⟩
  unfold eG;rw[htb,gH,cu (by show ¬(4:Int)=3;decide),aP (by rfl),aP (VJ b hi),w5 b hi,cQ];rw[aP (by exact hin),jC,aP (by exact hin),aP (by exact Vy),jC,aP (by exact Vy)];unfold AY;rw[au,aP (by exact afG)];have YK:((s.mem .next).toNat:Nat)=s.nf:=by rw[VO];rfl
  by_cases hP0:P=0
  ·rw[cu (by show ¬(GX.J S.code ci.B.toNat).aS>0;rw[SS];omega),au,aP (by rw[hU];exact hin),hst,ef];refine jN.X8 (T:=((S.aK.set f t).set s.nf (Eh ci f pd)).set f {GX.J ((S.aK.set f t).set s.nf (Eh ci f pd)) f with bC:=wi ((GX.J ((S.aK.set f t).set s.nf (Eh ci f pd)) f).bC+1)}) (a:={act S i with dP:={j7 C 0 0 0 0 with aA:=0,fF:=4,mO:=s.mem .next},cr:=s.mem .next,aI:=2}) (x:=S.value) (l:=S.left) (q:=.fork s.nf) b hi ?_ w1 w2 rfl ⟨rfl,VO⟩ (b.BS (c:=.next) rfl (by rw[hp];rfl) trivial _ _ _ _ _) (Lg.nt rfl) trivial (by rw[hU,hU];exact hTl) (N9 b hi ag3 hp (hkt _ (λr hr=>by rw[ef];exact I9 r)) hlt rfl) b.ku.left b.ku.val;refine nV some (B6 rfl (B6 ?_ rfl));have hX:Rd ((S.aK.set f t).set (s.mem .next).toNat (⟨ci.B,0,(act S i).ay,ci.A,0,wi (wi (wi ((GX.J (S.aK.set f t) (act S i).ay.toNat).lX*1000003)+(GX.J (S.aK.set f t) (act S i).ay.toNat).bC)+1),List.replicate 16 (0:Int)⟩:aY)) (act S i).ay.toNat=((S.aK.set f t).set s.nf (Eh ci f pd)).set f {GX.J ((S.aK.set f t).set s.nf (Eh ci f pd)) f with bC:=wi ((GX.J ((S.aK.set f t).set s.nf (Eh ci f pd)) f).bC+1)}:=by
    rw[YO,YK,ag3.fr,cQ];rfl
   show({S with aK:=Rd ((S.aK.set f t).set (s.mem .next).toNat (⟨ci.B,0,(act S i).ay,ci.A,0,wi (wi (wi ((GX.J (S.aK.set f t) (act S i).ay.toNat).lX*1000003)+(GX.J (S.aK.set f t) (act S i).ay.toNat).bC)+1),List.replicate 16 (0:Int)⟩:aY)) (act S i).ay.toNat,aj:=((S.aj.set i _).set i _).set i _}:ag)=_;rw[hX,iX,iX];rfl
  ·have hC:=cl.2.resolve_left (by rw[hP];omega);rw[hP]at hC;have hw:wi (ci.C+(P:Int))=ci.C+P:=eO I;have hw':wi (ci.C+(GX.J S.code ci.B.toNat).aS)=ci.C+P:=by rw[SS];exact hw
   rw[aP (by show(GX.J S.code ci.B.toNat).aS>0;rw[SS];omega),aP (by show 0<=ci.C/\ci.C<=wi (ci.C+(GX.J S.code ci.B.toNat).aS)/\wi (ci.C+(GX.J S.code ci.B.toNat).aS)<=16/\ci.C<16;rw[hw'];omega),au,aP (by rw[hU,hU];exact hin),hst,ef];refine jN.X8 (T:=((S.aK.set f t).set s.nf {Eh ci f pd with bD:=EE 16 (Ac t.bD ci.C.toNat ((ci.C+(P:Int)).toNat-ci.C.toNat)) (List.replicate 16 (0:Int))}).set f {GX.J ((S.aK.set f t).set s.nf {Eh ci f pd with bD:=EE 16 (Ac t.bD ci.C.toNat ((ci.C+(P:Int)).toNat-ci.C.toNat)) (List.replicate 16 (0:Int))}) f with bC:=wi ((GX.J ((S.aK.set f t).set s.nf {Eh ci f pd with bD:=EE 16 (Ac t.bD ci.C.toNat ((ci.C+(P:Int)).toNat-ci.C.toNat)) (List.replicate 16 (0:Int))}) f).bC+1)}) (a:={act S i with dP:={j7 C 0 0 0 0 with aA:=0,fF:=4,mO:=s.mem .next},cr:=s.mem .next,aI:=2}) (x:=S.value) (l:=S.left) (q:=.fork s.nf) b hi ?_ w1 w2 rfl ⟨rfl,VO⟩ (b.BS (c:=.next) rfl (by rw[hp];rfl) trivial _ _ _ _ _) (Lg.nt rfl) trivial (by rw[hU,hU];exact hTl) (N9 b hi ag3 hp (hkt _ (λr hr=>by
    have hm:(ci.C+(P:Int)).toNat-ci.C.toNat=P:=by omega
    rw[hm,Zp hr,EJ];by_cases e:r<P
    ·rw[aP e,aP e,aaL e,ag3.t.bD _ I]
    ·rw[cu e,cu e,I9])) hlt rfl) b.ku.left b.ku.val
   refine nV some (B6 rfl (B6 ?_ rfl));have e1:GX.J ((S.aK.set f t).set s.nf (Eh ci f pd)) f=t:=by rw[rf (by rw[hTl];omega),cu hne];exact VN b hi ag3 hp
   have hX:Rd (((S.aK.set f t).set (s.mem .next).toNat (⟨ci.B,0,(act S i).ay,ci.A,0,wi (wi (wi ((GX.J (S.aK.set f t) (act S i).ay.toNat).lX*1000003)+(GX.J (S.aK.set f t) (act S i).ay.toNat).bC)+1),List.replicate 16 (0:Int)⟩:aY)).set (s.mem .next).toNat (⟨ci.B,0,(act S i).ay,ci.A,0,wi (wi (wi ((GX.J (S.aK.set f t) (act S i).ay.toNat).lX*1000003)+(GX.J (S.aK.set f t) (act S i).ay.toNat).bC)+1),EE 16 (Ac (GX.J ((S.aK.set f t).set (s.mem .next).toNat (⟨ci.B,0,(act S i).ay,ci.A,0,wi (wi (wi ((GX.J (S.aK.set f t) (act S i).ay.toNat).lX*1000003)+(GX.J (S.aK.set f t) (act S i).ay.toNat).bC)+1),List.replicate 16 (0:Int)⟩:aY)) (act S i).ay.toNat).bD ci.C.toNat ((wi (ci.C+(GX.J S.code ci.B.toNat).aS)).toNat-ci.C.toNat)) (List.replicate 16 (0:Int))⟩:aY)) (act S i).ay.toNat=((S.aK.set f t).set s.nf {Eh ci f pd with bD:=EE 16 (Ac t.bD ci.C.toNat ((ci.C+(P:Int)).toNat-ci.C.toNat)) (List.replicate 16 (0:Int))}).set f {GX.J ((S.aK.set f t).set s.nf {Eh ci f pd with bD:=EE 16 (Ac t.bD ci.C.toNat ((ci.C+(P:Int)).toNat-ci.C.toNat)) (List.replicate 16 (0:Int))}) f with bC:=wi ((GX.J ((S.aK.set f t).set s.nf {Eh ci f pd with bD:=EE 16 (Ac t.bD ci.C.toNat ((ci.C+(P:Int)).toNat-ci.C.toNat)) (List.replicate 16 (0:Int))}) f).bC+1)}:=by
    rw[YO,YK,hw',ag3.fr,cQ,iX,show(⟨ci.B,0,(f:Int),ci.A,0,pd,List.replicate 16 (0:Int)⟩:aY)=Eh ci f pd from rfl,e1];rfl
   show({S with aK:=Rd (((S.aK.set f t).set (s.mem .next).toNat (⟨ci.B,0,(act S i).ay,ci.A,0,wi (wi (wi ((GX.J (S.aK.set f t) (act S i).ay.toNat).lX*1000003)+(GX.J (S.aK.set f t) (act S i).ay.toNat).bC)+1),List.replicate 16 (0:Int)⟩:aY)).set (s.mem .next).toNat (⟨ci.B,0,(act S i).ay,ci.A,0,wi (wi (wi ((GX.J (S.aK.set f t) (act S i).ay.toNat).lX*1000003)+(GX.J (S.aK.set f t) (act S i).ay.toNat).bC)+1),EE 16 (Ac (GX.J ((S.aK.set f t).set (s.mem .next).toNat (⟨ci.B,0,(act S i).ay,ci.A,0,wi (wi (wi ((GX.J (S.aK.set f t) (act S i).ay.toNat).lX*1000003)+(GX.J (S.aK.set f t) (act S i).ay.toNat).bC)+1),List.replicate 16 (0:Int)⟩:aY)) (act S i).ay.toNat).bD ci.C.toNat ((wi (ci.C+(GX.J S.code ci.B.toNat).aS)).toNat-ci.C.toNat)) (List.replicate 16 (0:Int))⟩:aY)) (act S i).ay.toNat,aj:=((S.aj.set i _).set i _).set i _}:ag)=_;rw[hX,iX,iX];rfl
 ·rw[cu h0]at hs;have htb:=yF (T:=S.aK.set f t) b hi (a:={act S i with dP:=j7 C 0 0 0 0}) hs (L6 rfl rfl);rw[htb,gH,aP (by rfl),aP (VJ b hi),w5 b hi,cQ,hst,p7];refine jN.X8 (T:=S.aK.set f t) (a:={act S i with dP:={j7 C 0 0 0 0 with aA:=0,fF:=3,mO:=0},aI:=14}) (x:=S.value) (l:=S.left) (q:=.full) b hi ?_ w1 w2 rfl rfl (b.BS (c:=.next) rfl (by rw[hp];rfl) trivial _ _ _ _ _) (Lg.nt rfl) (by show(11:Nat)≠0;decide) hTl (Eg b ag3.hn ag3.t) b.ku.left b.ku.val;show some (_,({S with aK:=S.aK.set f t,aj:=(S.aj.set i _).set i _}:ag),_)=_;rw[iX];rfl
end
def wrap(i:Nat)(D:aT)(r:aq)(S:ag)(M:af):Option (aq×Int×ag×af×aT):=if r.aN=0 then some (r,0,S,M,D)else some ({r with tw:=(i:Int)},0,S,M,D)
def VP(C:Am.kY)(p:aE)(sz n i:Nat)(M:af)(D':aT)(o:Am.Out)(r:Option (aq×Int×ag×af×aT)):Prop:=
 ∃S' M',r=some (Vq i o.ev,0,S',M',D')/\Vo C p o.s S'/\AR C o.s M' sz (n+1)/\Lg C o.s M M' o.acc
section
variable {K:Nat}{C:Am.kY}{p:aE}{s:Am.St}{S:ag}{M:af}{sz n i:Nat}{D:aT}{d:Int}
theorem Re{e:Option Am.Ev}(h:Vr e){S':ag}{M':af}:wrap i D (Dm e) S' M'=some (Vq i e,0,S',M',D):=by
 unfold wrap;cases e with
 | none=>rw[aP (show(Dm none).aN=0 from rfl)];rfl
 | some e=>rw[cu (by show ¬((e.kind:Nat):Int)=0;have:e.kind≠0:=h;omega)];rfl
theorem jN.w{o:Am.Out}{r:Option (aq×ag×af)}{r':Option (aq×Int×ag×af×aT)}(h:jN C p sz n M o r)(hr:r'=qd r (wrap i D)):VP C p sz n i M D o r':=by
 obtain⟨S',M',rfl,h1,h2,h3,h4⟩:=h;exact⟨S',M',by rw[hr,dr,Re h4],h1,h2,h3⟩
theorem N5.w{D':aT}{o:Am.Out}{r:Option (aq×ag×af×aT)}{r':Option (aq×Int×ag×af×aT)}(h:N5 C p sz n M D' o r)(hr:r'=Jk r (λe a c d=>wrap i d e a c)):VP C p sz n i M D' o r':=by
 obtain⟨S',M',rfl,h1,h2,h3,h4⟩:=h;exact⟨S',M',by rw[hr,gH,Re h4],h1,h2,h3⟩
variable (b:xJ C p s S M sz n)(hi:i<C.N)
include b hi
theorem Rf{k:Nat}(h:(act S i).aI=k)(hk:k<15):bI (GX.J S.aj i).aI Qt.length/\GX.J Qt (GX.J S.aj i).aI.toNat=GX.J Qt k:=by
 have h':(GX.J S.aj i).aI=k:=h;refine⟨by rw[h'];exact⟨I,by show(k:Int)<15;omega⟩,by rw[h',cQ]⟩
theorem Zr{k:Nat}(h:(act S i).aI=k)(hk:k=13∨k=14):bp K S M (i:Int) D=some (⟨0,0,0,0,0,0⟩,0,S,M,D):=by
 obtain⟨h1,h2⟩:=Rf b hi h I;unfold bp an;rw[fA,ef,cu (by rw[b.ku.wl];omega),fA,aP (b.BW hi),cQ,aP h1,h2,aP (by rcases hk with rfl | rfl<;>rfl)]
theorem Ya(h:(act S i).aI=0):bp K S M (i:Int) D=qd (jK S M (i:Int) D) (wrap i D):=by
 obtain⟨h1,h2⟩:=Rf b hi (k:=0) h eC;have h':(GX.J S.aj i).aI=0:=h;unfold bp jd an;rw[fA,ef,cu (by rw[b.ku.wl];omega),fA,aP (b.BW hi),cQ,aP h1,h2,cu eC,jC,aP h'];rfl
theorem adw(h:(act S i).aI=1):bp K S M (i:Int) D=qd (lj S M (i:Int) D) (wrap i D):=by
 obtain⟨h1,h2⟩:=Rf b hi (k:=1) h eC;have h':(GX.J S.aj i).aI=1:=h;unfold bp jd an;rw[fA,ef,cu (by rw[b.ku.wl];omega),fA,aP (b.BW hi),cQ,aP h1,h2,cu eC,jC,dR h',aP h'];rfl
theorem aaQ(h:(act S i).aI=2):bp K S M (i:Int) D=qd (kq S M (i:Int) D) (wrap i D):=by
 obtain⟨h1,h2⟩:=Rf b hi (k:=2) h eC;have h':(GX.J S.aj i).aI=2:=h;unfold bp jd an;rw[fA,ef,cu (by rw[b.ku.wl];omega),fA,aP (b.BW hi),cQ,aP h1,h2,cu eC,jC,dR h',dR h',aP h'];rfl
theorem yG(h:(act S i).aI=3):bp K S M (i:Int) D=qd (cF S M (i:Int) D) (wrap i D):=by
 obtain⟨h1,h2⟩:=Rf b hi (k:=3) h eC;have h':(GX.J S.aj i).aI=3:=h;unfold bp jd an;rw[fA,ef,cu (by rw[b.ku.wl];omega),fA,aP (b.BW hi),cQ,aP h1,h2,cu eC,jC,dR h',dR h',dR h',aP h'];rfl
theorem PU(h:(act S i).aI=4):bp K S M (i:Int) D=qd (eN S M (i:Int) D) (wrap i D):=by
 obtain⟨h1,h2⟩:=Rf b hi (k:=4) h eC;have h':(GX.J S.aj i).aI=4:=h;unfold bp jd an;rw[fA,ef,cu (by rw[b.ku.wl];omega),fA,aP (b.BW hi),cQ,aP h1,h2,cu eC,jC,dR h',dR h',dR h',dR h',aP h'];rfl
theorem aaR(h:(act S i).aI=5):bp K S M (i:Int) D=qd (dA S M (i:Int) D) (wrap i D):=by
 obtain⟨h1,h2⟩:=Rf b hi (k:=5) h eC;have h':(GX.J S.aj i).aI=5:=h;unfold bp jd an;rw[fA,ef,cu (by rw[b.ku.wl];omega),fA,aP (b.BW hi),cQ,aP h1,h2,cu eC,jC,dR h',dR h',dR h',dR h',dR h',aP h'];rfl
theorem Oa(h:(act S i).aI=6):bp K S M (i:Int) D=qd (fe S M (i:Int) D) (wrap i D):=by
 obtain⟨h1,h2⟩:=Rf b hi (k:=6) h eC;have h':(GX.J S.aj i).aI=6:=h;unfold bp jd an;rw[fA,ef,cu (by rw[b.ku.wl];omega),fA,aP (b.BW hi),cQ,aP h1,h2,cu eC,jC,dR h',dR h',dR h',dR h',dR h',dR h',aP h'];rfl
theorem PV(h:(act S i).aI=7):bp K S M (i:Int) D=qd (fK S M (i:Int) D) (wrap i D):=by
 obtain⟨h1,h2⟩:=Rf b hi (k:=7) h eC;have h':(GX.J S.aj i).aI=7:=h;unfold bp jd an;rw[fA,ef,cu (by rw[b.ku.wl];omega),fA,aP (b.BW hi),cQ,aP h1,h2,cu eC,jC,dR h',dR h',dR h',dR h',dR h',dR h',dR h',aP h'];rfl
theorem Fg(h:(act S i).aI=8):bp K S M (i:Int) D=qd (cZ S M (i:Int) D) (wrap i D):=by
 obtain⟨h1,h2⟩:=Rf b hi (k:=8) h eC;have h':(GX.J S.aj i).aI=8:=h;unfold bp jd an;rw[fA,ef,cu (by rw[b.ku.wl];omega),fA,aP (b.BW hi),cQ,aP h1,h2,cu eC,jC,dR h',dR h',dR h',dR h',dR h',dR h',dR h',dR h',aP h'];rfl
theorem VQ(h:(act S i).aI=9):bp K S M (i:Int) D=Jk (gp K S M (i:Int) D) (λe a c d=>wrap i d e a c):=by
 obtain⟨h1,h2⟩:=Rf b hi (k:=9) h eC;have h':(GX.J S.aj i).aI=9:=h;unfold bp jd an;rw[fA,ef,cu (by rw[b.ku.wl];omega),fA,aP (b.BW hi),cQ,aP h1,h2,cu eC,jC,dR h',dR h',dR h',dR h',dR h',dR h',dR h',dR h',dR h',aP h'];rfl
theorem Fh(h:(act S i).aI=10):bp K S M (i:Int) D=qd (cL S M (i:Int) D) (wrap i D):=by
 obtain⟨h1,h2⟩:=Rf b hi (k:=10) h eC;have h':(GX.J S.aj i).aI=10:=h;unfold bp jd an;rw[fA,ef,cu (by rw[b.ku.wl];omega),fA,aP (b.BW hi),cQ,aP h1,h2,cu eC,jC,dR h',dR h',dR h',dR h',dR h',dR h',dR h',dR h',dR h',dR h',aP h'];rfl
theorem aaS(h:(act S i).aI=11):bp K S M (i:Int) D=qd (fL K S M (i:Int) D) (wrap i D):=by
 obtain⟨h1,h2⟩:=Rf b hi (k:=11) h eC;have h':(GX.J S.aj i).aI=11:=h;unfold bp jd an;rw[fA,ef,cu (by rw[b.ku.wl];omega),fA,aP (b.BW hi),cQ,aP h1,h2,cu eC,jC,dR h',dR h',dR h',dR h',dR h',dR h',dR h',dR h',dR h',dR h',dR h',aP h'];rfl
theorem CG(h:(act S i).aI=12):bp K S M (i:Int) D=qd (bZ S M (i:Int) D) (wrap i D):=by
 obtain⟨h1,h2⟩:=Rf b hi (k:=12) h eC;have h':(GX.J S.aj i).aI=12:=h;unfold bp jd an;rw[fA,ef,cu (by rw[b.ku.wl];omega),fA,aP (b.BW hi),cQ,aP h1,h2,cu eC,jC,dR h',dR h',dR h',dR h',dR h',dR h',dR h',dR h',dR h',dR h',dR h',dR h',aP h'];rfl
def drawn(q:Am.Pc)(D:aT):aT:=match q with
 | .oB=>Js D
 | _=>D
theorem PW(hK:100<K):VP C p sz n i M (drawn (s.pc i) D) (Am.aJ C s i (DZ D)) (bp K S M (i:Int) D):=by
 obtain⟨w1,w2,w3⟩:=b.ku.wk i hi;cases hp:s.pc i with
 | halted =>
  rw[hp]at w3;rw[Zr b hi (k:=13) w3 (.inl rfl)];unfold Am.aJ;rw[hp];exact⟨S,M,rfl,b.ku,b.ar.keep rfl rfl rfl rfl,Lg.none_⟩
 | full =>
  rw[hp]at w3;rw[Zr b hi (k:=14) w3 (.inr rfl)];unfold Am.aJ;rw[hp];exact⟨S,M,rfl,b.ku,b.ar.keep rfl rfl rfl rfl,Lg.none_⟩
 | run =>
  rw[hp]at w3;obtain⟨f,ci,t,ag3,hr⟩:=X9 (M:=M) (D:=D) b hi hp;have hd:=adw (K:=K) (D:=D) b hi w3;rw[hr]at hd;have hk:ci.aN=0∨ci.aN=1∨ci.aN=2∨ci.aN=3∨ci.aN=4∨ci.aN=5∨ci.aN=6∨ci.aN=7∨ci.aN=8∨ci.aN=9:=by have:=ag3.kd;omega
  rcases hk with k | k | k | k | k | k | k | k | k | k
  ·exact(adj b hi ag3 hp k).w hd
  ·exact(adk b hi ag3 hp k).w hd
  ·exact(adl b hi ag3 hp k).w hd
  ·exact(adm b hi ag3 hp k).w hd
  ·exact(adn b hi ag3 hp k).w hd
  ·exact(adu b hi ag3 hp k).w hd
  ·exact(adr b hi ag3 hp k).w hd
  ·exact(adq b hi ag3 hp k).w hd
  ·exact(ado b hi ag3 hp k).w hd
  ·exact(ads b hi ag3 hp k).w hd
 | oB =>
  rw[hp]at w3;exact(SM b hi hp).w (VQ b hi w3.1)
 | Gc =>
  rw[hp]at w3;exact(XY b hi hK hp).w (aaS b hi w3.1)
 | flag =>
  rw[hp]at w3;rcases w3 with h | h
  ·exact(VF b hi hK hp h).w (VQ b hi h.1)
  ·exact(XZ b hi hp h).w (CG b hi h.1.1)
 | sleep =>
  rw[hp]at w3;exact(VC b hi hp).w (CG b hi w3.1.1)
 | wZ =>
  rw[hp]at w3;exact(N4 b hi hp).w (CG b hi w3.1.1)
 | GF j =>
  rw[hp]at w3;obtain⟨_,k,h,_⟩:=w3;exact(VD b hi hp).w (CG b hi h.1)
 | E4 j t =>
  rw[hp]at w3;obtain⟨_,k,h,_⟩:=w3;exact(VE b hi hp).w (CG b hi h.1)
 | parked =>
  rw[hp]at w3;obtain⟨_,k,h⟩:=w3;exact(SK b hi hp).w (CG b hi h.1)
 | back w =>
  rw[hp]at w3;obtain⟨_,k,h,_⟩:=w3;exact(X0 b hi hp).w (CG b hi h.1)
 | xZ w =>
  rw[hp]at w3;obtain⟨_,k,h,_⟩:=w3;exact(PN b hi hp).w (CG b hi h.1)
 | start x =>
  rw[hp]at w3;exact(VI b hi hp).w (Ya b hi w3.1)
 | fork c =>
  rw[hp]at w3;exact(X5 b hi hp).w (aaQ b hi w3.1)
 | ru =>
  rw[hp]at w3;exact(PS b hi hp).w (aaR b hi w3.1)
 | out pp c =>
  rw[hp]at w3;exact(aaO b hi hp).w (Oa b hi w3.1)
 | take pp c =>
  rw[hp]at w3;exact(X7 b hi hp).w (Oa b hi w3.1)
 | done =>
  rw[hp]at w3;exact(XV b hi hp).w (PV b hi w3.1)
 | tell j =>
  rw[hp]at w3;exact(XW b hi hp).w (PV b hi w3.1)
 | zj j =>
  rw[hp]at w3;exact(PL b hi hp).w (PV b hi w3.1)
 | DL c =>
  rw[hp]at w3;exact(Vu b hi hp).w (yG b hi w3.1)
 | BE c bb =>
  rw[hp]at w3;exact(Vv b hi hp).w (yG b hi w3.1)
 | uJ c bb t =>
  rw[hp]at w3;exact(Pz b hi hp).w (yG b hi w3.1)
 | uK c bb t =>
  rw[hp]at w3;exact(PA b hi hp).w (yG b hi w3.1)
 | grow c bb t cc =>
  rw[hp]at w3;exact(XP b hi hp).w (yG b hi w3.1)
 | p9 c bb t cc =>
  rw[hp]at w3;exact(PC b hi hp).w (yG b hi w3.1)
 | nM c bb t cc m =>
  rw[hp]at w3;exact(NW b hi hp).w (yG b hi w3.1)
 | nU c bb t cc m x =>
  rw[hp]at w3;exact(L1 b hi hp).w (yG b hi w3.1)
 | qP c bb t cc =>
  rw[hp]at w3;exact(PD b hi hp).w (yG b hi w3.1)
 | nN c bb cc =>
  rw[hp]at w3;exact(NX b hi hp).w (yG b hi w3.1)
 | ry c bb =>
  rw[hp]at w3;exact(PF b hi hp).w (yG b hi w3.1)
 | IY =>
  rw[hp]at w3;exact(XU b hi hp).w (PU b hi w3.1)
 | vG j =>
  rw[hp]at w3;exact(PJ b hi hp).w (PU b hi w3.1)
 | xY j =>
  rw[hp]at w3;exact(PK b hi hp).w (PU b hi w3.1)
 | E3 =>
  rw[hp]at w3;exact(XR b hi hp).w (Fg b hi w3.1)
 | yE bb =>
  rw[hp]at w3;exact(Sx b hi hp).w (Fg b hi w3.1)
 | sQ bb =>
  rw[hp]at w3;exact(NY b hi hp).w (Fg b hi w3.1)
 | Eb bb =>
  rw[hp]at w3;exact(XS b hi hp).w (Fg b hi w3.1)
 | rN t =>
  rw[hp]at w3;exact(NZ b hi hp).w (Fg b hi w3.1)
 | wo bb t =>
  rw[hp]at w3;exact(Sy b hi hp).w (Fg b hi w3.1)
 | sF bb t cc =>
  rw[hp]at w3;exact(PG b hi hp).w (Fg b hi w3.1)
 | uT bb t x =>
  rw[hp]at w3;exact(Sz b hi hp).w (Fg b hi w3.1)
 | tc t x w =>
  rw[hp]at w3;exact(SA b hi hp).w (Fg b hi w3.1)
 | xq v t =>
  rw[hp]at w3;exact(SC b hi hp).w (Fh b hi w3.1)
 | sR v t =>
  rw[hp]at w3;exact(N0 b hi hp).w (Fh b hi w3.1)
 | rO v t g =>
  rw[hp]at w3;exact(N1 b hi hp).w (Fh b hi w3.1)
 | pG v t g cc =>
  rw[hp]at w3;exact(L2 b hi hp).w (Fh b hi w3.1)
 | oK v t x =>
  rw[hp]at w3;exact(N2 b hi hp).w (Fh b hi w3.1)
theorem VR{S':ag}{M':af}(h1:Vo C p (Am.aJ C s i d).s S')(h2:AR C (Am.aJ C s i d).s M' sz (n+1))(hn:n+1<=1000000000):xJ C p (Am.aJ C s i d).s S' M' sz (n+1):=
 ⟨b.ok,h1,h2,b.z.aJ b.ok b.dt hi d,b.bd.aJ d,b.dt.aJ hi d,Am.FI.aJ b.fi b.dt hi d,b.fr.aJ b.ok b.fi b.dt hi d,hn,b.vd,b.cf,b.room⟩
end
section
variable {K:Nat}
def cq(f m:Nat):Nat->Nat
 | 0=>f
 | g+1=>min (2*cq f m g) m
def tq(f m:Nat):Nat->Nat
 | 0=>0
 | g+1=>tq f m g+1+cq f m (g+1)
theorem Rg{f m:Nat}(h:f<=m):∀g,cq f m g<=m
 | 0=>h
 | g+1=>by simp only[cq];omega
theorem L7{f m:Nat}(h1:1<=f)(h:f<=m):∀g,1<=cq f m g
 | 0=>h1
 | g+1=>by have:=L7 h1 h g;simp only[cq];omega
theorem PX{f m:Nat}(h1:1<=f)(hf:f<=m):∀(d g:Nat),m-cq f m g<=d->∃ag2,g<=ag2/\cq f m ag2=m/\(∀x,g<=x->x<ag2->cq f m x<m)/\tq f m g<=tq f m ag2/\(cq f m g=m->ag2=g)/\(2<=cq f m g->2*(tq f m ag2-tq f m g)+5*cq f m g<=7*m)/\2*(tq f m ag2-tq f m g)<=7*m
 | d,g,hd=>by
  have hl:=Rg hf g;have hp:=L7 h1 hf g;by_cases e:cq f m g<m
  ·have hn:cq f m (g+1)=min (2*cq f m g) m:=rfl;have hT:tq f m (g+1)=tq f m g+1+cq f m (g+1):=rfl;obtain⟨d,rfl⟩ :∃n,d=n+1:=⟨d-1,I⟩;obtain⟨ag2,a1,a2,a3,a4,a5,a6,a7⟩:=PX h1 hf d (g+1) I;refine⟨ag2,I,a2,λx hx hG => ?_,I,λh=>I,λh => ?_,?_⟩
   ·by_cases ex:x=g
    ·rw[ex];exact e
    ·exact a3 x I hG
   ·by_cases e2:cq f m (g+1)=m
    ·have:=a5 e2;subst this;omega
    ·have:=a6 I;omega
   ·by_cases e2:cq f m (g+1)=m
    ·have:=a5 e2;subst this;omega
    ·have:=a6 I;omega
  ·have e':cq f m g=m:=by omega
   exact⟨g,jU _,e',λx h1 h2=>I,jU _,λ_=>rfl,λh=>I,I⟩
theorem Rh{f m ag2:Nat}(hf:f<=m)(hm:m<=4096)(hG:cq f m ag2=m)(hT:tq f m ag2<=100000):∀(d g k:Nat) (z:Int),g+d=ag2->d<k->(∀x,g<=x->x<ag2->cq f m x<m)->0<=z->z+((tq f m ag2-tq f m g:Nat):Int)<=1000000->tq f m g<=tq f m ag2->
 mZ K (m:Int) k z (cq f m g:Nat)=some (z+((tq f m ag2-tq f m g:Nat):Int))
 | d,g,k,z,hd,hk,hx,hz,hz2,ht=>by
  obtain⟨k,rfl⟩ :∃n,k=n+1:=⟨k-1,I⟩;have hl:=Rg hf g;rw[mZ];by_cases e:g=ag2
  ·subst e;rw[hG,ef,Nat.sub_self];simp
  ·obtain⟨d,rfl⟩ :∃n,d=n+1:=⟨d-1,I⟩;have h1:=hx g (jU _) I;have hn:cq f m (g+1)=min (2*cq f m g) m:=rfl;have hT':tq f m (g+1)=tq f m g+1+cq f m (g+1):=rfl;have Yb:∀y,g+1+y<=ag2->tq f m (g+1)<=tq f m (g+1+y):=λy=>by
    induction y with
    | zero=>intro _;exact jU _
    | succ y ih=>intro h;have:=ih I;show _<=tq f m (g+1+y)+1+cq f m (g+1+y+1);omega
   have hle:tq f m (g+1)<=tq f m ag2:=by have:=Yb (ag2-(g+1)) I;rwa [show g+1+(ag2-(g+1))=ag2 by omega]at this
   have hc:(if(m:Int)<wi ((2:Int)*((cq f m g:Nat):Int))then(m:Int)else wi ((2:Int)*((cq f m g:Nat):Int)))=((cq f m (g+1):Nat):Int):=by
    rw[eO I];split<;>omega
   rw[p7,hc,eO (x:=z+1) I,eO (x:=z+1+_) I,
    Rh hf hm hG hT d (g+1) k _ I I (λx h1 h2=>hx x I h2) I I hle]
   congr 1;omega
theorem Yc{N F:Nat}{mb:eP}{f m:Nat}(hl:Zi mb.cB mb.dY mb.j0)(hF:mb.cB=F)(hf:mb.dY=f)(hm:mb.j0=m)(hN1:1<=N)(hN:N<=64)(hK:5000<K) :
 ∃ag2,cq f m ag2=m/\(∀x,x<ag2->cq f m x<m)/\tq f m ag2<=15000/\zd K (N:Int) mb=some ((4+10*F+N+N*(4+f+tq f m ag2):Nat):Int)/\4+10*F+N+N*(4+f+tq f m ag2)<=1048576:=by
 have f1:=hl.f1;have f2:=hl.f2;have a1:=hl.a1;have a2:=hl.a2;have m2:=hl.m2;obtain⟨ag2,g1,g2,g3,g4,g5,g6,g7⟩:=PX (f:=f) (m:=m) I I (m-cq f m 0) 0 (jU _);have h0:tq f m 0=0:=rfl;have h0':cq f m 0=f:=rfl;rw[h0']at g5 g6;rw[h0]at g6 g7;have hb:2*(4+f+tq f m ag2)<=28690:=by
  by_cases e:2<=f
  ·have:=g6 e;omega
  ·omega
 refine⟨ag2,g2,λx hx=>g3 x (Et _) hx,I,?_,?_⟩
 ·unfold zd kZ uZ;have hGK:ag2<K:=by
   have Yb:∀x,x<=ag2->x<=tq f m x:=λx=>by
    induction x with
    | zero=>intro _;exact jU _
    | succ y ih=>intro h;have:=ih I;show _<=tq f m y+1+cq f m (y+1);omega
   have h9:∀x,x<=ag2->x<=cq f m x:=λx=>by
    induction x with
    | zero=>intro _;exact Et _
    | succ y ih =>
     intro h;have:=ih I;have:=g3 y (Et _) I;have:=L7 (f:=f) (m:=m) I I y;show _<=min (2*cq f m y) m;omega
   have:=h9 ag2 (jU _);omega
  have e:=Rh (K:=K) (f:=f) (m:=m) (ag2:=ag2) I I g2 I ag2 0 K (4+(f:Int)) I hGK (λx h1 h2=>g3 x h1 h2) I I (by rw[h0];omega);rw[h0,h0',Nat.sub_zero]at e;rw[ef,ef,ef,ef,ef,ef,au,cu (by simp;omega),fA,hf,hm,eO (x:=4+(f:Int)) I,e,au,hF,
   eO (x:=(F:Int)*10) I,eO (x:=(2:Int)+(F:Int)*10) I,eO (x:=(2:Int)+(F:Int)*10+2) I,eO (x:=(2:Int)+(F:Int)*10+2+(N:Int)) I]
  have hmul:(N:Int)*(4+(f:Int)+((tq f m ag2:Nat):Int))=((N*(4+f+tq f m ag2):Nat):Int):=by simp
  have hb2:N*(4+f+tq f m ag2)<=64*14345:=Nat.mul_le_mul hN I;rw[hmul,eO (x:=((N*(4+f+tq f m ag2):Nat):Int)) I,eO I]
  congr 1;omega
 ·have hb2:N*(4+f+tq f m ag2)<=64*14345:=Nat.mul_le_mul hN I;omega
end
def init(C:Am.kY)(args:List Int):Am.St:=
 { mem:=λa=>match a with
    | .next=>1
    | .join _=>1
    | .buf i=>(Am.xu C i:Int)+3
    | .cap _ g=>if g=0 then(C.first:Int)else 0
    | _=>0
   pc:=λi=>if i=0 then .start (-1)else .oB
   hold:=λi=>if i=0 then some 0 else none
   gu:=λ_=>0
   fr:=λf=>{fn:=0,J:=0,par:=0,slot:=0,bC:=0,lX:=if f=0 then 1 else 0,bD:=λr=>if f=0 then GX.J args r else 0}
   nf:=1
   cur:=λ_=>0
   base:=λj _=>(Am.xu C j:Int)+3
   size:=Am.S0 C
   val:=none
   LI:=false
   loc:=λf=>if f=0 then .held 0 else .free
   q:=λ_=>[]
   pop:=λ_=>none
   bC:=λ_=>[]}
section
variable {C:Am.kY}{args:List Int}
theorem Yd(j:Nat):Am.mh ((init C args).pc j)=false:=by show Am.mh (if j=0 then _ else _)=false;split<;>rfl
theorem Aq(j:Nat):Am.gen (init C args) j=0:=by unfold Am.gen;rw[Yd];rfl
theorem Ye(hC:C.OK):Am.SZ C (init C args) where
 cap:=λj hj g hg=>by
  have LB:g=0:=Nat.le_zero.1 hg;subst LB;rfl
 Vi:=λj hj=>rfl
 size:=by
  show(Am.S0 C:Int)=_;rw[Am.Ec (g:=λ_=>0) (λj _=>by rw[Aq];rfl)];have:∀n,Am.sS (λ_=>0) n=0:=λn=>by induction n with
   | zero=>rfl
   | succ n ih=>show Am.sS (λ_=>0) n+0=0;rw[ih]
  rw[this];simp
 bs:=λj hj g h1 h2=>by rw[Aq]at h2;omega
 dj:=λj j' g g' _ _ h1 _ h2 _ _=>by rw[Aq]at h2;omega
 gm:=λj hj g hg=>by rw[Aq]at hg;omega
theorem Yf:Am.BD (init C args) 0 where
 m:=λa ha=>by cases a<;>first | exact Bool.noConfusion ha | exact⟨by show -_<=(1:Int);omega,by show(1:Int)<=_;omega⟩ | exact⟨by show -_<=(0:Int);omega,by show(0:Int)<=_;omega⟩
 r:=λi x hx=>by
  have:Am.hH ((init C args).pc i)=[]:=by show Am.hH (if i=0 then _ else _)=[];split<;>rfl
  rw[this]at hx;cases hx
 k:=λf=>jU _
theorem Yg(hC:C.OK):Am.DT C (init C args):=by
 refine⟨λj hj => ?_,λi hi => ?_⟩
 ·refine⟨yY _,λg hg => ?_,?_,rfl,λm hm=>absurd hm (Nat.not_lt_zero _),?_⟩
  ·have LB:g=0:=Nat.le_zero.1 hg;subst LB;have:=hC.c1;show(1:Int)<=(C.first:Int);omega
  ·have:=hC.cm;show(C.first:Int)<=C.most;omega
  ·refine(Am.rz.idle ?_).2 ⟨rfl,?_⟩
   ·show Am.Idle (if j=0 then _ else _);split<;>trivial
   ·show(0:Int)<=(C.first:Int);omega
 ·unfold Am.Th;by_cases e:i=0
  ·rw[show(init C args).pc i= .start (-1)from aP e];trivial
  ·rw[show(init C args).pc i= .oB from cu e];show C.N≠1;omega
theorem Yh(hC:C.OK):(Am.view (init C args)).FI C.N C.F:=by
 have hg:∀i,(Am.view (init C args)).g i=if i=0 then .start else .none:=λi=>by show Am.sig (if i=0 then _ else _)=_;split<;>rfl
 have hh:∀i,(Am.view (init C args)).hold i=if i=0 then some 0 else none:=λ_=>rfl;have hl:∀f,(Am.view (init C args)).loc f=if f=0 then .held 0 else .free:=λ_=>rfl;have hq:∀i,(Am.view (init C args)).q i=[]:=λ_=>rfl;have hk:∀i,(Am.view (init C args)).bC i=[]:=λ_=>rfl;have hpo:∀i,(Am.view (init C args)).pop i=none:=λ_=>rfl;have hj:∀f,(Am.view (init C args)).join f=1:=λ_=>rfl;have hm:∀f,(Am.view (init C args)).mark f=0:=λ_=>rfl;have hp:∀f,(Am.view (init C args)).par f=0:=λ_=>rfl;have hn:(Am.view (init C args)).nf=1:=rfl;have hx:(Am.view (init C args)).next=1:=rfl;have f1:=hC.f1;constructor
 ·omega
 ·omega
 ·left;rw[hx,hn];rfl
 ·intro f hf;rw[hl,ef]
 ·intro f hf;rw[hl,p7];simp
 ·intro f hf;rw[hk,hj];exact⟨rfl,rfl⟩
 ·intro i f hi h;rw[hh]at h;split at h
  ·next e=>cases h;right;rw[hg,aP e,hl,aP rfl,e];exact⟨by simp,rfl⟩
  ·cases h
 ·intro i hi h;rw[hg]at h;split at h
  ·next e=>rw[hh,aP e];simp
  ·cases h
 ·intro i hi h;rw[hg]at h;split at h
  ·cases h
  ·next e=>rw[hh,cu e]
 ·intro i c hi h;rw[hg]at h;split at h<;>cases h
 ·intro i c hi h;rw[hg]at h;split at h<;>cases h
 ·intro j x hj h;rw[hq]at h;cases h
 ·intro j hj;rw[hq];exact List.nodup_nil
 ·intro i x hi h;rw[hpo]at h;cases h
 ·intro i pp c hi h;rw[hg]at h;split at h<;>cases h
 ·intro i pp c hi h;rw[hg]at h;split at h<;>cases h
 ·intro i pp c hi h;rw[hg]at h;split at h<;>cases h
 ·intro pp;rw[hk];exact List.nodup_nil
 ·intro pp c h;rw[hk]at h;cases h
 ·intro c h0 hc;omega
 ·intro c hc;rw[hp];omega
 ·intro f hf;rw[hl,p7,hj,hk];rfl
 ·intro f _;exact hm f
 ·intro i f _ _ _;exact hm f
theorem Yi(hC:C.OK):Am.FR C (init C args):=λf hf=>⟨hC.fn0,by show(0:Nat)<8;decide,λ_=>hC.aaB 0 hC.fn0⟩
theorem Yj{N F:Nat}{c:List Int}(hC:C.OK)(hN:C.N=N)(hF:C.F=F){ag1:Nat}(hW:ag1=4+C.first)(L:IX N F ag1 (C.first:Int) c):Am.CL C (init C args) c:=by
 subst hN;subst hF;subst hW;have afH:∀i,Am.xu C i=4+10*C.F+C.N+i*(4+C.first):=λ_=>rfl;refine⟨by show(c.length:Int)=(Am.S0 C:Int);rw[L.len];rfl,λa ha => ?_⟩;have key:∀k:Nat,Am.cH C (init C args) a=(k:Int)->c.getD (Am.cH C (init C args) a).toNat 0=GX.J c k:=λk hk=>by rw[hk];rfl
 have dq:=λi hi r hr=>L.dq i hi r hr;cases a with
 | result=>exact(key 0 rfl).trans L.c0
 | next=>exact(key 1 rfl).trans L.c1
 | join f=>exact(key (2+10*f+0) (by show(2:Int)+10*f=_;omega)).trans (L.fr f ha 0 I)
 | mark f=>exact(key (2+10*f+1) (by show(3:Int)+10*f=_;omega)).trans (L.fr f ha 1 I)
 | slot f k=>have h8:=ha.2;exact(key (2+10*f+(2+k)) (by show(4:Int)+10*f+k=_;omega)).trans ((L.fr f ha.1 (2+k) I).trans (cu I))
 | ve=>exact(key (2+10*C.F+0) (by show(2:Int)+10*C.F=_;omega)).trans (L.lot 0 I)
 | Gb=>exact(key (2+10*C.F+1) (by show(3:Int)+10*C.F=_;omega)).trans (L.lot 1 I)
 | flag i=>have hi:i<C.N:=ha;exact(key (2+10*C.F+(2+i)) (by show(4:Int)+10*C.F+i=_;omega)).trans (L.lot (2+i) I)
 | top i=>exact(key (4+10*C.F+C.N+i*(4+C.first)+0) rfl).trans (dq i ha 0 I)
 | bot i=>exact(key (4+10*C.F+C.N+i*(4+C.first)+1) rfl).trans (dq i ha 1 I)
 | buf i=>exact(key (4+10*C.F+C.N+i*(4+C.first)+2) rfl).trans (dq i ha 2 I)
 | cap i g =>
  have hg:g=0:=by have:=ha.2;rw[Aq]at this;omega
  subst hg;exact(key (4+10*C.F+C.N+i*(4+C.first)+3) rfl).trans (dq i ha.1 3 I)
 | el i g m =>
  have hg:g=0:=by have:=ha.2.1;rw[Aq]at this;omega
  subst hg;have hm:m<C.first:=ha.2.2;exact(key (4+10*C.F+C.N+i*(4+C.first)+(4+m)) (by show(Am.xu C i:Int)+3+1+m=_;rw[afH];omega)).trans ((dq i ha.1 (4+m) I).trans (by rw[ef,ef];rfl))
end
theorem PY(C:Am.kY):∀g,Am.vW C g=cq C.first C.most g
 | 0=>rfl
 | g+1=>by show min (2*Am.vW C g) C.most=min (2*cq C.first C.most g) C.most;rw[PY C g]
theorem VS(C:Am.kY):∀g,Am.tot C g=tq C.first C.most g
 | 0=>rfl
 | g+1=>by show Am.tot C g+1+Am.vW C (g+1)=tq C.first C.most g+1+cq C.first C.most (g+1);rw[VS C g,PY C (g+1)]
theorem VT{p:aE}{args:List Int}{N F f m sz ag2:Nat}{c:List Int}{l:List aW}{w:Bool}(hv:Valid p)(ha:(args.length:Int)=(GX.J p.ah 0).aS)(Om:1<=N)(hn:N<=64)(hf1:1<=F)(hf:F<=4096)(h1:1<=f)(Zm:f<=m)(hm:m<=4096)
 (hG:cq f m ag2=m) (hsz:sz=4+10*F+N+N*(4+f+tq f m ag2)) (hs1:sz<=1048576) (L:IX N F (4+f) (f:Int) c) (hl:l=[]) {x:Int}:xJ (cfg p N F f m) p (init (cfg p N F f m) args) (acT p args N F (4+f) m) (ar sz c l x w) sz 0:=by
 have hC:=Vm (p:=p) (N:=N) (F:=F) (f:=f) (m:=m) hv Om hn hf1 hf h1 Zm hm;have hz:=Ye (args:=args) hC;have hroom:(sz:Int)=Am.S0 (cfg p N F f m)+(cfg p N F f m).N*Am.tot (cfg p N F f m) ag2:=by
  rw[VS];show(sz:Int)=((4+10*F+N+N*(4+f):Nat):Int)+(N:Int)*(tq f m ag2:Int);rw[hsz,show 4+f+tq f m ag2=(4+f)+tq f m ag2 from rfl,Nat.mul_add];simp;omega
 have hcap:Am.vW (cfg p N F f m) ag2=(cfg p N F f m).most:=by rw[PY];exact hG
 have hp8:=(hv.G3 0 hv.n1).p8;subst hl;refine⟨hC,?_,⟨rfl,hs1,NV hz hroom hcap,rfl,Yj hC rfl rfl rfl L,jU _⟩,hz,Yf,Yg hC,Yh hC,Yi hC,I,hv,rfl,ag2,hroom,hcap⟩;refine⟨rfl,rfl,rfl,rfl,rfl,rfl,?_,λv hvN => ?_,?_,λg hg => ?_,?_,λi hi => ?_,rfl,rfl⟩
 ·exact QY N 0
 ·have h:=Vc (B:=4+10*F+N) (ag1:=4+f) (most:=(m:Int)) N 0 v hvN;rw[BX]at h;exact h
 ·show((List.replicate F Vf).set 0 _).length=F;rw[hU,n7]
 ·have LB:g=0:=by have:g<1:=hg;omega
  subst LB;show Ss _ 0 (GX.J ((List.replicate F Vf).set 0 _) 0);rw[rf (by rw[n7];omega),aP rfl];refine⟨rfl,rfl,rfl,rfl,rfl,rfl,λr hr => ?_⟩;show GX.J (EE 16 args (List.replicate 16 0)) r=GX.J args r;rw[Zp hr];split
  ·rfl
  ·next e=>rw[I9];unfold GX.J;rw[List.getD_eq_getElem?_getD,List.getElem?_eq_none I];rfl
 ·show((zJ 0 N).set 0 _).length=N;rw[hU,Bh]
 ·show aOK _ _ i (GX.J ((zJ 0 N).set 0 _) i);have hiN:i<N:=hi;rw[rf (by rw[Bh];omega)];by_cases e:i=0
  ·subst e;rw[aP rfl];exact⟨rfl,rfl,rfl,rfl⟩
  ·rw[cu e,Ga N 0 i hiN,BX];refine⟨rfl,by show(-1:Int)=fi (if i=0 then some 0 else none);rw[cu e];rfl,?_⟩;rw[show(init (cfg p N F f m) args).pc i= .oB from cu e];exact⟨rfl,rfl,by show(0:Nat)<3;decide⟩
section
variable {K:Nat}
theorem Ri{x n:Int}(h1:1<=n)(h2:n<=1000) :∃i:Nat,iL x n=some (i:Int)/\(i:Int)<n:=by
 have e1:=B7 x (b:=n) I;have e2:=Dx x (show 0<n by omega);have e4:x.tmod n=if 0<=x∨n∣x then x%n else x%n-n:=by
  rw[Ke];split
  ·omega
  ·rw[show((n.natAbs:Nat):Int)=n by omega]
 refine⟨(x%n).toNat,?_,I⟩;rw[show(((x%n).toNat:Nat):Int)=x%n by omega];unfold iL;rw[p7,e4];by_cases h:0<=x∨n∣x
 ·rw[aP h,ef]
 ·rw[cu h,p7,eO I];congr 1;omega
end
section
variable {K:Nat}
theorem adx{C:Am.kY}{i cj tr:Nat}{p:Am.Pc}{bs:Nat->Nat->Int}{a:bH}(h:ph C i p tr cj bs a)(h13:a.aI=13):p= .halted:=by
 cases p<;>first | rfl | (exfalso;dsimp only [ph,RO]at h;first | omega | (have:=h.1;omega))
section
variable {C:Am.kY}{p:aE}{s:Am.St}{S:ag}{M:af}{sz n i:Nat}{D:aT}
theorem SW(h:Vo C p s S)(hi:i<C.N):oJ S M (i:Int)=some ((act S i).aI==13):=by
 unfold oJ;rw[p7,aP (by rw[h.wl];omega),aP ⟨I,by rw[h.wl];omega⟩,cQ]
theorem aaT(h:M.log.length<=2000000000):qx M=some M.log:=by
 unfold qx;rw[aP ⟨I,I⟩,aP (by rw[n7])]
end
theorem SX{C:Am.kY}{p:aE}{s:Am.St}{S:ag}{M:af}{sz n:Nat}(b:xJ C p s S M sz n)(w:Bool):xJ C p s S {M with watched:=w} sz n:=
 { b with ar:=⟨b.ar.size,b.ar.s1,b.ar.fit,b.ar.mark,b.ar.cl,b.ar.lg⟩}
end
end Mo
end
section
namespace Am
structure OnG where
 st:Nat->Nat
 lX:Nat->Int
 bC:Nat->Nat
def ady(C:kY)(o:OnG)(e:Ev):Prop:=
 if e.kind=2 then o.st e.ay.toNat=0/\o.st e.x.toNat=2/\e.v=C.pd (o.lX e.x.toNat) (o.bC e.x.toNat)/\e.ay.toNat≠e.x.toNat
 else if e.kind=1 then o.st e.ay.toNat=1/\e.v=1
 else if e.kind=6 then o.st e.ay.toNat=2
 else True
def adz(C:kY)(o:OnG)(e:Ev):OnG:=
 if e.kind=2 then⟨cI o.st e.ay.toNat 1,cI o.lX e.ay.toNat (C.pd (o.lX e.x.toNat) (o.bC e.x.toNat)),cI o.bC e.x.toNat (o.bC e.x.toNat+1)⟩
 else if e.kind=1 then {o with st:=cI o.st e.ay.toNat 2}
 else if e.kind=6 then {o with st:=cI o.st e.ay.toNat 3}
 else o
def adB:Loc->Option Nat
 | .free | .cr _=>some 0
 | .Ow _ | .pop _=>some 1
 | .uL _ | .waiting | .uU _=>some 2
 | .fin _ | .gone=>some 3
 | .held _=>none
def plain:Sig->Bool
 | .fork _ | .push _ | .full=>false
 | _=>true
structure OI(C:kY)(w:ag1)(o:OnG):Prop where
 a:∀f n,adB (w.v.loc f)=some n->o.st f=n
 h:∀i f,i<C.N->w.v.hold i=some f->o.st f=if w.v.g i= .start then 1 else 2
 p:∀f,f<w.v.nf->o.st f≠0->o.lX f=w.lX f
 k:∀f,f<w.v.nf->(∀i,i<C.N->w.v.hold i=some f->plain (w.v.g i)=true)->o.bC f=w.kc f
 fk:∀i c f,i<C.N->w.v.hold i=some f->w.v.g i= .fork c->w.kc f=o.bC f+1/\w.lX c=C.pd (w.lX f) (o.bC f)
 ps:∀i c f,i<C.N->w.v.hold i=some f->w.v.g i= .push c->w.kc f=o.bC f+1/\w.lX c=C.pd (w.lX f) (o.bC f)
 nw:∀f,w.v.nf<=f->o.bC f=0
attribute [grind =] cS
attribute [grind] adB plain
theorem aaU{C:kY}{o:OnG}{e:Ev}:ady C o e=(if e.kind=2 then o.st e.ay.toNat=0/\o.st e.x.toNat=2/\e.v=C.pd (o.lX e.x.toNat) (o.bC e.x.toNat)/\e.ay.toNat≠e.x.toNat
 else if e.kind=1 then o.st e.ay.toNat=1/\e.v=1
 else if e.kind=6 then o.st e.ay.toNat=2
 else True):=rfl
section
variable {C:kY}{w:ag1}{i:Nat}{o:OnG}
theorem yH{v:V}{N F:Nat}(h:v.FI N F){i j f:Nat}(hi:i<N)(hj:j<N)(h1:v.hold i=some f)(h2:v.hold j=some f):i=j:=by
 have a:=h.hold i f hi h1;have b:=h.hold j f hj h2;grind
theorem wG{v:V}{N F:Nat}(h:v.FI N F){i f:Nat}(hi:i<N)(h1:v.hold i=some f):f<v.nf:=by
 have a:=h.hold i f hi h1;have b:=h.free f;grind
theorem OI.kf(q:OI C w o)(h:w.v.FI C.N C.F)(hi:i<C.N)(hg:w.v.g i= .run){f:Nat}(hf:w.v.hold i=some f):f<w.v.nf/\o.bC f=w.kc f:=
 ⟨wG h hi hf,q.k f (wG h hi hf) (λj hj hjf=>by rw[<-yH h hi hj hf hjf,hg];rfl)⟩
theorem OI.full(q:OI C w o)(h:w.v.FI C.N C.F)(hi:i<C.N){c:Nat}(hg:w.v.g i= .push c) :
 OI C {w with v:={w.v with g:=cI w.v.g i .full}} o where
 a:=q.a
 h:=by have z0:=q.h;have z1:=q.a;have y0:=h.hold;grind
 p:=q.p
 k:=by have z0:=q.k;have z1:=q.a;have z2:=q.h;have y0:=h.hold;grind
 fk:=by have z0:=q.fk;have z1:=q.a;have z2:=q.h;have y0:=h.hold;grind
 ps:=by have z0:=q.ps;have z1:=q.a;have z2:=q.h;have y0:=h.hold;grind
 nw:=q.nw
theorem OI.start(q:OI C w o)(h:w.v.FI C.N C.F)(hi:i<C.N){f:Nat}(hg:w.v.g i= .start)(hf:w.v.hold i=some f){m:Int} :
 OI C {w with v:={w.v with g:=cI w.v.g i .run,mark:=cI w.v.mark f m},fx:=cI w.fx i 0} {o with st:=cI o.st f 2} where
 a:=by have z0:=q.a;have z1:=q.h;have y0:=h.hold;grind
 h:=by have z0:=q.h;have z1:=q.a;have y0:=h.hold;grind
 p:=by have z0:=q.p;have z1:=q.a;have z2:=q.h;have y0:=h.hold;grind
 k:=by have z0:=q.k;have z1:=q.a;have z2:=q.h;have y0:=h.hold;grind
 fk:=by have z0:=q.fk;have z1:=q.a;have z2:=q.h;have y0:=h.hold;grind
 ps:=by have z0:=q.ps;have z1:=q.a;have z2:=q.h;have y0:=h.hold;grind
 nw:=q.nw
theorem OI.spawn(q:OI C w o)(h:w.v.FI C.N C.F)(hi:i<C.N){f:Nat}(hg:w.v.g i= .run)(hf:w.v.hold i=some f)(hn:w.v.next<C.F) :
 OI C {w with v:={w.v with g:=cI w.v.g i (.fork w.v.nf),next:=w.v.next+1,nf:=w.v.nf+1,par:=cI w.v.par w.v.nf f,loc:=cI w.v.loc w.v.nf (.cr i)},lX:=cI w.lX w.v.nf (C.pd (w.lX f) (w.kc f)),kc:=cI (cI w.kc f (w.kc f+1)) w.v.nf 0} o where
 a:=by have z0:=q.a;have z1:=q.h;have z2:=q.k;have z3:=q.nw;have y0:=h.hold;have y1:=h.free;have y2:=h.used;have y3:=h.fk;have y4:=h.ps;have y5:=h.new;grind
 h:=by have z0:=q.h;have z1:=q.a;have z2:=q.k;have z3:=q.nw;have y0:=h.hold;have y1:=h.free;have y2:=h.used;have y3:=h.fk;have y4:=h.ps;have y5:=h.new;grind
 p:=by have z0:=q.p;have z1:=q.a;have z2:=q.h;have z3:=q.k;have z4:=q.nw;have y0:=h.hold;have y1:=h.free;have y2:=h.used;have y3:=h.fk;have y4:=h.ps;have y5:=h.new;grind
 k:=by have z0:=q.k;have z1:=q.a;have z2:=q.h;have z3:=q.nw;have y0:=h.hold;have y1:=h.free;have y2:=h.used;have y3:=h.fk;have y4:=h.ps;have y5:=h.new;grind
 fk:=λj c g hj hh hgj=>by
  obtain⟨y1,y2⟩:=q.kf h hi hg hf;have y3:=wG h hj hh;have y4:=h.free w.v.nf (jU _);have y5:g=f->i=j:=λe=>yH h hi hj hf (by rw[<-e];exact hh);have y6:=q.fk j c g hj hh;have y7:=h.fk j c hj;simp only[cS]at hgj⊢;by_cases e:j=i
  ·subst e;have:g=f:=Option.some.inj (hh.symm.trans hf);grind
  ·rw[cu e]at hgj;grind
 ps:=λj c g hj hh hgj=>by
  obtain⟨y1,y2⟩:=q.kf h hi hg hf;have y3:=wG h hj hh;have y4:=h.free w.v.nf (jU _);have y5:g=f->i=j:=λe=>yH h hi hj hf (by rw[<-e];exact hh);have y6:=q.ps j c g hj hh;have y7:=h.ps j c hj;simp only[cS]at hgj⊢;by_cases e:j=i
  ·subst e;have:g=f:=Option.some.inj (hh.symm.trans hf);grind
  ·rw[cu e]at hgj;grind
 nw:=by have z0:=q.nw;have z1:=q.a;have z2:=q.h;have z3:=q.k;have y0:=h.hold;have y1:=h.free;have y2:=h.used;have y3:=h.fk;have y4:=h.ps;have y5:=h.new;grind
theorem OI.CD(q:OI C w o)(h:w.v.FI C.N C.F)(hi:i<C.N)(hg:w.v.g i= .run) :
 OI C {w with v:={w.v with g:=cI w.v.g i .full,next:=w.v.next+1}} o where
 a:=q.a
 h:=by have z0:=q.h;have z1:=q.a;have y0:=h.hold;grind
 p:=q.p
 k:=by have z0:=q.k;have z1:=q.a;have z2:=q.h;have y0:=h.hold;grind
 fk:=by have z0:=q.fk;have z1:=q.a;have z2:=q.h;have y0:=h.hold;grind
 ps:=by have z0:=q.ps;have z1:=q.a;have z2:=q.h;have y0:=h.hold;grind
 nw:=q.nw
theorem OI.fork(q:OI C w o)(h:w.v.FI C.N C.F)(hi:i<C.N){c f:Nat}(hg:w.v.g i= .fork c)(hf:w.v.hold i=some f) :
 OI C {w with v:={w.v with g:=cI w.v.g i (.push c),join:=cI w.v.join f (w.v.join f+1),bC:=cI w.v.bC f (c::w.v.bC f)}} o where
 a:=q.a
 h:=by have z0:=q.h;have z1:=q.a;have z2:=q.fk;have y0:=h.hold;grind
 p:=q.p
 k:=by have z0:=q.k;have z1:=q.a;have z2:=q.h;have z3:=q.fk;have y0:=h.hold;grind
 fk:=by have z0:=q.fk;have z1:=q.a;have z2:=q.h;have y0:=h.hold;grind
 ps:=by have z0:=q.ps;have z1:=q.a;have z2:=q.h;have z3:=q.fk;have y0:=h.hold;grind
 nw:=q.nw
theorem OI.push(q:OI C w o)(h:w.v.FI C.N C.F)(hi:i<C.N){c f:Nat}(hg:w.v.g i= .push c)(hf:w.v.hold i=some f) :
 OI C {w with v:={w.v with g:=cI w.v.g i .run,q:=cI w.v.q i (w.v.q i++[c]),loc:=cI w.v.loc c (.Ow i)}} ⟨cI o.st c 1,cI o.lX c (C.pd (o.lX f) (o.bC f)),cI o.bC f (o.bC f+1)⟩ where
 a:=by have z0:=q.a;have z1:=q.h;have z2:=q.ps;have z3:=q.p;have z4:=q.nw;have y0:=h.hold;have y1:=h.ps;have y2:=h.fk;have y3:=h.free;grind
 h:=by have z0:=q.h;have z1:=q.a;have z2:=q.ps;have z3:=q.p;have z4:=q.nw;have y0:=h.hold;have y1:=h.ps;have y2:=h.fk;have y3:=h.free;grind
 p:=by have z0:=q.p;have z1:=q.a;have z2:=q.h;have z3:=q.ps;have z4:=q.nw;have y0:=h.hold;have y1:=h.ps;have y2:=h.fk;have y3:=h.free;grind
 k:=by have z0:=q.k;have z1:=q.a;have z2:=q.h;have z3:=q.ps;have z4:=q.p;have z5:=q.nw;have y0:=h.hold;have y1:=h.ps;have y2:=h.fk;have y3:=h.free;grind
 fk:=by have z0:=q.fk;have z1:=q.a;have z2:=q.h;have z3:=q.ps;have z4:=q.p;have z5:=q.nw;have y0:=h.hold;have y1:=h.ps;have y2:=h.fk;have y3:=h.free;grind
 ps:=by have z0:=q.ps;have z1:=q.a;have z2:=q.h;have z3:=q.p;have z4:=q.nw;have y0:=h.hold;have y1:=h.ps;have y2:=h.fk;have y3:=h.free;grind
 nw:=by have z0:=q.nw;have z1:=q.a;have z2:=q.h;have z3:=q.ps;have z4:=q.p;have y0:=h.hold;have y1:=h.ps;have y2:=h.fk;have y3:=h.free;grind
theorem OI.wait(q:OI C w o)(h:w.v.FI C.N C.F)(hi:i<C.N){f:Nat}(hg:w.v.g i= .run)(hf:w.v.hold i=some f) :
 OI C {w with v:={w.v with g:=cI w.v.g i .none,hold:=cI w.v.hold i none,join:=cI w.v.join f (w.v.join f-1),loc:=cI w.v.loc f .waiting}} o where
 a:=by have z0:=q.a;have z1:=q.h;have y0:=h.hold;grind
 h:=by have z0:=q.h;have z1:=q.a;have y0:=h.hold;grind
 p:=q.p
 k:=by have z0:=q.k;have z1:=q.a;have z2:=q.h;have y0:=h.hold;grind
 fk:=by have z0:=q.fk;have z1:=q.a;have z2:=q.h;have y0:=h.hold;grind
 ps:=by have z0:=q.ps;have z1:=q.a;have z2:=q.h;have y0:=h.hold;grind
 nw:=q.nw
theorem OI.pass(q:OI C w o)(h:w.v.FI C.N C.F)(hi:i<C.N){f:Nat}(hg:w.v.g i= .run)(hf:w.v.hold i=some f) :
 OI C {w with v:={w.v with g:=cI w.v.g i .one,join:=cI w.v.join f (w.v.join f-1),loc:=cI w.v.loc f (.uL i)}} o where
 a:=by have z0:=q.a;have z1:=q.h;have y0:=h.hold;grind
 h:=by have z0:=q.h;have z1:=q.a;have y0:=h.hold;grind
 p:=q.p
 k:=by have z0:=q.k;have z1:=q.a;have z2:=q.h;have y0:=h.hold;grind
 fk:=by have z0:=q.fk;have z1:=q.a;have z2:=q.h;have y0:=h.hold;grind
 ps:=by have z0:=q.ps;have z1:=q.a;have z2:=q.h;have y0:=h.hold;grind
 nw:=q.nw
theorem OI.one(q:OI C w o)(h:w.v.FI C.N C.F)(hi:i<C.N){f:Nat}(hg:w.v.g i= .one)(hf:w.v.hold i=some f) :
 OI C {w with v:={w.v with g:=cI w.v.g i .run,join:=cI w.v.join f 1,loc:=cI w.v.loc f (.held i)}} o where
 a:=by have z0:=q.a;have z1:=q.h;have y0:=h.hold;grind
 h:=by have z0:=q.h;have z1:=q.a;have y0:=h.hold;grind
 p:=q.p
 k:=by have z0:=q.k;have z1:=q.a;have z2:=q.h;have y0:=h.hold;grind
 fk:=by have z0:=q.fk;have z1:=q.a;have z2:=q.h;have y0:=h.hold;grind
 ps:=by have z0:=q.ps;have z1:=q.a;have z2:=q.h;have y0:=h.hold;grind
 nw:=q.nw
theorem OI.LQ(q:OI C w o)(h:w.v.FI C.N C.F)(hi:i<C.N)(hg:w.v.g i= .run)(hf:w.v.hold i=some 0) :
 OI C {w with v:={w.v with g:=cI w.v.g i .none,hold:=cI w.v.hold i none,loc:=cI w.v.loc 0 (.fin i)}} {o with st:=cI o.st 0 3} where
 a:=by have z0:=q.a;have z1:=q.h;have y0:=h.hold;grind
 h:=by have z0:=q.h;have z1:=q.a;have y0:=h.hold;grind
 p:=by have z0:=q.p;have z1:=q.a;have z2:=q.h;have y0:=h.hold;grind
 k:=by have z0:=q.k;have z1:=q.a;have z2:=q.h;have y0:=h.hold;grind
 fk:=by have z0:=q.fk;have z1:=q.a;have z2:=q.h;have y0:=h.hold;grind
 ps:=by have z0:=q.ps;have z1:=q.a;have z2:=q.h;have y0:=h.hold;grind
 nw:=q.nw
theorem OI.ret(q:OI C w o)(h:w.v.FI C.N C.F)(hi:i<C.N){f:Nat}(hg:w.v.g i= .run)(hf:w.v.hold i=some f)(h0:f≠0) :
 OI C {w with v:={w.v with g:=cI w.v.g i (.out (w.v.par f) f),hold:=cI w.v.hold i none,loc:=cI w.v.loc f (.fin i)}} {o with st:=cI o.st f 3} where
 a:=by have z0:=q.a;have z1:=q.h;have y0:=h.hold;grind
 h:=by have z0:=q.h;have z1:=q.a;have y0:=h.hold;grind
 p:=by have z0:=q.p;have z1:=q.a;have z2:=q.h;have y0:=h.hold;grind
 k:=by have z0:=q.k;have z1:=q.a;have z2:=q.h;have y0:=h.hold;grind
 fk:=by have z0:=q.fk;have z1:=q.a;have z2:=q.h;have y0:=h.hold;grind
 ps:=by have z0:=q.ps;have z1:=q.a;have z2:=q.h;have y0:=h.hold;grind
 nw:=q.nw
theorem OI.Po(q:OI C w o)(h:w.v.FI C.N C.F)(hi:i<C.N){p c:Nat}(hg:w.v.g i= .out p c) :
 OI C {w with v:={w.v with g:=cI w.v.g i .none,join:=cI w.v.join p (w.v.join p-1),bC:=cI w.v.bC p ((w.v.bC p).erase c),loc:=cI w.v.loc c .gone}} o where
 a:=by have z0:=q.a;have z1:=q.h;have y0:=h.hold;have y1:=h.out;grind
 h:=by have z0:=q.h;have z1:=q.a;have y0:=h.hold;have y1:=h.out;grind
 p:=q.p
 k:=by have z0:=q.k;have z1:=q.a;have z2:=q.h;have y0:=h.hold;have y1:=h.out;grind
 fk:=by have z0:=q.fk;have z1:=q.a;have z2:=q.h;have y0:=h.hold;have y1:=h.out;grind
 ps:=by have z0:=q.ps;have z1:=q.a;have z2:=q.h;have y0:=h.hold;have y1:=h.out;grind
 nw:=q.nw
theorem OI.Pp(q:OI C w o)(h:w.v.FI C.N C.F)(hi:i<C.N){p c:Nat}(hg:w.v.g i= .out p c)(hn:w.v.join p-1=0) :
 OI C {w with v:={w.v with g:=cI w.v.g i (.take p c),join:=cI w.v.join p (w.v.join p-1),bC:=cI w.v.bC p ((w.v.bC p).erase c),loc:=cI (cI w.v.loc c .gone) p (.uU i)}} o where
 a:=by have y8:=h.iV hi hg hn;have z0:=q.a;have z1:=q.h;have y0:=h.hold;have y1:=h.out;grind
 h:=by have y8:=h.iV hi hg hn;have z0:=q.h;have z1:=q.a;have y0:=h.hold;have y1:=h.out;grind
 p:=q.p
 k:=by have y8:=h.iV hi hg hn;have z0:=q.k;have z1:=q.a;have z2:=q.h;have y0:=h.hold;have y1:=h.out;grind
 fk:=by have y8:=h.iV hi hg hn;have z0:=q.fk;have z1:=q.a;have z2:=q.h;have y0:=h.hold;have y1:=h.out;grind
 ps:=by have y8:=h.iV hi hg hn;have z0:=q.ps;have z1:=q.a;have z2:=q.h;have y0:=h.hold;have y1:=h.out;grind
 nw:=q.nw
theorem OI.take(q:OI C w o)(h:w.v.FI C.N C.F)(hi:i<C.N){p c:Nat}(hg:w.v.g i= .take p c) :
 OI C {w with v:={w.v with g:=cI w.v.g i .run,hold:=cI w.v.hold i (some p),join:=cI w.v.join p 1,loc:=cI w.v.loc p (.held i)}} o where
 a:=by have z0:=q.a;have z1:=q.h;have y0:=h.hold;have y1:=h.tk;grind
 h:=by have z0:=q.h;have z1:=q.a;have y0:=h.hold;have y1:=h.tk;grind
 p:=q.p
 k:=by have z0:=q.k;have z1:=q.a;have z2:=q.h;have y0:=h.hold;have y1:=h.tk;grind
 fk:=by have z0:=q.fk;have z1:=q.a;have z2:=q.h;have y0:=h.hold;have y1:=h.tk;grind
 ps:=by have z0:=q.ps;have z1:=q.a;have z2:=q.h;have y0:=h.hold;have y1:=h.tk;grind
 nw:=q.nw
theorem OI.n4(q:OI C w o)(h:w.v.FI C.N C.F)(hi:i<C.N){x:Nat}{l:List Nat}(hg:w.v.g i= .none)(hq:w.v.q i=l++[x]) :
 OI C {w with v:={w.v with q:=cI w.v.q i l,loc:=cI w.v.loc x (.pop i),pop:=cI w.v.pop i (some x)}} o where
 a:=by have z0:=q.a;have z1:=q.h;have y0:=h.hold;have y1:=h.q;grind
 h:=q.h
 p:=q.p
 k:=q.k
 fk:=q.fk
 ps:=q.ps
 nw:=q.nw
theorem OI.Pq(q:OI C w o)(h:w.v.FI C.N C.F)(hi:i<C.N){x:Nat}(hg:w.v.g i= .none)(hq:w.v.q i=[x]) :
 OI C {w with v:={w.v with q:=cI w.v.q i [],loc:=cI w.v.loc x (.pop i),pop:=cI w.v.pop i (some x)}} o where
 a:=by have z0:=q.a;have z1:=q.h;have y0:=h.hold;have y1:=h.q;grind
 h:=q.h
 p:=q.p
 k:=q.k
 fk:=q.fk
 ps:=q.ps
 nw:=q.nw
theorem OI.got(q:OI C w o)(h:w.v.FI C.N C.F)(hi:i<C.N){x:Nat}(hg:w.v.g i= .none)(hx:w.v.pop i=some x) :
 OI C {w with v:={w.v with g:=cI w.v.g i .start,hold:=cI w.v.hold i (some x),loc:=cI w.v.loc x (.held i),pop:=cI w.v.pop i none},fx:=cI w.fx i (-1)} o where
 a:=by have z0:=q.a;have z1:=q.h;have y0:=h.hold;have y1:=h.pop;have y2:=h.hr;grind
 h:=by have z0:=q.h;have z1:=q.a;have y0:=h.hold;have y1:=h.pop;have y2:=h.hr;grind
 p:=q.p
 k:=by have z0:=q.k;have z1:=q.a;have z2:=q.h;have y0:=h.hold;have y1:=h.pop;have y2:=h.hr;grind
 fk:=by have z0:=q.fk;have z1:=q.a;have z2:=q.h;have y0:=h.hold;have y1:=h.pop;have y2:=h.hr;grind
 ps:=by have z0:=q.ps;have z1:=q.a;have z2:=q.h;have y0:=h.hold;have y1:=h.pop;have y2:=h.hr;grind
 nw:=q.nw
theorem OI.I1(q:OI C w o)(h:w.v.FI C.N C.F)(hi:i<C.N){k x:Nat}{l:List Nat}(hk:k<C.N)(hg:w.v.g i= .none)(hx:w.v.q k=x::l) :
 OI C {w with v:={w.v with g:=cI w.v.g i .start,hold:=cI w.v.hold i (some x),loc:=cI w.v.loc x (.held i),q:=cI w.v.q k l},fx:=cI w.fx i k} o where
 a:=by have z0:=q.a;have z1:=q.h;have y0:=h.hold;have y1:=h.q;have y2:=h.hr;grind
 h:=by have z0:=q.h;have z1:=q.a;have y0:=h.hold;have y1:=h.q;have y2:=h.hr;grind
 p:=q.p
 k:=by have z0:=q.k;have z1:=q.a;have z2:=q.h;have y0:=h.hold;have y1:=h.q;have y2:=h.hr;grind
 fk:=by have z0:=q.fk;have z1:=q.a;have z2:=q.h;have y0:=h.hold;have y1:=h.q;have y2:=h.hr;grind
 ps:=by have z0:=q.ps;have z1:=q.a;have z2:=q.h;have y0:=h.hold;have y1:=h.q;have y2:=h.hr;grind
 nw:=q.nw
theorem OI.aJ{w':ag1}{e:Option Ev}(t:Tr C i w e w')(hi:i<C.N)(h:w.v.FI C.N C.F)(q:OI C w o):match e with
 | none=>OI C w' o
 | some e=>ady C o e/\OI C w' (adz C o e):=by
 cases t with
 | gV e he =>
  cases e with
  | none=>exact q
  | some x =>
   have:x.kind≠1/\x.kind≠2/\x.kind≠6:=by
    simp only[quiet,B4,zT]at he;omega
   obtain⟨a1,a2,a3⟩:=this;simp only[aaU,adz,cu a1,cu a2,cu a3];exact⟨trivial,q⟩
 | full c hg=>exact⟨trivial,q.full h hi hg⟩
 | start f hg hf=>exact⟨⟨by rw[show((f:Int)).toNat=f from rfl,q.h i f hi hf,aP hg],by show w.v.mark f+1=1;rw[h.AB i f hi hg hf];rfl⟩,q.start h hi hg hf⟩
 | spawn f hg hf hn=>exact q.spawn h hi hg hf hn
 | CD hg hn=>exact⟨trivial,q.CD h hi hg⟩
 | fork c f hg hf=>exact q.fork h hi hg hf
 | push c f hg hf =>
  have z:=h.ps i c hi hg;have zf:f=w.v.par c:=Option.some.inj (hf.symm.trans z.2.2.1);have z1:o.st f=2:=by rw[q.h i f hi hf,hg];rfl
  have z2:o.st c=0:=q.a c 0 (by rw[z.2.1];rfl);have z3:=(q.ps i c f hi hf hg).2;refine⟨⟨z2,z1,?_,λe => ?_⟩,q.push h hi hg hf⟩
  ·show w.lX c=C.pd (o.lX f) (o.bC f);rw[z3,q.p f (wG h hi hf) (by rw[z1];omega)]
  ·have e:c=f:=e;rw[e,z1]at z2;cases z2
 | wait f hg hf hk=>exact⟨trivial,q.wait h hi hg hf⟩
 | pass f hg hf hk=>exact q.pass h hi hg hf
 | one f hg hf=>exact⟨trivial,q.one h hi hg hf⟩
 | LQ v hg hf=>exact⟨by show o.st 0=2;rw[q.h i 0 hi hf,hg];rfl,q.LQ h hi hg hf⟩
 | ret f v hg hf h0=>exact⟨by show o.st f=2;rw[q.h i f hi hf,hg];rfl,q.ret h hi hg hf h0⟩
 | Po p c hg hn=>exact q.Po h hi hg
 | Pp p c hg hn=>exact q.Pp h hi hg hn
 | take p c hg=>exact⟨trivial,q.take h hi hg⟩
 | n4 x l hg hq=>exact q.n4 h hi hg hq
 | Pq x hg hq=>exact q.Pq h hi hg hq
 | got x hg hx=>exact q.got h hi hg hx
 | I1 k x l hk Ma hg hx=>exact⟨trivial,q.I1 h hi hk hg hx⟩
end
section
variable {C:kY}{i:Nat}{w w':ag1}{e:Option Ev}
theorem Tr.Wx(t:Tr C i w e w'){j:Nat}(hj:j≠i):w'.v.g j=w.v.g j/\w'.v.hold j=w.v.hold j/\w'.fx j=w.fx j:=by
 cases t<;>simp only[cS,cu hj,and_self]
theorem Tr.idle(t:Tr C i w e w')(hb:busy (w.v.g i)=false):w'.v.nf=w.v.nf/\∀x,e=some x->x.kind≠11/\x.kind≠1:=by
 cases t with
 | gV e he =>
  refine⟨rfl,λx hx => ?_⟩;subst hx;simp only[quiet,B4,zT]at he;omega
 | full c hg=>rw[hg]at hb;cases hb
 | start f hg hf=>rw[hg]at hb;cases hb
 | spawn f hg hf hn=>rw[hg]at hb;cases hb
 | CD hg hn=>rw[hg]at hb;cases hb
 | fork c f hg hf=>rw[hg]at hb;cases hb
 | push c f hg hf=>rw[hg]at hb;cases hb
 | wait f hg hf hk=>rw[hg]at hb;cases hb
 | pass f hg hf hk=>rw[hg]at hb;cases hb
 | one f hg hf=>rw[hg]at hb;cases hb
 | LQ v hg hf=>rw[hg]at hb;cases hb
 | ret f v hg hf h0=>rw[hg]at hb;cases hb
 | _=>exact⟨rfl,λx hx=>by cases hx<;>exact⟨by show(_:Nat)≠11;simp[ev],by show(_:Nat)≠1;simp[ev]⟩⟩
theorem Tr.inr(t:Tr C i w e w')(hi:i<C.N)(h:w.v.FI C.N C.F):∀x,e=some x->(x.kind=1∨x.kind=2∨x.kind=6->0<=x.ay/\x.ay<C.F)/\(x.kind=2->0<=x.x/\x.x<C.F):=by
 have hF:=h.yj;intro x hx;cases t with
 | gV e he =>
  subst hx;simp only[quiet,B4,zT]at he;constructor<;>intro h'<;>omega
 | start f hg hf =>
  have:=wG h hi hf;cases hx;exact⟨λ_=>⟨by show(0:Int)<=(f:Int);omega,by show(f:Int)<C.F;omega⟩,λh'=>by cases h'⟩
 | push c f hg hf =>
  have:=wG h hi hf;have z:=h.ps i c hi hg;have hc:c<w.v.nf:=by
   rcases Dv c w.v.nf with h' | h'
   ·exact h'
   ·have:=h.free c h';rw[z.2.1]at this;cases this
  cases hx;exact⟨λ_=>⟨by show(0:Int)<=(c:Int);omega,by show(c:Int)<C.F;omega⟩,λ_=>⟨by show(0:Int)<=(f:Int);omega,by show(f:Int)<C.F;omega⟩⟩
 | LQ v hg hf =>
  have:=wG h hi hf;cases hx;exact⟨λ_=>⟨by show(0:Int)<=(0:Int);omega,by show(0:Int)<C.F;omega⟩,λh'=>by cases h'⟩
 | ret f v hg hf h0 =>
  have:=wG h hi hf;cases hx;exact⟨λ_=>⟨by show(0:Int)<=(f:Int);omega,by show(f:Int)<C.F;omega⟩,λh'=>by cases h'⟩
 | _=>cases hx<;>exact⟨λh'=>by simp[ev]at h',λh'=>by simp[ev]at h'⟩
theorem Tr.k0(t:Tr C i w e w'):∀x,e=some x->x.kind≠0:=by
 intro x hx;cases t with
 | gV e he =>
  subst hx;simp only[quiet,B4,zT]at he;omega
 | _=>cases hx<;>(show(_:Nat)≠0;simp[ev])
theorem Tr.v1(t:Tr C i w e w')(hi:i<C.N)(h:w.v.FI C.N C.F):∀x,e=some x->x.kind=1->x.v=1:=by
 intro x hx hk;cases t with
 | gV e he =>
  subst hx;simp only[quiet,B4,zT]at he;omega
 | start f hg hf =>
  cases hx;show w.v.mark f+1=1;rw[h.AB i f hi hg hf];rfl
 | _=>cases hx<;>(exfalso;simp[ev]at hk)
def Q0(w:ag1):Prop:=w.v.g 0= .start/\w.fx 0=-1/\w.v.hold 0=some 0/\w.v.nf=1
theorem Q0.aJ(t:Tr C i w e w')(h0:i≠0)(hi:i<C.N)(h:w.v.FI C.N C.F)(q:Q0 w):Q0 w'/\∀x,e=some x->x.kind≠11/\x.kind≠1:=by
 obtain⟨q1,q2,q3,q4⟩:=q;have hb:busy (w.v.g i)=false:=by
  cases hb:busy (w.v.g i)with
  | false=>rfl
  | true =>
   exfalso
   have:=h.hs i hi hb;cases hh:w.v.hold i with
   | none=>exact this hh
   | some f =>
    have hf:=wG h hi hh;obtain rfl:f=0:=by omega
    have a:=h.hold 0 0 I q3;have b:=h.hold i 0 hi hh;rw[q1]at a;rcases a with ⟨a,_⟩ | ⟨_,a⟩
    ·cases a
    ·rcases b with ⟨_,b⟩ | ⟨_,b⟩<;>rw[a]at b<;>cases b;exact h0 rfl
 obtain⟨t1,t2⟩:=t.idle hb;obtain⟨o1,o2,o3⟩:=t.Wx (Ne.symm h0);exact⟨⟨by rw[o1,q1],by rw[o3,q2],by rw[o2,q3],by rw[t1,q4]⟩,t2⟩
end
end Am
end
section
namespace Mo
open Go Go.RowKit SL GX
noncomputable section
variable {z w:World}{L:List bj}
structure mj where
 jA:List Int
 oL:List Int
deriving Inhabited,DecidableEq
abbrev afI(B:Nat)(S:mj)(a0:fP)(c0:Nat)(a1:fP)(c1:Nat):bj:=pts B (.cells #[.slice a0 S.jA.length c0,.slice a1 S.oL.length c1] 30)
abbrev Ja(a:fP)(c:Nat)(l:List aq):bj:=rowOf 47 6 iu (.slice a l.length c) l
structure gi where
 Jb:Int
 Index:Int
 Func:Int
 mK:Int
 Hh:Int
 Arg:Int
 V:Int
deriving Inhabited,DecidableEq
def rR(x:gi):List Value:=[Z x.Jb,Z x.Index,Z x.Func,Z x.mK,Z x.Hh,Z x.Arg,Z x.V]
abbrev J4(x:gi):List Value:=[Z x.Jb,Z x.Index,Z x.Func,Z x.mK,Z x.Hh,Z x.Arg,Z x.V]
abbrev s5(x:gi):Array Value:=#[Z x.Jb,Z x.Index,Z x.Func,Z x.mK,Z x.Hh,Z x.Arg,Z x.V]
abbrev DN(x:gi):Value:=.agg #[Z x.Jb,Z x.Index,Z x.Func,Z x.mK,Z x.Hh,Z x.Arg,Z x.V]
theorem ou:tZ rR 7:=⟨λ_=>rfl,λx u h=>by simp only[rR,tV,tW,tX]at h;rcases h with rfl | rfl | rfl | rfl | rfl | rfl | rfl<;>rfl,eC⟩
structure cy where
 Left:Int
 zO:Int
 bQ:List gi
 Deep:Int
deriving Inhabited,DecidableEq
abbrev DP(B:Nat)(S:cy)(k0:Value)(a3:fP)(c3:Nat):bj:=pts B (.cells #[k0,Z S.Left,Z S.zO,.slice a3 S.bQ.length c3,Z S.Deep] 186)
abbrev As(a:fP)(c:Nat)(l:List gi):bj:=rowOf 190 7 rR (.slice a l.length c) l
abbrev Rj(B:Nat)(S:gi):bj:=pts B (.cells #[Z S.Jb,Z S.Index,Z S.Func,Z S.mK,Z S.Hh,Z S.Arg,Z S.V] 190)
structure fC where
 Me:Int
 iv:Int
 rV:List Int
 mQ:List Int
 At:Int
 eA:Int
 End:Int
 Kids:Int
deriving Inhabited,DecidableEq
abbrev vX(x:fC):Array Value:=([Z x.Me,Z x.iv]++eH 16 aH x.rV++eH 8 aH x.mQ++[Z x.At,Z x.eA,Z x.End,Z x.Kids]).toArray
abbrev DQ(B:Nat)(S:fC):bj:=pts B (.cells ([Z S.Me,Z S.iv]++eH 16 aH S.rV++eH 8 aH S.mQ++[Z S.At,Z S.eA,Z S.End,Z S.Kids]).toArray 222)
structure su where
 V:Int
 mK:Int
 VU:Int
 iv:Int
 Span:Int
deriving Inhabited,DecidableEq
abbrev Jc(x:su):List Value:=[Z x.V,Z x.mK,Z x.VU,Z x.iv,Z x.Span]
abbrev vK(x:su):Value:=.agg #[Z x.V,Z x.mK,Z x.VU,Z x.iv,Z x.Span]
abbrev aaV(B:Nat)(S:su):bj:=pts B (.cells #[Z S.V,Z S.mK,Z S.VU,Z S.iv,Z S.Span] 57)
def kJ(K:Nat)(O:bO)(mL:Int):Nat->(List ct)->Int->Option ((List ct))
 | 0,_,_=>none
 | k2+1,AQ,KG=>(if KG<(((J O.bS mL.toNat).ai.length:Nat):Int)then if bI KG (J O.bS mL.toNat).ai.length then if(AQ.length+1)*40<=140737488355328 then(kJ K O mL k2 (AQ++[J (J O.bS mL.toNat).ai KG.toNat]) (wi (KG+1)))else none else none else some AQ)
def kK(K:Nat)(O:bO):Nat->(List aB)->Int->Option ((List aB))
 | 0,_,_=>none
 | k1+1,Ob,mL=>(if mL<((O.bS.length:Nat):Int)then ei (if bI mL O.bS.length then ei ((kJ K O mL K ([]:List ct) 0)) (λNg=>if(Ob.length+1)*48<=140737488355328 then some (Ob++[{J O.bS mL.toNat with ai:=Ng}])else none)else none) (λl16=>(kK K O k1 l16 (wi (mL+1))))else some Ob)
def kO(K:Nat)(O:bO):Nat->(List Int)->Int->Option ((List Int))
 | 0,_,_=>none
 | k3+1,Rk,KH=>(if KH<((O.oQ.length:Nat):Int)then if bI KH O.oQ.length then if(Rk.length+1)*8<=140737488355328 then(kO K O k3 (Rk++[(J O.oQ KH.toNat)]) (wi (KH+1)))else none else none else some Rk)
def kP(K:Nat)(O:bO):Nat->(List Int)->Int->Option ((List Int))
 | 0,_,_=>none
 | k4+1,Rl,KI=>(if KI<((O.dx.length:Nat):Int)then if bI KI O.dx.length then if(Rl.length+1)*8<=140737488355328 then(kP K O k4 (Rl++[(J O.dx KI.toNat)]) (wi (KI+1)))else none else none else some Rl)
def kQ(K:Nat)(O:bO)(l6:List aB)(KJ:List Int)(Rm:List Int):Nat->(List Int)->Int->Option (bO)
 | 0,_,_=>none
 | k5+1,Rn,KL=>(if KL<((O.fB.length:Nat):Int)then if bI KL O.fB.length then if(Rn.length+1)*8<=140737488355328 then(kQ K O l6 KJ Rm k5 (Rn++[(J O.fB KL.toNat)]) (wi (KL+1)))else none else none else some ({O with bS:=l6,oQ:=KJ,dx:=Rm,fB:=Rn}))
def ow(K:Nat)(O:bO):Option (bO):=
 ei ((kK K O K ([]:List aB) 0)) (λl6=>ei ((kO K O K ([]:List Int) 0)) (λKJ=>ei ((kP K O K ([]:List Int) 0)) (λRm=>(kQ K O l6 KJ Rm K ([]:List Int) 0))))
abbrev Bp (B:Nat) (S:bO) (a0:fP) (c0:Nat) (a1:fP) (c1:Nat) (a6:fP) (c6:Nat) (a7:fP) (c7:Nat) (q:Nat):bj:=pts B (.cells #[.slice a0 q c0,.slice a1 S.oQ.length c1,Z S.di,Z S.eL,Z S.fD,Z S.gJ,.slice a6 S.dx.length c6,.slice a7 S.fB.length c7] 32)
theorem CH(H:ow K O=some r0)(h:iQ z (L) w)(cP:yP L aO cK O.bS)(oa:bJ L 1 aH ey O.oQ)(jb:bJ L 1 aH bK O.dx)(jT:bJ L 1 aH bU O.fB) :
 Calls Tryz.prog 30 #[oH #[be aO O.bS.length bt,be ey O.oQ.length fm,Z O.di,Z O.eL,Z O.fD,Z O.gJ,be bK O.dx.length cC,be bU O.fB.length cJ]] w λe w=>∃y1 y2 y3 y4 y5 y6 y7 y8,e=.returned (oH #[be y1 r0.bS.length y2,be y3 r0.oQ.length y4,Z r0.di,Z r0.eL,Z r0.fD,Z r0.gJ,be y5 r0.dx.length y6,be y7 r0.fB.length y8])/\Fit z (aC (rE y1 y2 r0.bS::Xg y3 y4 r0.oQ::y9 y5 y6 r0.dx::y9 y7 y8 r0.fB::L)) w:=by
 unfold ow at H;refine ke func30 117 rfl λj=>ks<|kN h (#[be aO O.bS.length bt,be ey O.oQ.length fm,Z O.di,Z O.eL,Z O.fD,Z O.gJ,be bK O.dx.length cC,be bU O.fB.length cJ]) 32 λb1 w h=>kN h (#[be none 0 0,be none 0 0,Z 0,Z 0,Z 0,Z 0,be none 0 0,be none 0 0]) 32 λb2 w h=>G<|ks<|kM (h.pick 1)<|kN h (#[be none 0 0,be none 0 0,Z 0,Z 0,Z 0,Z 0,be none 0 0,be none 0 0]) 32 λb3 w h=>kA h (CZ b3 O aO bt ey fm bK cC bU cJ) λw h=>G<|aL dk<|λ_ r=>W2 (wn rfl) r h 0 ([be none 0 0]) (Bp b3 O none 0 ey fm bK cC bU cJ 0) λw h=>qq r<|G<|El H λo8 H Ld=>λ_ r=>dh (β:=Unit) (λ_ a w=>∃GW:fP,∃GY:Nat,∃l6:List aB,l6=o8/\∃j,kX 117 (lk [(1,pA b1 0),(2,pA b2 0),(3,pA b3 0)] j) a/\Fit z (aC (CZ b1 O aO bt ey fm bK cC bU cJ::gh b2 #[be none 0 0,be none 0 0,Z 0,Z 0,Z 0,Z 0,be none 0 0,be none 0 0] 32::Bp b3 O GW GY ey fm bK cC bU cJ (l6.length)::rE GW GY l6::L)) w) ?_ ?_
 ·refine qq r<|ig<|wb<|?_;replace h:=h.EA (e:=99) (sz:=4) (own:=mX);refine λ_ r=>dz (β:=Nat) id (λm a w=>∃iy:fP,∃fR:Nat,∃Ob:List aB,∃mL:Int,(kK K O m Ob mL)=some o8/\∃j,kX 117 (lk [(1,pA b1 0),(2,pA b2 0),(3,pA b3 0),(4,Z mL)] j) a/\Fit z (aC (CZ b1 O aO bt ey fm bK cC bU cJ::gh b2 #[be none 0 0,be none 0 0,Z 0,Z 0,Z 0,Z 0,be none 0 0,be none 0 0] 32::Bp b3 O iy fR ey fm bK cC bU cJ (Ob.length)::rE iy fR Ob::L)) w) K ⟨none,0,([]:List aB),0,H,r.fj (h.se 4 [3,2,1,0])⟩<|?_;clear h r H;rintro k1 a w ⟨iy,fR,Ob,mL,H,j,r,h⟩;cases k1 with
  | zero=>exact absurd H (by simp[kK])
  | succ k1 =>
   rw[kK]at H;refine qq r<|wq<|aL kW<|kL h 0<|ko [Z ((O.bS.length:Nat):Int),dH (mL<((O.bS.length:Nat):Int))]<|G<|dW H (λxQ H=>?_) λxQ H=>?_
   ·refine gq<|El H λo18 H aae=>λ_ r=>dh (β:=Unit) (λ_ a w=>∃RW:fP,∃Yk:Nat,∃l16:List aB,l16=o18/\∃j,kX 117 (lk [(1,pA b1 0),(2,pA b2 0),(3,pA b3 0),(4,Z mL)] j) a/\Fit z (aC (CZ b1 O aO bt ey fm bK cC bU cJ::gh b2 #[be none 0 0,be none 0 0,Z 0,Z 0,Z 0,Z 0,be none 0 0,be none 0 0] 32::Bp b3 O RW Yk ey fm bK cC bU cJ (l16.length)::rE RW Yk l16::L)) w) ?_ ?_
    ·refine qq r<|wb<|aL dk<|kL h 0<|qg H λs6 H=>bR<|kp (pA (dQ aO) (jl aO+mL.toNat*4)) (C0 99 bt rfl rfl cP s6)<|yb (oH #[Z (J O.bS mL.toNat).aS,Z (J O.bS mL.toNat).dw,Z (J O.bS mL.toNat).bM,be ((cK mL.toNat).1) (J O.bS mL.toNat).ai.length ((cK mL.toNat).2)]) (cs:=[Z (J O.bS mL.toNat).aS,Z (J O.bS mL.toNat).dw,Z (J O.bS mL.toNat).bM,be ((cK mL.toNat).1) (J O.bS mL.toNat).ai.length ((cK mL.toNat).2)]) ⟨cP.cell s6 (h.dn 4) 0 rfl,cP.cell s6 (h.dn 4) 1 rfl,cP.cell s6 (h.dn 4) 2 rfl,cP.cell s6 (h.dn 4) 3 rfl,bP⟩<|?_;refine kN h (#[Z 0,Z 0,Z 0,be none 0 0]) 99 λO2 w h=>kA h (rW O2 (J O.bS mL.toNat) ((cK mL.toNat).1) ((cK mL.toNat).2)) λw h=>G<|aL [U]<|kL h 3<|bR<|G<|aL [U]<|kS h 3 (gh O2 #[Z (J O.bS mL.toNat).aS,Z (J O.bS mL.toNat).dw,Z (J O.bS mL.toNat).bM,be none 0 0] 99) λw h=>G<|El H λo25 H Z5=>λ_ r=>dh (β:=Unit) (λ_ a w=>∃Yl:fP,∃Ym:Nat,∃Ng:List ct,Ng=o25/\∃j,kX 117 (lk [(1,pA b1 0),(2,pA b2 0),(3,pA b3 0),(4,Z mL),(5,pA O2 0)] j) a/\Fit z (aC (CZ b1 O aO bt ey fm bK cC bU cJ::gh b2 #[be none 0 0,be none 0 0,Z 0,Z 0,Z 0,Z 0,be none 0 0,be none 0 0] 32::Bp b3 O iy fR ey fm bK cC bU cJ (Ob.length)::rE iy fR Ob::gh O2 #[Z (J O.bS mL.toNat).aS,Z (J O.bS mL.toNat).dw,Z (J O.bS mL.toNat).bM,be Yl Ng.length Ym] 99::Ks Yl Ym Ng::L)) w) ?_ ?_
     ·refine qq r<|ig<|wb<|?_;replace h:=h.fM (e:=146) (sz:=5) (enc:=cY);refine λ_ r=>dz (β:=Nat) id (λm a w=>∃VV:fP,∃VW:Nat,∃AQ:List ct,∃KG:Int,(kJ K O mL m AQ KG)=some o25/\∃j,kX 117 (lk [(1,pA b1 0),(2,pA b2 0),(3,pA b3 0),(4,Z mL),(5,pA O2 0),(6,be ((cK mL.toNat).1) (J O.bS mL.toNat).ai.length ((cK mL.toNat).2)),(7,Z KG)] j) a/\Fit z (aC (CZ b1 O aO bt ey fm bK cC bU cJ::gh b2 #[be none 0 0,be none 0 0,Z 0,Z 0,Z 0,Z 0,be none 0 0,be none 0 0] 32::Bp b3 O iy fR ey fm bK cC bU cJ (Ob.length)::rE iy fR Ob::gh O2 #[Z (J O.bS mL.toNat).aS,Z (J O.bS mL.toNat).dw,Z (J O.bS mL.toNat).bM,be VV AQ.length VW] 99::Ks VV VW AQ::L)) w) K ⟨none,0,([]:List ct),0,H,r.fj (h.se 6 [2,3,4,5,1,0])⟩<|?_;clear h r H;rintro k2 a w ⟨VV,VW,AQ,KG,H,j,r,h⟩;cases k2 with
      | zero=>exact absurd H (by simp[kJ])
      | succ k2 =>
       rw[kJ]at H;refine qq r<|wq<|aL [U,U,Z (((J O.bS mL.toNat).ai.length:Nat):Int),dH (KG<(((J O.bS mL.toNat).ai.length:Nat):Int))]<|G<|dW H (λu3 H=>?_) λu3 H=>?_
       ·refine gq<|wq<|wb<|qg H λxD H=>qg H λJA H=>mP [(O2,3,[be VV AQ.length VW]),(dQ ((cK mL.toNat).1),jl ((cK mL.toNat).1)+KG.toNat*5,gI (J (J O.bS mL.toNat).ai KG.toNat))] [0,4] 10 h (λh=>⟨⟨(h.pick 4).cell 3 rfl,bP⟩,⟨(cP.vp s6).cell xD (h.dn 6) 0 rfl,(cP.vp s6).cell xD (h.dn 6) 1 rfl,(cP.vp s6).cell xD (h.dn 6) 2 rfl,(cP.vp s6).cell xD (h.dn 6) 3 rfl,(cP.vp s6).cell xD (h.dn 6) 4 rfl,bP⟩,bP⟩) λw h hd =>mz hd 7 [(0,37,pA O2 3),(2,39,be ((cK mL.toNat).1) (J O.bS mL.toNat).ai.length ((cK mL.toNat).2)),(3,40,Z KG)]<|ny hd 6 4 rfl (pA (dQ ((cK mL.toNat).1)) (jl ((cK mL.toNat).1)+KG.toNat*5)) (λw=>EK 146 ((cK mL.toNat).2) rfl rfl (cP.vp s6) xD)<|eY hd 0 5 1 rfl<|xP hd 1 4 5 rfl rfl<|lJ 6 rfl<|kV h (lW (J (J O.bS mL.toNat).ai KG.toNat)) 146 λb32 w h=>G<|λ_ r=>xE<|lD 7 rfl<|qh h.m6 λh=>j8 (n0:=AQ.length) (c:=1) (bytes:=40) (wn rfl) rfl rfl r rfl aZ aZ iS (E:=146) (xs:=AQ) aZ aZ h (news:=[J (J O.bS mL.toNat).ai KG.toNat]) (m:=1) rfl ((h.pick 1).news rfl) JA rfl λGZ G0 w _ h r=>qq r<|G<|mA<|iM 1 8 rfl (pA O2 3)<|lJ 9 rfl<|qh h.m6 λh=>kS h 3 (gh O2 #[Z (J O.bS mL.toNat).aS,Z (J O.bS mL.toNat).dw,Z (J O.bS mL.toNat).bM,be GZ (AQ++[J (J O.bS mL.toNat).ai KG.toNat]).length G0] 99) λw h=>G<|mA<|mT<|bn<|tn<|wl<|ko [U,Z (wi (KG+1)),Z (wi (KG+1))]<|G<|?_;exact λ_ r=>⟨_,⟨GZ,G0,(AQ++[J (J O.bS mL.toNat).ai KG.toNat]),(wi (KG+1)),H,r.fj (h.se 7 [3,4,5,6,0,1])⟩,iI _⟩
       refine wx<|te<|te<|bh<|tn<|?_;exact λ_ r=>⟨(),VV,VW,AQ,gE H,r.fj h⟩
     clear h r;rintro _ a w ⟨Yl,Ym,Ng,rfl,j,r,h⟩;replace H:=Ek Z5;refine qq r<|wl<|ko dk<|kL (h.pick 2) 0<|kM (h.pick 4)<|kV h (#[Z (J O.bS mL.toNat).aS,Z (J O.bS mL.toNat).dw,Z (J O.bS mL.toNat).bM,be Yl Ng.length Ym]) 99 λb36 w h=>qh h.m6 λh=>?_;replace h:=fl (x:=({J O.bS mL.toNat with ai:=Ng})) h;refine qg H λMh H=>qh h.m5 λh=>λ_ r=>Cf (n0:=Ob.length) (c:=1) (bytes:=48) (sz:=4) (wn rfl) rfl rfl r rfl aZ aZ (E:=99) (xs:=Ob) aZ aZ rfl rfl rfl h ((h.pick 2).news rfl) Mh rfl λadC adD w _ h r=>qq r<|ko dk<|qh h.m4 λh=>kS h 0 (Bp b3 O adC adD ey fm bK cC bU cJ ((Ob++[{J O.bS mL.toNat with ai:=Ng}]).length)) λw h=>kl<|bn<|tn<|?_;exact λ_ r=>⟨(),adC,adD,(Ob++[{J O.bS mL.toNat with ai:=Ng}]),gE H,r.fj (h.se 6 [3,4,0,1])⟩
    clear h r;rintro _ a w ⟨RW,Yk,l16,rfl,j,r,h⟩;replace H:=Ek aae;refine qq r<|wl<|ko [U,Z (wi (mL+1)),Z (wi (mL+1))]<|G<|?_;exact λ_ r=>⟨_,⟨RW,Yk,l16,(wi (mL+1)),H,r.fj h⟩,iI _⟩
   refine wx<|te<|te<|bh<|tn<|?_;exact λ_ r=>⟨(),iy,fR,Ob,gE H,r.fj h⟩
 clear h r;rintro _ a w ⟨GW,GY,l6,rfl,j,r,h⟩;replace H:=Ek Ld;refine qq r<|aL [U]<|qh h.m2 λh=>kS h 1 (gh b3 #[be GW l6.length GY,be none 0 0,Z O.di,Z O.eL,Z O.fD,Z O.gJ,be bK O.dx.length cC,be bU O.fB.length cJ] 32) λw h=>G<|El H λo44 H afJ=>λ_ r=>dh (β:=Unit) (λ_ a w=>∃Fi:fP,∃Fj:Nat,∃KJ:List Int,KJ=o44/\∃j,kX 117 (lk [(1,pA b1 0),(2,pA b2 0),(3,pA b3 0)] j) a/\Fit z (aC (CZ b1 O aO bt ey fm bK cC bU cJ::gh b2 #[be none 0 0,be none 0 0,Z 0,Z 0,Z 0,Z 0,be none 0 0,be none 0 0] 32::gh b3 #[be GW l6.length GY,be Fi KJ.length Fj,Z O.di,Z O.eL,Z O.fD,Z O.gJ,be bK O.dx.length cC,be bU O.fB.length cJ] 32::rE GW GY l6::Xg Fi Fj KJ::L)) w) ?_ ?_
 ·refine qq r<|ig<|wb<|?_;replace h:=h.fM (e:=2) (sz:=1) (enc:=aH);refine λ_ r=>dz (β:=Nat) id (λm a w=>∃OY:fP,∃OZ:Nat,∃Rk:List Int,∃KH:Int,(kO K O m Rk KH)=some o44/\∃j,kX 117 (lk [(1,pA b1 0),(2,pA b2 0),(3,pA b3 0),(8,Z KH)] j) a/\Fit z (aC (CZ b1 O aO bt ey fm bK cC bU cJ::gh b2 #[be none 0 0,be none 0 0,Z 0,Z 0,Z 0,Z 0,be none 0 0,be none 0 0] 32::gh b3 #[be GW l6.length GY,be OY Rk.length OZ,Z O.di,Z O.eL,Z O.fD,Z O.gJ,be bK O.dx.length cC,be bU O.fB.length cJ] 32::rE GW GY l6::Xg OY OZ Rk::L)) w) K ⟨none,0,([]:List Int),0,H,r.fj (h.se 5 [2,3,1,4,0])⟩<|?_;clear h r H;rintro k3 a w ⟨OY,OZ,Rk,KH,H,j,r,h⟩;cases k3 with
  | zero=>exact absurd H (by simp[kO])
  | succ k3 =>
   rw[kO]at H;refine qq r<|wq<|aL dk<|kL h 1<|ko [Z ((O.oQ.length:Nat):Int),dH (KH<((O.oQ.length:Nat):Int))]<|G<|dW H (λJn H=>?_) λJn H=>?_
   ·refine gq<|wq<|wb<|qg H λTt H=>qg H λc54 H=>mP [(b3,1,[be OY Rk.length OZ]),(b1,1,[be ey O.oQ.length fm]),(dQ ey,jl ey+KH.toNat*1,[Z (J O.oQ KH.toNat)])] [0,2,5] 11 h (λh=>⟨⟨(h.pick 2).cell 1 rfl,bP⟩,⟨h.cell 1 rfl,bP⟩,⟨oa.cell Tt (h.dn 5) 0 rfl,bP⟩,bP⟩) λw h hd =>mz hd 8 [(0,62,pA b3 1),(2,64,pA b1 1),(4,66,Z KH)]<|eY hd 0 7 1 rfl<|eY hd 1 6 3 rfl<|ny hd 5 5 rfl (pA (dQ ey) (jl ey+KH.toNat*1)) (λw=>EK 2 fm rfl rfl oa Tt)<|eY hd 2 4 6 rfl<|lJ 7 rfl<|kV h (#[Z (J O.oQ KH.toNat)]) 2 λb51 w h=>G<|λ_ r=>xE<|lD 8 rfl<|qh h.m5 λh=>j8 (n0:=Rk.length) (c:=1) (bytes:=8) (wn rfl) rfl rfl r rfl aZ aZ aG (E:=2) (xs:=Rk) aZ aZ h (news:=[(J O.oQ KH.toNat)]) (m:=1) rfl ((h.pick 1).news rfl) c54 rfl λSb Sc w _ h r=>qq r<|G<|mA<|iM 1 9 rfl (pA b3 1)<|lJ 10 rfl<|qh h.m4 λh=>kS h 1 (gh b3 #[be GW l6.length GY,be Sb (Rk++[(J O.oQ KH.toNat)]).length Sc,Z O.di,Z O.eL,Z O.fD,Z O.gJ,be bK O.dx.length cC,be bU O.fB.length cJ] 32) λw h=>G<|mA<|mT<|bn<|tn<|wl<|ko [U,Z (wi (KH+1)),Z (wi (KH+1))]<|G<|?_;exact λ_ r=>⟨_,⟨Sb,Sc,(Rk++[(J O.oQ KH.toNat)]),(wi (KH+1)),H,r.fj (h.se 6 [3,4,0,5,1])⟩,iI _⟩
   refine wx<|te<|te<|bh<|tn<|?_;exact λ_ r=>⟨(),OY,OZ,Rk,gE H,r.fj h⟩
 clear h r;rintro _ a w ⟨Fi,Fj,KJ,rfl,j,r,h⟩;replace H:=Ek afJ;refine qq r<|aL dk<|qh h.m2 λh=>λ_ r=>W2 (wn rfl) r h 6 ([be none 0 0,be none 0 0]) (gh b3 #[be GW l6.length GY,be Fi KJ.length Fj,Z O.di,Z O.eL,Z O.fD,Z O.gJ,be none 0 0,be none 0 0] 32) λw h=>qq r<|G<|El H λo59 H afK=>λ_ r=>dh (β:=Unit) (λ_ a w=>∃Fk:fP,∃Fl:Nat,∃Rm:List Int,Rm=o59/\∃j,kX 117 (lk [(1,pA b1 0),(2,pA b2 0),(3,pA b3 0)] j) a/\Fit z (aC (CZ b1 O aO bt ey fm bK cC bU cJ::gh b2 #[be none 0 0,be none 0 0,Z 0,Z 0,Z 0,Z 0,be none 0 0,be none 0 0] 32::gh b3 #[be GW l6.length GY,be Fi KJ.length Fj,Z O.di,Z O.eL,Z O.fD,Z O.gJ,be Fk Rm.length Fl,be none 0 0] 32::rE GW GY l6::Xg Fi Fj KJ::y9 Fk Fl Rm::L)) w) ?_ ?_
 ·refine qq r<|ig<|wb<|?_;replace h:=h.fM (e:=3) (sz:=1) (enc:=aH);refine λ_ r=>dz (β:=Nat) id (λm a w=>∃VX:fP,∃VY:Nat,∃Rl:List Int,∃KI:Int,(kP K O m Rl KI)=some o59/\∃j,kX 117 (lk [(1,pA b1 0),(2,pA b2 0),(3,pA b3 0),(9,Z KI)] j) a/\Fit z (aC (CZ b1 O aO bt ey fm bK cC bU cJ::gh b2 #[be none 0 0,be none 0 0,Z 0,Z 0,Z 0,Z 0,be none 0 0,be none 0 0] 32::gh b3 #[be GW l6.length GY,be Fi KJ.length Fj,Z O.di,Z O.eL,Z O.fD,Z O.gJ,be VX Rl.length VY,be none 0 0] 32::rE GW GY l6::Xg Fi Fj KJ::y9 VX VY Rl::L)) w) K ⟨none,0,([]:List Int),0,H,r.fj (h.se 6 [2,3,1,4,5,0])⟩<|?_;clear h r H;rintro k4 a w ⟨VX,VY,Rl,KI,H,j,r,h⟩;cases k4 with
  | zero=>exact absurd H (by simp[kP])
  | succ k4 =>
   rw[kP]at H;refine qq r<|wq<|aL kW<|kL h 6<|ko [Z ((O.dx.length:Nat):Int),dH (KI<((O.dx.length:Nat):Int))]<|G<|dW H (λc64 H=>?_) λc64 H=>?_
   ·refine gq<|wq<|wb<|qg H λc65 H=>qg H λc69 H=>mP [(b3,6,[be VX Rl.length VY]),(b1,6,[be bK O.dx.length cC]),(dQ bK,jl bK+KI.toNat*1,[Z (J O.dx KI.toNat)])] [0,1,3,4,7] 14 h (λh=>⟨⟨(h.pick 2).cell 6 rfl,bP⟩,⟨h.cell 6 rfl,bP⟩,⟨jb.cell c65 (h.dn 6) 0 rfl,bP⟩,bP⟩) λw h hd =>lY hd 9 82 [([0,1],pA b3 6),([3,4],pA b1 6),([6],Z KI)]<|eY hd 0 8 2 rfl<|eY hd 1 7 5 rfl<|ny hd 6 7 rfl (pA (dQ bK) (jl bK+KI.toNat*1)) (λw=>EK 3 cC rfl rfl jb c65)<|eY hd 2 5 8 rfl<|lJ 9 rfl<|kV h (#[Z (J O.dx KI.toNat)]) 3 λQV w h=>G<|λ_ r=>xE<|lD 10 rfl<|qh h.m6 λh=>j8 (n0:=Rl.length) (c:=1) (bytes:=8) (wn rfl) rfl rfl r rfl aZ aZ aG (E:=3) (xs:=Rl) aZ aZ h (news:=[(J O.dx KI.toNat)]) (m:=1) rfl ((h.pick 1).news rfl) c69 rfl λSY S4 w _ h r=>qq r<|G<|mA<|iM 2 11 rfl (pA b3 6)<|iM 1 12 rfl (pA b3 6)<|lJ 13 rfl<|qh h.m4 λh=>kS h 6 (gh b3 #[be GW l6.length GY,be Fi KJ.length Fj,Z O.di,Z O.eL,Z O.fD,Z O.gJ,be SY (Rl++[(J O.dx KI.toNat)]).length S4,be none 0 0] 32) λw h=>G<|mA<|mT<|bn<|tn<|wl<|ko [U,Z (wi (KI+1)),Z (wi (KI+1))]<|G<|?_;exact λ_ r=>⟨_,⟨SY,S4,(Rl++[(J O.dx KI.toNat)]),(wi (KI+1)),H,r.fj (h.se 7 [3,4,0,5,6,1])⟩,iI _⟩
   refine wx<|te<|te<|bh<|tn<|?_;exact λ_ r=>⟨(),VX,VY,Rl,gE H,r.fj h⟩
 clear h r;rintro _ a w ⟨Fk,Fl,Rm,rfl,j,r,h⟩;replace H:=Ek afK;refine qq r<|wq<|ig<|wb<|?_;replace h:=h.fM (e:=3) (sz:=1) (enc:=aH);refine λ_ r=>dz (β:=Nat) id (λm a w=>∃S5:fP,∃Ta:Nat,∃Rn:List Int,∃KL:Int,(kQ K O l6 KJ Rm m Rn KL)=some r0/\∃j,kX 117 (lk [(1,pA b1 0),(2,pA b2 0),(3,pA b3 0),(10,Z KL)] j) a/\Fit z (aC (CZ b1 O aO bt ey fm bK cC bU cJ::gh b2 #[be none 0 0,be none 0 0,Z 0,Z 0,Z 0,Z 0,be none 0 0,be none 0 0] 32::gh b3 #[be GW l6.length GY,be Fi KJ.length Fj,Z O.di,Z O.eL,Z O.fD,Z O.gJ,be Fk Rm.length Fl,be S5 Rn.length Ta] 32::rE GW GY l6::Xg Fi Fj KJ::y9 Fk Fl Rm::y9 S5 Ta Rn::L)) w) K ⟨none,0,([]:List Int),0,H,r.fj (h.se 7 [1,2,3,4,5,6,0])⟩<|?_;clear h r H;rintro k5 a w ⟨S5,Ta,Rn,KL,H,j,r,h⟩;cases k5 with
 | zero=>exact absurd H (by simp[kQ])
 | succ k5 =>
  rw[kQ]at H;refine qq r<|wq<|aL kW<|kL h 7<|ko [Z ((O.fB.length:Nat):Int),dH (KL<((O.fB.length:Nat):Int))]<|G<|dW H (λc74 H=>?_) λc74 H=>?_
  ·refine gq<|wq<|wb<|qg H λc75 H=>qg H λc79 H=>mP [(b3,7,[be S5 Rn.length Ta]),(b1,7,[be bU O.fB.length cJ]),(dQ bU,jl bU+KL.toNat*1,[Z (J O.fB KL.toNat)])] [0,1,3,4,7] 14 h (λh=>⟨⟨(h.pick 2).cell 7 rfl,bP⟩,⟨h.cell 7 rfl,bP⟩,⟨jT.cell c75 (h.dn 7) 0 rfl,bP⟩,bP⟩) λw h hd =>lY hd 9 103 [([0],pA b3 6),([1],pA b3 7),([3],pA b1 6),([4],pA b1 7),([6],Z KL)]<|eY hd 0 8 2 rfl<|eY hd 1 7 5 rfl<|ny hd 6 7 rfl (pA (dQ bU) (jl bU+KL.toNat*1)) (λw=>EK 3 cJ rfl rfl jT c75)<|eY hd 2 5 8 rfl<|lJ 9 rfl<|kV h (#[Z (J O.fB KL.toNat)]) 3 λb76 w h=>G<|λ_ r=>xE<|lD 10 rfl<|qh h.m7 λh=>j8 (n0:=Rn.length) (c:=1) (bytes:=8) (wn rfl) rfl rfl r rfl aZ aZ aG (E:=3) (xs:=Rn) aZ aZ h (news:=[(J O.fB KL.toNat)]) (m:=1) rfl ((h.pick 1).news rfl) c79 rfl λadE adF w _ h r=>qq r<|G<|mA<|iM 2 11 rfl (pA b3 6)<|iM 1 12 rfl (pA b3 7)<|lJ 13 rfl<|qh h.m4 λh=>kS h 7 (gh b3 #[be GW l6.length GY,be Fi KJ.length Fj,Z O.di,Z O.eL,Z O.fD,Z O.gJ,be Fk Rm.length Fl,be adE (Rn++[(J O.fB KL.toNat)]).length adF] 32) λw h=>G<|mA<|mT<|bn<|tn<|wl<|ko [U,Z (wi (KL+1)),Z (wi (KL+1))]<|G<|?_;exact λ_ r=>⟨_,⟨adE,adF,(Rn++[(J O.fB KL.toNat)]),(wi (KL+1)),H,r.fj (h.se 8 [3,4,0,5,6,7,1])⟩,iI _⟩
  refine wx<|te<|te<|bh<|tn<|ks<|kM (h.pick 2)<|qh h.m1 λh=>kA h (gh b2 #[be GW l6.length GY,be Fi KJ.length Fj,Z O.di,Z O.eL,Z O.fD,Z O.gJ,be Fk Rm.length Fl,be S5 Rn.length Ta] 32) λw h=>bW<|kC h<|?_;cases H;exact⟨GW,GY,Fi,Fj,Fk,Fl,S5,Ta,rfl,h.se 7 [3,4,5,6]⟩
def p6(K:Nat)(Y:Int):Nat->Int->Int->Option (Int)
 | 0,_,_=>none
 | k1+1,g4,g5=>(if g5<Y then(p6 K Y k1 (wi (g4+(wi ((1:Int)+(if Y<(wi ((2:Int)*g5))then Y else(wi ((2:Int)*g5))))))) (if Y<(wi ((2:Int)*g5))then Y else(wi ((2:Int)*g5))))else some g4)
def zm(K:Nat)(O:Int)(Y:Int):Option (Int):=
 ei (tS O Y) (λr1=>(if r1=true then(p6 K Y K (wi ((4:Int)+O)) O)else some 0))
theorem Jd(H:zm K O Y=some r0)(h:iQ z (L) w) :
 nK 109 #[Z O,Z Y] w z (Z r0) (L):=by
 unfold zm at H;refine ke func109 26 rfl λj=>ig<|wq<|ks<|gf H λr1 e2 H=>ko dk<|fh (Bz e2 h :) λw h=>ko [vB (!r1)]<|G<|FD H (λc3 H=>?_) λc3 H=>?_
 ·refine gq<|aL [U,Z (wi ((4:Int)+O)),Z (wi ((4:Int)+O))]<|G<|wq<|aL dk<|G<|wb<|λ_ r=>dz (β:=Nat) id (λm a w=>∃g4:Int,∃g5:Int,(p6 K Y m g4 g5)=some r0/\∃j,kX 26 (lk [(1,Z Y),(5,Z g4),(6,Z g5)] j) a/\Fit z (aC (L)) w) K ⟨(wi ((4:Int)+O)),O,H,r.fj h⟩<|?_;clear h r H;rintro k1 a w ⟨g4,g5,H,j,r,h⟩;cases k1 with
  | zero=>exact absurd H (by simp[p6])
  | succ k1 =>
   rw[p6]at H;refine qq r<|wq<|aL [U,U,dH (g5<Y)]<|G<|dW H (λc6 H=>?_) λc6 H=>?_
   ·refine gq<|wb<|aL [U,Z (wi ((2:Int)*g5)),U,Z (if Y<(wi ((2:Int)*g5))then Y else(wi ((2:Int)*g5))),Z (if Y<(wi ((2:Int)*g5))then Y else(wi ((2:Int)*g5)))]<|G<|wl<|ko [U,Z (if Y<(wi ((2:Int)*g5))then Y else(wi ((2:Int)*g5))),Z (wi ((1:Int)+(if Y<(wi ((2:Int)*g5))then Y else(wi ((2:Int)*g5))))),Z (wi (g4+(wi ((1:Int)+(if Y<(wi ((2:Int)*g5))then Y else(wi ((2:Int)*g5))))))),Z (wi (g4+(wi ((1:Int)+(if Y<(wi ((2:Int)*g5))then Y else(wi ((2:Int)*g5)))))))]<|kl<|bn<|tn<|?_;exact λ_ r=>⟨_,⟨(wi (g4+(wi ((1:Int)+(if Y<(wi ((2:Int)*g5))then Y else(wi ((2:Int)*g5))))))),(if Y<(wi ((2:Int)*g5))then Y else(wi ((2:Int)*g5))),H,r.fj h⟩,iI _⟩
   refine wx<|te<|te<|bh<|tn<|aL dk<|bW<|?_;cases H;exact gj h
 refine ig<|wr<|tr<|?_;cases H;exact gj h
def w6(K:Nat)(O:Int)(Y:eP):Option (Int):=
 zZ (ei (rI O) (λr4=>(if r4=true then ei (rJ Y) (λr7=>(if r7=true then some (.inl ())else some (.inr 0)))else some (.inr 0)))) (ei (sA Y.cB) (λzw=>ei (nQ O) (λvx=>ei (zm K Y.dY Y.j0) (λiZ=>some (wi ((wi ((wi ((1:Int)+zw))+vx))+(wi (O*iZ))))))))
theorem Je(H:w6 K O Y=some r0)(h:iQ z (L) w) :
 nK 62 #[Z O,kU Y] w z (Z r0) (L):=by
 unfold w6 at H;refine ke func62 28 rfl λj=>ks<|kN h (mg Y) 27 λb1 w h=>bR<|G<|?_;obtain⟨o3,H,GB⟩:=Gz H;refine λ_ r=>dh (β:=Unit) (λ_ a w=>.inl ()=o3/\∃j,kX 28 (lk [(0,Z O),(3,pA b1 0)] j) a/\Fit z (aC (M9 b1 Y::L)) w) ?_ ?_
 ·refine qq r<|ks<|gf H λr4 e5 H=>bR<|fh (ze e5 h :) λw h=>ko [vB (!r4),vB (!r4)]<|qI H (λc6 H=>?_) λc6 H=>?_
  ·refine λ_ r=>ldm (mB r (nT c6)) r (kU Y) (cs:=GM Y) (h.held 0 rfl)<|?_;refine gf H λr7 e8 H=>xg0 (nT c6) (zg e8 h :) λw h=>dg (nT c6) [11] [vB (!r7)]<|oC (nT c6) (vB (!r7))<|G<|FD H (λc9 H=>?_) λc9 H=>?_
   ·refine gq<|?_;exact λ_ r=>⟨(),gE H,r.fj h⟩
   refine ig<|wr<|tr<|λ_ r=>tA (Z 0) rfl r<|?_;replace H:=xm H GB;cases H;exact⟨rfl,h.se 1 []⟩
  refine cx (nF c6) [9,10,11]<|oN (nF c6) (vB true)<|G<|λ_ r=>gQ r (b:=true) rfl<|qq r<|ig<|wr<|tr<|λ_ r=>tA (Z 0) rfl r<|?_;replace H:=xm H GB;cases H;exact⟨rfl,h.se 1 []⟩
 clear h r;rintro _ a w ⟨rfl,j,r,h⟩;replace H:=GA GB;refine qq r<|wq<|gf H λzw Xh H=>gf H λvx UG H=>gf H λiZ Iu H=>mP [(b1,0,[Z Y.cB]),(b1,1,[Z Y.dY]),(b1,2,[Z Y.j0])] [0,2,3,5,6,8,10,12,13] 16 h (λh=>⟨⟨h.cell 0 rfl,bP⟩,⟨h.cell 1 rfl,bP⟩,⟨h.cell 2 rfl,bP⟩,bP⟩) λw h hd =>lY hd 11 13 [([0],pA b1 0),([4,7],Z O),([8],pA b1 1),([10],pA b1 2)]<|eY hd 0 10 1 rfl<|eY hd 1 9 9 rfl<|eY hd 2 8 11 rfl<|lJ 2 rfl<|fh (xp Xh h :) λw h=>G<|vO ⟨⟨h.cell 0 rfl,bP⟩,⟨h.cell 1 rfl,bP⟩,⟨h.cell 2 rfl,bP⟩,bP⟩ λhd =>mz hd 6 [(3,16,Z (wi ((1:Int)+zw)))]<|lJ 5 rfl<|fh (uy UG h :) λw h=>G<|vO ⟨⟨h.cell 0 rfl,bP⟩,⟨h.cell 1 rfl,bP⟩,⟨h.cell 2 rfl,bP⟩,bP⟩ λhd =>mz hd 4 [(6,19,Z (wi ((wi ((1:Int)+zw))+vx)))]<|lJ 12 rfl<|fh (Jd Iu h :) λw h=>G<|vO ⟨⟨h.cell 0 rfl,bP⟩,⟨h.cell 1 rfl,bP⟩,⟨h.cell 2 rfl,bP⟩,bP⟩ λhd =>mz hd 0 [(13,26,Z (wi (O*iZ))),(14,27,Z (wi ((wi ((wi ((1:Int)+zw))+vx))+(wi (O*iZ))))),(15,4,Z (wi ((wi ((wi ((1:Int)+zw))+vx))+(wi (O*iZ)))))]<|mT<|tn<|wr<|?_;cases H;exact gj (h.se 1 [])
def sV(O:af)(Y:Int):Option (af):=
 some ({O with ua:=Y})
theorem yI(H:sV O Y=some q0)(h:iQ z (gO B0 O jx jB jG mc L) w) :
 yL 64 #[pA B0 0,Z Y] w z (.tuple #[]) λx1 x2 x3 x4=>gO B0 q0 x1 x2 x3 x4 L:=by
 unfold sV at H;refine ke func64 10 rfl λj=>aL dk<|G<|λ_ r=>gQ r (b:=true) rfl<|qq r<|wl<|ko xR<|kS h 4 (gh B0 #[Z O.nA,Z O.fE,be jx O.cell.length jB,be jG O.log.length mc,Z Y,vB O.watched] 92) λw h=>kl<|?_;cases H;exact xv4 jx jB jG mc h
def kR(K:Nat)(O:ag)(eu:af):Nat->Int->Option (Bool)
 | 0,_=>none
 | k1+1,wM=>(if wM<((O.aj.length:Nat):Int)then ei (oJ O eu wM) (λnc=>(if nc=true then(kR K O eu k1 (wi (wM+1)))else some false))else some true)
def qR(K:Nat)(O:ag)(eu:af)(Y:aq):Option (Bool):=
 (if Y.aN=11 then some true else(if Y.aN=10 then(kR K O eu K 0)else some false))
theorem CI(H:qR K O eu Y=some r0)(h:iQ z (iR B0 O fZ nv nO lK mo iy fR bg gC eu jx jB jG mc L) w) :
 nK 65 #[pA B0 0,eT Y] w z (vB r0) (iR B0 O fZ nv nO lK mo iy fR bg gC eu jx jB jG mc L):=by
 unfold qR at H;refine ke func65 25 rfl λj=>ks<|kN h (vv Y) 47 λjf w h=>bR<|G<|wq<|aL [U]<|kL h 2<|ko [vB (Y.aN==11)]<|G<|dW H (λxg H=>?_) λxg H=>?_
 ·refine ig<|wr<|tr<|?_;cases H;exact gj (h.se 9 [1,2,3,4,5,6,7,8])
 refine gq<|wq<|aL [U]<|kL h 2<|ko [vB (Y.aN != 10)]<|G<|rD H (λpJ H=>?_) λpJ H=>?_
 ·refine gq<|wq<|aL kW<|kL (h.pick 1) 9<|ko [Z ((O.aj.length:Nat):Int),U]<|G<|wb<|λ_ r=>dz (β:=Nat) id (λm a w=>∃wM:Int,(kR K O eu m wM)=some r0/\∃j,kX 25 (lk [(0,pA B0 0),(16,Z ((O.aj.length:Nat):Int)),(17,Z wM)] j) a/\Fit z (aC (vT B0 O (if_ 33 (pA fZ 0)) nv nO lK mo iy fR bg gC::gO fZ eu jx jB jG mc (rE nv nO O.code::sk lK mo O.dK::sO iy fR O.aK::sn B0 bg gC O.aj::L))) w) K ⟨0,H,r.fj (h.se 9 [1,6,7,8,2,3,4,5])⟩<|?_;clear h r H;rintro k1 a w ⟨wM,H,j,r,h⟩;cases k1 with
  | zero=>exact absurd H (by simp[kR])
  | succ k1 =>
   rw[kR]at H;refine qq r<|aL [dH (wM<((O.aj.length:Nat):Int))]<|G<|wq<|dW H (λyd H=>?_) λyd H=>?_
   ·refine gq<|wq<|wb<|aL dk<|G<|ks<|gf H λnc Kt H=>ko dk<|qh h.m3.m3.m3.m7.m7.m7.m7.m7 λh=>fh (Be Kt h :) λw h=>ko [vB (!nc)]<|G<|FD H (λmW H=>?_) λmW H=>?_
    ·refine wk<|bn<|tn<|wl<|ko [Z (wi (wM+1)),Z (wi (wM+1))]<|G<|?_;exact λ_ r=>⟨_,⟨(wi (wM+1)),H,r.fj (h.se 8 [0,5,6,7,1,2,3,4])⟩,iI _⟩
    refine ig<|wr<|br<|tr<|tr<|br<|tr<|?_;cases H;exact gj h
   refine wx<|te<|te<|bh<|tn<|ig<|wr<|?_;cases H;exact gj (h.se 8 [0,4,5,6,7,1,2,3])
 refine ig<|wr<|tr<|?_;cases H;exact gj (h.se 9 [1,2,3,4,5,6,7,8])
def td(Y:aq):Option (Bool):=
 (if Y.aN=11 then some true else(if Y.aN=10 then none else some false))
theorem zM(H:td Y=some r0)(h:iQ z (L) w) :
 nK 65 #[pN,eT Y] w z (vB r0) (L):=by
 unfold td at H;refine ke func65 25 rfl λj=>ks<|kN h (vv Y) 47 λb1 w h=>bR<|G<|wq<|aL [U]<|kL h 2<|ko [vB (Y.aN==11)]<|G<|dW H (λc2 H=>?_) λc2 H=>?_
 ·refine ig<|wr<|tr<|?_;cases H;exact gj (h.se 1 [])
 refine gq<|wq<|aL [U]<|kL h 2<|ko [vB (Y.aN != 10)]<|G<|rD H (λc3 H=>?_) λc3 H=>?_
 ·refine gq<|wq<|ks<|?_;cases H
 refine ig<|wr<|tr<|?_;cases H;exact gj (h.se 1 [])
def nl(K:Nat)(p2:Int)(p4:mj):Nat->af->ag->aT->(List aq)->Int->Option (af×(List aq))
 | 0,_,_,_,_,_=>none
 | k1+1,S64,WB,NA,Ox,Hj=>(if Hj<((p4.jA.length:Nat):Int)then if bI Hj p4.jA.length then ei (wC (J p4.jA Hj.toNat) p2) (λOv=>ei (sV S64 Ov) (λS79=>ob5 (bp K WB S79 Ov NA) (λKy Zb U4 Sd S89=>(if Ky.aN=0 then(nl K p2 p4 k1 Sd U4 S89 Ox (wi (Hj+1)))else if(Ox.length+1)*48<=140737488355328 then ei (qR K U4 Sd ({Ky with At:=Hj})) (λSf=>(if Sf=true then some (Sd,Ox++[{Ky with At:=Hj}])else(nl K p2 p4 k1 Sd U4 S89 (Ox++[{Ky with At:=Hj}]) (wi (Hj+1)))))else none))))else none else some (S64,Ox))
def rS(K:Nat)(p2:Int)(p4:mj):Nat->af->(List aq)->Int->Option (af×(List aq))
 | 0,_,_,_=>none
 | k2+1,PZ,Dp,xy=>(if xy<((p4.jA.length:Nat):Int)then if bI xy p4.jA.length then ei (wC (J p4.jA xy.toNat) p2) (λaaW=>ei (sV PZ aaW) (λP0=>tN (oW aaW (⟨p4.oL⟩:aT)) (λGi adG=>(if Gi.aN=0 then(rS K p2 p4 k2 P0 Dp (wi (xy+1)))else if(Dp.length+1)*48<=140737488355328 then ei (td ({Gi with At:=xy})) (λCz=>(if Cz=true then some (P0,Dp++[{Gi with At:=xy}])else(rS K p2 p4 k2 P0 (Dp++[{Gi with At:=xy}]) (wi (xy+1)))))else none))))else none else some (PZ,Dp))
def sv(K:Nat)(O:aE)(Y:List Int)(p2:Int)(p3:eP)(p4:mj):Option ((List aq)×(List aW)×Int):=
 zZ ((if((p4.jA.length:Nat):Int)>1048576 then some (.inr (([]:List aq),([]:List aW),2))else(if((p4.oL.length:Nat):Int)>1048576 then some (.inr (([]:List aq),([]:List aW),2))else some (.inl ())))) (ei (nY K O Y p2 p3) (λvx=>(if vx=0 then ei (w6 K p2 p3) (λrU=>tN (yc rU) (λBV nc=>(match BV with | some gN=>(if nc=0 then qd (mF K gN O Y p2 p3) (λLa Ae Xs=>(match La with | some Qy=>(if Ae=0 then ei (qO Xs true) (λS46=>if p4.oL.length*8<=140737488355328 then tN ((nl K p2 p4 K S46 Qy (⟨p4.oL⟩:aT) ([]:List aq) 0)) (λY9 l61=>ei (qx Y9) (λadH=>some (l61,adH,0)))else none)else some (([]:List aq),([]:List aW),Ae)) | none=>(if Ae=0 then ei (qO Xs true) (λaaX=>if p4.oL.length*8<=140737488355328 then tN ((rS K p2 p4 K aaX ([]:List aq) 0)) (λVZ Tb=>ei (qx VZ) (λadI=>some (Tb,adI,0)))else none)else some (([]:List aq),([]:List aW),Ae))))else some (([]:List aq),([]:List aW),nc)) | none=>(if nc=0 then none else some (([]:List aq),([]:List aW),nc)))))else some (([]:List aq),([]:List aW),vx))))
end
noncomputable section
variable {z w:World}{L:List bj}
theorem Jf(H:sv K O Y p2 p3 p4=some (r0,r1,r2))(h:iQ z (y9 jx jB p4.jA::y9 jG mc p4.oL::L) w)(aQ:yP L aV aF O.ah)(FL:bJ L 1 aH Ep Y)(LB:bJ L 1 HX (some ⟨0,0,none⟩) Qt)(vP:bJ L 5 gT (some ⟨1,0,none⟩) yK) :
 Calls Tryz.prog 40 #[oH #[be aV O.ah.length bu],be Ep Y.length GC,Z p2,kU p3,oH #[be jx p4.jA.length jB,be jG p4.oL.length mc]] w λe w=>∃y1 y2 V0,e=.returned (.tuple #[be y1 r0.length y2,be V0 r1.length r1.length,Z r2])/\Fit z (aC (y9 jx jB p4.jA::y9 jG mc p4.oL::Ja y1 y2 r0::Uz V0 r1.length r1::L)) w:=by
 unfold sv at H;refine ke func40 108 rfl λj=>ks<|kN h (#[be aV O.ah.length bu]) 24 λb5 w h=>kN h (mg p3) 27 λb6 w h=>kN h (#[be jx p4.jA.length jB,be jG p4.oL.length mc]) 30 λb7 w h=>ko kW<|G<|?_;obtain⟨o9,H,Nc⟩:=Gz H;refine λ_ r=>dh (β:=Unit) (λ_ a w=>.inl ()=o9/\∃j,kX 108 (lk [(1,be Ep Y.length GC),(2,Z p2),(5,pA b5 0),(8,pA b6 0),(9,pA b7 0)] j) a/\Fit z (aC (gh b5 #[be aV O.ah.length bu] 24::M9 b6 p3::afI b7 p4 jx jB jG mc::y9 jx jB p4.jA::y9 jG mc p4.oL::L)) w) ?_ ?_
 ·refine qq r<|aL [U]<|kL h 0<|ko [Z ((p4.jA.length:Nat):Int),dH (((p4.jA.length:Nat):Int)>1048576),dH (((p4.jA.length:Nat):Int)>1048576)]<|qI H (λoO H=>?_) λoO H=>?_
  ·refine cx (dT oO) [29,30,31,32]<|oN (dT oO) (vB true)<|G<|λ_ r=>gQ r (b:=true) rfl<|qq r<|aL kW<|bW<|tr<|λ_ r=>K9 (be none 0 0) (be none 0 0) (Z 2) rfl r<|?_;replace h:=h.fM (e:=47) (sz:=6) (enc:=iu);replace h:=h.fM (e:=159) (sz:=6) (enc:=ij);replace H:=xm H Nc;cases H;exact⟨none,0,none,rfl,h.se 7 [5,6,1,0]⟩
  refine dg (dF oO) [29] [pA b7 1]<|vM (dF oO) h 1<|dg (dF oO) [31,32] [Z ((p4.oL.length:Nat):Int),dH (((p4.oL.length:Nat):Int)>1048576)]<|oC (dF oO) (dH (((p4.oL.length:Nat):Int)>1048576))<|G<|dW H (λu6 H=>?_) λu6 H=>?_
  ·refine aL kW<|bW<|tr<|λ_ r=>K9 (be none 0 0) (be none 0 0) (Z 2) rfl r<|?_;replace h:=h.fM (e:=47) (sz:=6) (enc:=iu);replace h:=h.fM (e:=159) (sz:=6) (enc:=ij);replace H:=xm H Nc;cases H;exact⟨none,0,none,rfl,h.se 7 [5,6,1,0]⟩
  refine gq<|?_;exact λ_ r=>⟨(),gE H,r.fj (h.se 5 [2,1,0,3,4])⟩
 clear h r;rintro _ a w ⟨rfl,j,r,h⟩;replace H:=GA Nc;refine qq r<|wq<|ks<|yb (oH #[be aV O.ah.length bu]) (cs:=[be aV O.ah.length bu]) ⟨h.cell 0 rfl,bP⟩<|?_;refine ko dk<|kM (h.pick 1)<|gf H λvx UG H=>fh (we (Ep:=Ep) (GC:=GC) (FL:=(bJ.up 5 FL)) (aV:=aV) (bu:=bu) (aQ:=(xO.up 5 aQ)) (vP:=bJ.up 5 vP) (aF:=aF) UG h :) λw h=>bR<|G<|aL [U,vB (vx != 0)]<|G<|rD H (λxg H=>?_) λxg H=>?_
 ·refine gq<|aL [U]<|kM (h.pick 1)<|gf H λrU Xr H=>fh (Je Xr h :) λw h=>xB H λBV nc Kt H=>?_;cases BV with
  | some gN =>
   refine xc5 (Jv Kt h :) λJ5 nZ vQ Da FP w h=>ko [.tuple #[pA J5 0,Z nc],U,U,U,U]<|G<|wq<|aL [U,vB (nc != 0)]<|G<|rD H (λCV H=>?_) λCV H=>?_
   ·refine gq<|aL dk<|yb (oH #[be aV O.ah.length bu]) (cs:=[be aV O.ah.length bu]) ⟨(h.pick 3).cell 0 rfl,bP⟩<|?_;refine ko dk<|kM (h.pick 4)<|uI H λLa Ae Xs Lf H=>?_;cases La with
    | some Qy =>
     have hc:=Cw (vA:=Ep) (xh:=GC) (BT:=(bJ.up 5 FL)) (jJ:=aV) (mG:=bu) (mH:=(xO.up 5 aQ)) (vP:=bJ.up 5 vP) (jg:=aF) (H:=Lf) (h:=h);intro _ r;refine cl (wn rfl) r hc ?_;clear hc h;rintro _ w ⟨aaY,x33,x34,x35,Hz,JE,Hw,FJ,EV,Fq,Kx,Si,x44,rfl,h⟩;refine⟨_,rfl,?_⟩;refine ko [.tuple #[pA aaY 0,Z Ae],U,U,U,U]<|G<|wq<|aL [U,vB (Ae != 0)]<|G<|rD H (λU1 H=>?_) λU1 H=>?_
     ·refine gq<|ks<|gf H λS46 e47 H=>bR<|lQ (wY e47 h :) λx48 x49 x50 TF w h=>G<|aL [U]<|kL (h.pick 10) 1<|qg H λc52 H=>xc1 (Ch (va:=jG) (c:=mc) (l:=p4.oL) (h:=h) (hv:=(bJ.FA aG (h.pick 12) (λh=>(h.pick 12)))) c52 :) λb53 w h=>bR<|G<|ig<|qd2 H λo63 H afL=>λ_ r=>dh (β:=Unit) (λ_ a w=>∃Fk:fP,∃Fl:Nat,∃Jy:fP,∃Jz:Nat,∃Yn:fP,∃Yo:Nat,∃Y9:af,∃l61:List aq,(Y9,l61)=o63/\∃j,kX 108 (lk [(14,pA J5 0),(18,be Yn l61.length Yo)] j) a/\Fit z (aC (gO J5 Y9 Fk Fl Jy Jz (Ja Yn Yo l61::y9 jx jB p4.jA::y9 jG mc p4.oL::L))) w) ?_ ?_
      ·refine qq r<|aL [U]<|kL (h.pick 11) 0<|ko [Z ((p4.jA.length:Nat):Int),U]<|G<|wb<|?_;replace h:=h.fM (e:=47) (sz:=6) (enc:=iu);refine λ_ r=>dz (β:=Nat) id (λm a w=>∃aaZ:fP,∃aa0:Nat,∃SY:fP,∃S4:Nat,∃V1:fP,∃V2:Nat,∃S64:af,∃WB:ag,∃NA:aT,∃Ox:List aq,∃Hj:Int,(nl K p2 p4 m S64 WB NA Ox Hj)=some o63/\∃j,kX 108 (lk [(2,Z p2),(14,pA J5 0),(16,pA aaY 0),(17,pA b53 0),(18,be V1 Ox.length V2),(71,be jx p4.jA.length jB),(72,Z ((p4.jA.length:Nat):Int)),(73,Z Hj)] j) a/\Fit z (aC (gO J5 S64 aaZ aa0 SY S4 (Y6 aaY WB J5 x33 x34 x35 Hz JE Hw FJ EV (xe b53 NA::Ja V1 V2 Ox::y9 jx jB p4.jA::y9 jG mc p4.oL::L)))) w) K ⟨x48,x49,x50,TF,none,0,S46,Qy,(⟨p4.oL⟩:aT),([]:List aq),0,H,r.fj (h.se 15 [2,3,4,5,6,7,8,9,1,0,13,14])⟩<|?_;clear h r H;rintro k1 a w ⟨aaZ,aa0,SY,S4,V1,V2,S64,WB,NA,Ox,Hj,H,j,r,h⟩;cases k1 with
       | zero=>exact absurd H (by simp[nl])
       | succ k1 =>
        rw[nl]at H;refine qq r<|aL [dH (Hj<((p4.jA.length:Nat):Int))]<|G<|wq<|dW H (λc75 H=>?_) λc75 H=>?_
        ·refine gq<|wq<|wb<|ks<|qg H λc76 H=>bR<|ki (h.pick 10) c76<|zu (Z (J p4.jA Hj.toNat)) ((h.pick 10).cG aG (f:=0) (bl c76) rfl)<|?_;refine ko dk<|G<|ks<|gf H λOv e78 H=>ko dk<|fh (Bd e78 h :) λw h=>bR<|G<|ks<|gf H λS79 e80 H=>ko dk<|lQ (yI e80 h :) λx81 x82 x83 Sh w h=>G<|ks<|qb5 H λKy Zb U4 Sd S89 e90 H=>ko xR<|qh h.m8.m3.m3.m3.m8.m8.m8.m8.m8 λh=>lQ (yC (LB:=bJ.up 3 LB) e90 h :) λx91 x92 x93 x94 w h=>ko [.tuple #[eT Ky,Z Zb],U,U]<|kN h (gG) 47 λb95 w h=>kA h (fX b95 Ky) λw h=>bR<|G<|wq<|aL [U]<|kL h 2<|ko [vB (Ky.aN==0)]<|G<|dW H (λc96 H=>?_) λc96 H=>?_
         ·refine wx<|te<|bh<|tn<|wl<|ko [Z (wi (Hj+1)),Z (wi (Hj+1))]<|G<|?_;exact λ_ r=>⟨_,⟨x91,x92,x93,x94,V1,V2,Sd,U4,S89,Ox,(wi (Hj+1)),H,r.fj (h.se 13 [6,7,8,1,2,3,4,5,9,10,11,12])⟩,iI _⟩
         refine gq<|aL dk<|kS h 0 (fX b95 {Ky with At:=Hj}) λw h=>G<|aL [U]<|kM h<|kV h (vv {Ky with At:=Hj}) 47 λb97 w h=>qh h.m11 λh=>qg H λaai H=>λ_ r=>j8 (n0:=Ox.length) (c:=1) (bytes:=48) (wn rfl) rfl rfl r rfl aZ aZ gy (E:=47) (xs:=Ox) aZ aZ h (news:=[{Ky with At:=Hj}]) (m:=1) rfl ((h.pick 1).news rfl) aai rfl λadJ adK w _ h r=>qq r<|bR<|G<|aL [U]<|kM (h.pick 2)<|gf H λSf afM H=>qh h.On.On.On.On.On.On.On.On λh=>fh (CI afM h :) λw h=>G<|Em H (λafN H=>?_) λafN H=>?_
         ·refine wx<|λ_ r=>CM eC<|qq r<|te<|te<|bh<|tn<|?_;exact λ_ r=>⟨(),x91,x92,x93,x94,adJ,adK,Sd,(Ox++[{Ky with At:=Hj}]),gE H,r.fj (h.se 14 [5,6,7,8,12,13])⟩
         refine wk<|bn<|tn<|wl<|ko [Z (wi (Hj+1)),Z (wi (Hj+1))]<|G<|?_;exact λ_ r=>⟨_,⟨x91,x92,x93,x94,adJ,adK,Sd,U4,S89,(Ox++[{Ky with At:=Hj}]),(wi (Hj+1)),H,r.fj (h.se 14 [5,6,7,0,1,2,3,4,11,8,12,13])⟩,iI _⟩
        refine wx<|te<|te<|bh<|tn<|?_;exact λ_ r=>⟨(),aaZ,aa0,SY,S4,V1,V2,S64,Ox,gE H,r.fj (h.se 12 [0,1,2,9,10,11])⟩
      clear h r;rintro _ a w ⟨Fk,Fl,Jy,Jz,Yn,Yo,Y9,l61,rfl,j,r,h⟩;replace H:=kk2 afL;refine qq r<|ks<|gf H λadH U8 H=>ko dk<|xc1 (yD U8 h :) λEY w h=>ko kW<|bW<|?_;cases H;exact xw3 Yn Yo EY (h.se 7 [5,6,4,3])
     refine aL xR<|bW<|tr<|λ_ r=>K9 (be none 0 0) (be none 0 0) (Z Ae) rfl r<|?_;replace h:=h.fM (e:=47) (sz:=6) (enc:=iu);replace h:=h.fM (e:=159) (sz:=6) (enc:=ij);cases H;exact⟨none,0,none,rfl,h.se 15 [13,14,1,0]⟩
    | none =>
     refine lQ (Cx (vA:=Ep) (xh:=GC) (BT:=(bJ.up 5 FL)) (jJ:=aV) (mG:=bu) (mH:=(xO.up 5 aQ)) (vP:=bJ.up 5 vP) (jg:=aF) Lf h :) λF1 IV IW agI w h=>ko [.tuple #[pN,Z Ae],U,U,U,U]<|G<|wq<|aL [U,vB (Ae != 0)]<|G<|rD H (λaak H=>?_) λaak H=>?_
     ·refine gq<|ks<|gf H λaaX afO H=>bR<|lQ (wY afO h :) λafP afQ afR G9 w h=>G<|aL [U]<|kL (h.pick 5) 1<|qg H λafS H=>xc1 (Ch (va:=jG) (c:=mc) (l:=p4.oL) (h:=h) (hv:=(bJ.FA aG (h.pick 7) (λh=>(h.pick 7)))) afS :) λadL w h=>bR<|G<|ig<|qd2 H λadM H adN=>λ_ r=>dh (β:=Unit) (λ_ a w=>∃Zs:fP,∃Zt:Nat,∃Zu:fP,∃Zv:Nat,∃Ro:fP,∃Rp:Nat,∃VZ:af,∃Tb:List aq,(VZ,Tb)=adM/\∃j,kX 108 (lk [(14,pA J5 0),(18,be Ro Tb.length Rp)] j) a/\Fit z (aC (gO J5 VZ Zs Zt Zu Zv (Ja Ro Rp Tb::y9 jx jB p4.jA::y9 jG mc p4.oL::L))) w) ?_ ?_
      ·refine qq r<|aL [U]<|kL (h.pick 6) 0<|ko [Z ((p4.jA.length:Nat):Int),U]<|G<|wb<|?_;replace h:=h.fM (e:=47) (sz:=6) (enc:=iu);refine λ_ r=>dz (β:=Nat) id (λm a w=>∃V3:fP,∃V4:Nat,∃V5:fP,∃V6:Nat,∃Oc:fP,∃Od:Nat,∃PZ:af,∃Dp:List aq,∃xy:Int,(rS K p2 p4 m PZ Dp xy)=some adM/\∃j,kX 108 (lk [(2,Z p2),(14,pA J5 0),(16,pN),(17,pA adL 0),(18,be Oc Dp.length Od),(71,be jx p4.jA.length jB),(72,Z ((p4.jA.length:Nat):Int)),(73,Z xy)] j) a/\Fit z (aC (gO J5 PZ V3 V4 V5 V6 (xe adL (⟨p4.oL⟩:aT)::Ja Oc Od Dp::y9 jx jB p4.jA::y9 jG mc p4.oL::L))) w) K ⟨afP,afQ,afR,G9,none,0,aaX,([]:List aq),0,H,r.fj (h.se 10 [2,3,4,1,0,8,9])⟩<|?_;clear h r H;rintro k2 a w ⟨V3,V4,V5,V6,Oc,Od,PZ,Dp,xy,H,j,r,h⟩;cases k2 with
       | zero=>exact absurd H (by simp[rS])
       | succ k2 =>
        rw[rS]at H;refine qq r<|aL [dH (xy<((p4.jA.length:Nat):Int))]<|G<|wq<|dW H (λafT H=>?_) λafT H=>?_
        ·refine gq<|wq<|wb<|ks<|qg H λadO H=>bR<|ki (h.pick 5) adO<|zu (Z (J p4.jA xy.toNat)) ((h.pick 5).cG aG (f:=0) (bl adO) rfl)<|?_;refine ko dk<|G<|ks<|gf H λaaW afU H=>ko dk<|fh (Bd afU h :) λw h=>bR<|G<|ks<|gf H λP0 afV H=>ko dk<|lQ (yI afV h :) λaa1 aa2 aa3 aa4 w h=>G<|ks<|xB H λGi adG afW H=>ko xR<|qh h.m3 λh=>fh (wm afW h :) λw h=>ko [.tuple #[eT Gi,Z adG],U,U]<|kN h (gG) 47 λadP w h=>kA h (fX adP Gi) λw h=>bR<|G<|wq<|aL [U]<|kL h 2<|ko [vB (Gi.aN==0)]<|G<|dW H (λafX H=>?_) λafX H=>?_
         ·refine wx<|te<|bh<|tn<|wl<|ko [Z (wi (xy+1)),Z (wi (xy+1))]<|G<|?_;exact λ_ r=>⟨_,⟨aa1,aa2,aa3,aa4,Oc,Od,P0,Dp,(wi (xy+1)),H,r.fj (h.se 8 [2,3,4,1,5,6,7])⟩,iI _⟩
         refine gq<|aL dk<|kS h 0 (fX adP {Gi with At:=xy}) λw h=>G<|aL [U]<|kM h<|kV h (vv {Gi with At:=xy}) 47 λagJ w h=>qh h.m6 λh=>qg H λU9 H=>λ_ r=>j8 (n0:=Dp.length) (c:=1) (bytes:=48) (wn rfl) rfl rfl r rfl aZ aZ gy (E:=47) (xs:=Dp) aZ aZ h (news:=[{Gi with At:=xy}]) (m:=1) rfl ((h.pick 1).news rfl) U9 rfl λZw Zx w _ h r=>qq r<|bR<|G<|aL [U]<|kM (h.pick 2)<|gf H λCz afY H=>fh (zM afY h :) λw h=>G<|Em H (λafZ H=>?_) λafZ H=>?_
         ·refine wx<|λ_ r=>CM eC<|qq r<|te<|te<|bh<|tn<|?_;exact λ_ r=>⟨(),aa1,aa2,aa3,aa4,Zw,Zx,P0,(Dp++[{Gi with At:=xy}]),gE H,r.fj (h.se 9 [4,5,6,0,7,8])⟩
         refine wk<|bn<|tn<|wl<|ko [Z (wi (xy+1)),Z (wi (xy+1))]<|G<|?_;exact λ_ r=>⟨_,⟨aa1,aa2,aa3,aa4,Zw,Zx,P0,(Dp++[{Gi with At:=xy}]),(wi (xy+1)),H,r.fj (h.se 9 [4,5,6,3,0,7,8])⟩,iI _⟩
        refine wx<|te<|te<|bh<|tn<|?_;exact λ_ r=>⟨(),V3,V4,V5,V6,Oc,Od,PZ,Dp,gE H,r.fj (h.se 7 [0,1,2,4,5,6])⟩
      clear h r;rintro _ a w ⟨Zs,Zt,Zu,Zv,Ro,Rp,VZ,Tb,rfl,j,r,h⟩;replace H:=kk2 adN;refine qq r<|ks<|gf H λadI af0 H=>ko dk<|xc1 (yD af0 h :) λHe w h=>ko kW<|bW<|?_;cases H;exact xw3 Ro Rp He (h.se 7 [5,6,4,3])
     refine aL xR<|bW<|tr<|λ_ r=>K9 (be none 0 0) (be none 0 0) (Z Ae) rfl r<|?_;replace h:=h.fM (e:=47) (sz:=6) (enc:=iu);replace h:=h.fM (e:=159) (sz:=6) (enc:=ij);cases H;exact⟨none,0,none,rfl,h.se 10 [8,9,1,0]⟩
   refine aL xR<|bW<|tr<|λ_ r=>K9 (be none 0 0) (be none 0 0) (Z nc) rfl r<|?_;replace h:=h.fM (e:=47) (sz:=6) (enc:=iu);replace h:=h.fM (e:=159) (sz:=6) (enc:=ij);cases H;exact⟨none,0,none,rfl,h.se 10 [8,9,1,0]⟩
  | none =>
   refine fh (Jw Kt h :) λw h=>ko [.tuple #[pN,Z nc],U,U,U,U]<|G<|wq<|aL [U,vB (nc != 0)]<|G<|rD H (λaf1 H=>?_) λaf1 H=>?_
   ·refine gq<|aL dk<|yb (oH #[be aV O.ah.length bu]) (cs:=[be aV O.ah.length bu]) ⟨h.cell 0 rfl,bP⟩<|?_;refine ko dk<|kM (h.pick 1)<|?_;cases H
   refine aL xR<|bW<|tr<|λ_ r=>K9 (be none 0 0) (be none 0 0) (Z nc) rfl r<|?_;replace h:=h.fM (e:=47) (sz:=6) (enc:=iu);replace h:=h.fM (e:=159) (sz:=6) (enc:=ij);cases H;exact⟨none,0,none,rfl,h.se 7 [5,6,1,0]⟩
 refine aL xR<|bW<|tr<|λ_ r=>K9 (be none 0 0) (be none 0 0) (Z vx) rfl r<|?_;replace h:=h.fM (e:=47) (sz:=6) (enc:=iu);replace h:=h.fM (e:=159) (sz:=6) (enc:=ij);cases H;exact⟨none,0,none,rfl,h.se 7 [5,6,1,0]⟩
def od(O:mj):Option (Bool):=
 (if((O.jA.length:Nat):Int)>1048576 then some true else some (decide (((O.oL.length:Nat):Int)>1048576)))
theorem Au(H:od O=some r0)(h:iQ z (L) w)(Tc:bJ L 1 aH Gj O.jA)(Td:bJ L 1 aH Gk O.oL) :
 nK 66 #[oH #[be Gj O.jA.length KM,be Gk O.oL.length KN]] w z (vB r0) (L):=by
 unfold od at H;refine ke func66 13 rfl λj=>ks<|kN h (#[be Gj O.jA.length KM,be Gk O.oL.length KN]) 30 λb1 w h=>bR<|G<|aL [U]<|kL h 0<|ko [Z ((O.jA.length:Nat):Int),dH (((O.jA.length:Nat):Int)>1048576),dH (((O.jA.length:Nat):Int)>1048576)]<|qI H (λc2 H=>?_) λc2 H=>?_
 ·refine cx (dT c2) [8,9,10,11]<|oN (dT c2) (vB true)<|bR<|bW<|?_;cases H;exact gj (h.se 1 [])
 refine dg (dF c2) [8] [pA b1 1]<|vM (dF c2) h 1<|dg (dF c2) [10,11] [Z ((O.oL.length:Nat):Int),dH (((O.oL.length:Nat):Int)>1048576)]<|oC (dF c2) (dH (((O.oL.length:Nat):Int)>1048576))<|ko [dH (((O.oL.length:Nat):Int)>1048576)]<|bW<|?_;cases H;exact gj (h.se 1 [])
def iO(K:Nat)(O:bO):Option (Int):=
 ei (od (⟨O.dx,O.fB⟩:mj)) (λr2=>(if r2=true then some 2 else ei (mD K (⟨O.bS⟩:aE) O.oQ O.di (⟨O.eL,O.fD,O.gJ⟩:eP)) (λr5=>some r5)))
theorem Av(H:iO K O=some r0)(h:iQ z (L) w)(cP:yP L aO cK O.bS)(oa:bJ L 1 aH ey O.oQ)(jb:bJ L 1 aH bK O.dx)(jT:bJ L 1 aH bU O.fB) :
 nK 41 #[oH #[be aO O.bS.length bt,be ey O.oQ.length fm,Z O.di,Z O.eL,Z O.fD,Z O.gJ,be bK O.dx.length cC,be bU O.fB.length cJ]] w z (Z r0) (L):=by
 unfold iO at H;refine ke func41 15 rfl λj=>ks<|kN h (#[be aO O.bS.length bt,be ey O.oQ.length fm,Z O.di,Z O.eL,Z O.fD,Z O.gJ,be bK O.dx.length cC,be bU O.fB.length cJ]) 32 λb1 w h=>bR<|G<|wq<|aL [U]<|yb (oH #[be bK O.dx.length cC,be bU O.fB.length cJ]) (cs:=[be bK O.dx.length cC,be bU O.fB.length cJ]) (h.held 6 rfl)<|?_;refine gf H λr2 e3 H=>fh (Au (Gj:=bK) (KM:=cC) (Tc:=(bJ.up 1 jb)) (Gk:=bU) (KN:=cJ) (Td:=(bJ.up 1 jT)) e3 h :) λw h=>G<|Em H (λc4 H=>?_) λc4 H=>?_
 ·refine ig<|wr<|tr<|?_;cases H;exact gj (h.se 1 [])
 refine gq<|aL [U]<|yb (oH #[be aO O.bS.length bt]) (cs:=[be aO O.bS.length bt]) ⟨h.cell 0 rfl,bP⟩<|?_;refine bR<|kL h 1<|bR<|kL h 2<|bR<|yb (oH #[Z O.eL,Z O.fD,Z O.gJ]) (cs:=[Z O.eL,Z O.fD,Z O.gJ]) (h.held 3 rfl)<|?_;refine gf H λr5 e6 H=>fh (Ag (Ep:=ey) (GC:=fm) (FL:=(bJ.up 1 oa)) (aV:=aO) (bu:=bt) (aQ:=(xO.up 1 cP)) (aF:=cK) e6 h :) λw h=>bR<|bW<|?_;cases H;exact gj (h.se 1 [])
def kT(K:Nat)(nc:List aq):Nat->Int->Option ((List aq)×Bool×Bool)
 | 0,_=>none
 | k1+1,tg=>(if tg<((nc.length:Nat):Int)then ei (if bI tg nc.length then(if(J nc tg.toNat).aN=1 then some ((J nc tg.toNat).Frame==0)else some false)else none) (λg34=>(if g34=true then if bI tg nc.length then(if(J nc tg.toNat).tw=0 then(if(J nc tg.toNat).X=(-1)then some (nc,true,(J nc tg.toNat).V==1)else some (nc,true,false))else some (nc,true,false))else none else(kT K nc k1 (wi (tg+1)))))else some (nc,true,false))
def lN(K:Nat)(O:bO):Option ((List aq)×Bool×Bool):=
 ei (ow K O) (λr5=>qd (sv K (⟨r5.bS⟩:aE) r5.oQ r5.di (⟨r5.eL,r5.fD,r5.gJ⟩:eP) (⟨r5.dx,r5.fB⟩:mj)) (λnc rm xo=>ei (iO K O) (λyN=>(if xo=yN then(if xo=0 then ei (sE K O) (λO0=>(if O0=true then(kT K nc K 0)else some (nc,true,true)))else some (([]:List aq),false,true))else some (([]:List aq),false,false)))))
theorem CJ(H:lN K O=some (r0,r1,r2))(h:iQ z (L) w)(cP:yP L aO cK O.bS)(oa:bJ L 1 aH ey O.oQ)(jb:bJ L 1 aH bK O.dx)(jT:bJ L 1 aH bU O.fB)(LB:bJ L 1 HX (some ⟨0,0,none⟩) Qt)(vP:bJ L 5 gT (some ⟨1,0,none⟩) yK) :
 Calls Tryz.prog 45 #[oH #[be aO O.bS.length bt,be ey O.oQ.length fm,Z O.di,Z O.eL,Z O.fD,Z O.gJ,be bK O.dx.length cC,be bU O.fB.length cJ]] w λe w=>∃y1 y2,e=.returned (.tuple #[be y1 r0.length y2,vB r1,vB r2])/\Fit z (aC (Ja y1 y2 r0::L)) w:=by
 unfold lN at H;refine ke func45 85 rfl λj=>ks<|kN h (#[be aO O.bS.length bt,be ey O.oQ.length fm,Z O.di,Z O.eL,Z O.fD,Z O.gJ,be bK O.dx.length cC,be bU O.fB.length cJ]) 32 λb4 w h=>ko kW<|G<|ks<|kM h<|gf H λr5 e6 H=>xc8 (CH (aO:=aO) (bt:=bt) (cP:=(xO.up 1 cP)) (ey:=ey) (fm:=fm) (oa:=(bJ.up 1 oa)) (bK:=bK) (cC:=cC) (jb:=(bJ.up 1 jb)) (bU:=bU) (cJ:=cJ) (jT:=(bJ.up 1 jT)) (cK:=cK) e6 h :) λx7 x8 x9 CN yt AW xj yg w h=>kN h (#[be none 0 0,be none 0 0,Z 0,Z 0,Z 0,Z 0,be none 0 0,be none 0 0]) 32 λb15 w h=>kA h (CZ b15 r5 x7 x8 x9 CN yt AW xj yg) λw h=>G<|aL [U]<|yb (oH #[be x7 r5.bS.length x8]) (cs:=[be x7 r5.bS.length x8]) ⟨h.cell 0 rfl,bP⟩<|?_;refine bR<|kL h 1<|bR<|kL h 2<|bR<|yb (oH #[Z r5.eL,Z r5.fD,Z r5.gJ]) (cs:=[Z r5.eL,Z r5.fD,Z r5.gJ]) (h.held 3 rfl)<|?_;refine bR<|yb (oH #[be yt r5.dx.length AW,be xj r5.fB.length yg]) (cs:=[be yt r5.dx.length AW,be xj r5.fB.length yg]) (h.held 6 rfl)<|?_;refine qh h.m1 λh=>?_;obtain⟨af2,adQ,h⟩:=Ub (cn:=Uy) (ag3:=146) (tB:=5) (jm:=cY) (vL:=aB.ai) (λh=>vu h) h;refine uI H λnc rm xo Le H=>qh h.m4.m4 λh=>xc3 (Jf (Ep:=x9) (GC:=CN) (FL:=(bJ.FA aG (h.pick 4) (λh=>(h.pick 2)))) (aV:=x7) (bu:=x8) (aQ:=(xO.cast (xO.W5 iS eC (h.pick 2) (λh=>h)) adQ)) (LB:=bJ.up 4 LB) (vP:=bJ.up 4 vP) (aF:=(λi_=>(J af2 i_).2)) Le h :) λnZ vQ Da w h=>qh h.m4 λh=>?_;replace h:=OH (own:=mX) (λh=>fl h) h adQ;refine ko [.tuple #[be nZ nc.length vQ,be Da rm.length rm.length,Z xo],U,U,U,U,U,U]<|G<|ks<|kM (h.pick 7)<|gf H λyN UY H=>fh (Av (aO:=aO) (bt:=bt) (cP:=(xO.up 8 cP)) (ey:=ey) (fm:=fm) (oa:=(bJ.up 8 oa)) (bK:=bK) (cC:=cC) (jb:=(bJ.up 8 jb)) (bU:=bU) (cJ:=cJ) (jT:=(bJ.up 8 jT)) (cK:=cK) UY h :) λw h=>bR<|G<|wq<|aL [U,U,vB (xo != yN)]<|G<|rD H (λsP H=>?_) λsP H=>?_
 ·refine gq<|wq<|aL [U,vB (xo != 0)]<|G<|rD H (λC8 H=>?_) λC8 H=>?_
  ·refine gq<|ks<|kM (h.pick 7)<|gf H λO0 Lf H=>fh (BR (aO:=aO) (bt:=bt) (cP:=(xO.up 8 cP)) (ey:=ey) (fm:=fm) (oa:=(bJ.up 8 oa)) (bK:=bK) (cC:=cC) (jb:=(bJ.up 8 jb)) (bU:=bU) (cJ:=cJ) (jT:=(bJ.up 8 jT)) (cK:=cK) Lf h :) λw h=>bR<|G<|wq<|aL [U,vB (!O0)]<|G<|FD H (λxD H=>?_) λxD H=>?_
   ·refine gq<|wq<|ig<|wb<|λ_ r=>dz (β:=Nat) id (λm a w=>∃tg:Int,(kT K nc m tg)=some (r0,r1,r2)/\∃j,kX 85 (lk [(6,be nZ nc.length vQ),(11,Z tg)] j) a/\Fit z (aC (Ja nZ vQ nc::L)) w) K ⟨0,H,r.fj (h.se 8 [3])⟩<|?_;clear h r H;rintro k1 a w ⟨tg,H,j,r,h⟩;cases k1 with
    | zero=>exact absurd H (by simp[kT])
    | succ k1 =>
     rw[kT]at H;refine qq r<|wq<|aL [U,U,Z ((nc.length:Nat):Int),dH (tg<((nc.length:Nat):Int))]<|G<|dW H (λCl H=>?_) λCl H=>?_
     ·refine gq<|wq<|wb<|El H λo36 H af3=>λ_ r=>dh (β:=Unit) (λ_ a w=>∃g34:Bool,g34=o36/\∃j,kX 85 (lk [(6,be nZ nc.length vQ),(11,Z tg),(60,vB g34)] j) a/\Fit z (aC (Ja nZ vQ nc::L)) w) ?_ ?_
      ·refine qq r<|wl<|qg H λMh H=>ko dk<|ki h Mh<|bR<|zu (Z (J nc tg.toNat).aN) (h.cG gy (f:=2) (bl Mh) rfl)<|?_;refine ko [vB ((J nc tg.toNat).aN==1),vB ((J nc tg.toNat).aN==1)]<|qI H (λMc H=>?_) λMc H=>?_
       ·refine dg (beq_iff_eq.mpr Mc) [54,55] [be nZ nc.length vQ,Z tg]<|λ_ r=>KW (mB r (beq_iff_eq.mpr Mc)) r (mV nZ tg 6) (ud 47 rfl h Mh)<|?_;refine dg (beq_iff_eq.mpr Mc) [57] [ue nZ tg 6 3]<|λ_ r=>ld (mB r (beq_iff_eq.mpr Mc)) r (Z (J nc tg.toNat).Frame) (h.cG gy (f:=3) (bl Mh) rfl)<|?_;refine dg (beq_iff_eq.mpr Mc) [59] [vB ((J nc tg.toNat).Frame==0)]<|oN (beq_iff_eq.mpr Mc) (vB ((J nc tg.toNat).Frame==0))<|G<|?_;exact λ_ r=>⟨(),((J nc tg.toNat).Frame==0),gE H,r.fj h⟩
       refine cx (bN Mc) [54,55,56,57,58,59]<|oC (bN Mc) (vB false)<|G<|?_;exact λ_ r=>⟨(),false,gE H,r.fj h⟩
      clear h r;rintro _ a w ⟨g34,rfl,j,r,h⟩;replace H:=Ek af3;refine qq r<|Em H (λMf H=>?_) λMf H=>?_
      ·refine wq<|qg H λKv H=>qI H (λAf H=>?_) λAf H=>?_
       ·refine qI H (λC6 H=>?_) λC6 H=>?_
        ·refine mP [(dQ nZ,tg.toNat*6+1,[Z (J nc tg.toNat).tw]),(dQ nZ,tg.toNat*6+4,[Z (J nc tg.toNat).X]),(dQ nZ,tg.toNat*6+5,[Z (J nc tg.toNat).V])] [3,4,6,10,11,13,18,19] 26 h (λh=>⟨⟨h.cG gy (f:=1) (bl Kv) rfl,bP⟩,⟨h.cG gy (f:=4) (bl Kv) rfl,bP⟩,⟨h.cG gy (f:=5) (bl Kv) rfl,bP⟩,bP⟩) λw h hd =>lY hd 23 61 [([0,1],be nZ nc.length vQ),([2],Z tg)]<|ny hd 22 3 rfl (mV nZ tg 6) (λw=>ud 47 rfl h Kv)<|mz hd 21 [(4,65,ue nZ tg 6 1)]<|eY hd 0 20 5 rfl<|lY hd 18 61 [([6,7],vB ((J nc tg.toNat).tw==0))]<|λ_ r=>CS hd 17 8 rfl (mB r (beq_iff_eq.mpr Af)) r (be nZ nc.length vQ)<|?_;refine λ_ r=>CS hd 16 9 rfl (mB r (beq_iff_eq.mpr Af)) r (Z tg)<|?_;refine λ_ r=>CS hd 15 10 rfl (mB r (beq_iff_eq.mpr Af)) r (mV nZ tg 6) (hrun:=λw=>ud 47 rfl h Kv)<|?_;refine λ_ r=>CS hd 14 11 rfl (mB r (beq_iff_eq.mpr Af)) r (ue nZ tg 6 4)<|?_;refine λ_ r=>W1 hd 1 13 12 r (mB r (beq_iff_eq.mpr Af)) rfl rfl<|?_;refine λ_ r=>CS hd 12 13 rfl (mB r (beq_iff_eq.mpr Af)) r (vB ((J nc tg.toNat).X==(-1)))<|?_;refine ny hd 11 14 rfl (vB ((J nc tg.toNat).X==(-1))) (λw=>Fx (b:=((J nc tg.toNat).tw==0)) rfl aZ (beq_iff_eq.mpr Af) aZ)<|mz hd 10 [(15,76,vB ((J nc tg.toNat).X==(-1)))]<|λ_ r=>CS hd 9 16 rfl (mB r (beq_iff_eq.mpr C6)) r (be nZ nc.length vQ)<|?_;refine λ_ r=>CS hd 8 17 rfl (mB r (beq_iff_eq.mpr C6)) r (Z tg)<|?_;refine λ_ r=>CS hd 7 18 rfl (mB r (beq_iff_eq.mpr C6)) r (mV nZ tg 6) (hrun:=λw=>ud 47 rfl h Kv)<|?_;refine λ_ r=>CS hd 6 19 rfl (mB r (beq_iff_eq.mpr C6)) r (ue nZ tg 6 5)<|?_;refine mz hd 4 [(23,2,be nZ nc.length vQ),(24,3,vB true)]<|λ_ r=>W1 hd 2 3 20 r (mB r (beq_iff_eq.mpr C6)) rfl rfl<|?_;refine λ_ r=>CS hd 2 21 rfl (mB r (beq_iff_eq.mpr C6)) r (vB ((J nc tg.toNat).V==1))<|?_;refine ny hd 1 22 rfl (vB ((J nc tg.toNat).V==1)) (λw=>Fx (b:=((J nc tg.toNat).X==(-1))) rfl aZ (beq_iff_eq.mpr C6) aZ)<|mz hd 0 [(25,4,vB ((J nc tg.toNat).V==1))]<|mT<|tn<|wr<|br<|tr<|tr<|br<|tr<|?_;cases H;exact xw2 nZ vQ h
        refine mP [(dQ nZ,tg.toNat*6+1,[Z (J nc tg.toNat).tw]),(dQ nZ,tg.toNat*6+4,[Z (J nc tg.toNat).X])] [3,4,6,10,11] 26 h (λh=>⟨⟨h.cG gy (f:=1) (bl Kv) rfl,bP⟩,⟨h.cG gy (f:=4) (bl Kv) rfl,bP⟩,bP⟩) λw h hd =>lY hd 23 61 [([0,1],be nZ nc.length vQ),([2],Z tg)]<|ny hd 22 3 rfl (mV nZ tg 6) (λw=>ud 47 rfl h Kv)<|mz hd 21 [(4,65,ue nZ tg 6 1)]<|eY hd 0 20 5 rfl<|lY hd 18 61 [([6,7],vB ((J nc tg.toNat).tw==0))]<|λ_ r=>CS hd 17 8 rfl (mB r (beq_iff_eq.mpr Af)) r (be nZ nc.length vQ)<|?_;refine λ_ r=>CS hd 16 9 rfl (mB r (beq_iff_eq.mpr Af)) r (Z tg)<|?_;refine λ_ r=>CS hd 15 10 rfl (mB r (beq_iff_eq.mpr Af)) r (mV nZ tg 6) (hrun:=λw=>ud 47 rfl h Kv)<|?_;refine λ_ r=>CS hd 14 11 rfl (mB r (beq_iff_eq.mpr Af)) r (ue nZ tg 6 4)<|?_;refine λ_ r=>W1 hd 1 13 12 r (mB r (beq_iff_eq.mpr Af)) rfl rfl<|?_;refine λ_ r=>CS hd 12 13 rfl (mB r (beq_iff_eq.mpr Af)) r (vB ((J nc tg.toNat).X==(-1)))<|?_;refine ny hd 11 14 rfl (vB ((J nc tg.toNat).X==(-1))) (λw=>Fx (b:=((J nc tg.toNat).tw==0)) rfl aZ (beq_iff_eq.mpr Af) aZ)<|mz hd 10 [(15,76,vB ((J nc tg.toNat).X==(-1)))]<|λ_ r=>eof hd 9 16 rfl (mB r (bN C6)) r<|?_;refine λ_ r=>eof hd 8 17 rfl (mB r (bN C6)) r<|?_;refine λ_ r=>eof hd 7 18 rfl (mB r (bN C6)) r<|?_;refine λ_ r=>eof hd 6 19 rfl (mB r (bN C6)) r<|?_;refine mz hd 4 [(23,2,be nZ nc.length vQ),(24,3,vB true)]<|λ_ r=>eof hd 3 20 rfl (mB r (bN C6)) r<|?_;refine λ_ r=>eof hd 2 21 rfl (mB r (bN C6)) r<|?_;refine ny hd 1 22 rfl (vB false) (λw=>GL (b:=((J nc tg.toNat).X==(-1))) rfl aZ (bN C6) aZ)<|mz hd 0 [(25,4,vB false)]<|mT<|tn<|wr<|br<|tr<|tr<|br<|tr<|?_;cases H;exact xw2 nZ vQ h
       refine mP [(dQ nZ,tg.toNat*6+1,[Z (J nc tg.toNat).tw])] [3,4] 26 h (λh=>⟨⟨h.cG gy (f:=1) (bl Kv) rfl,bP⟩,bP⟩) λw h hd =>lY hd 23 61 [([0,1],be nZ nc.length vQ),([2],Z tg)]<|ny hd 22 3 rfl (mV nZ tg 6) (λw=>ud 47 rfl h Kv)<|mz hd 21 [(4,65,ue nZ tg 6 1)]<|eY hd 0 20 5 rfl<|lY hd 18 61 [([6,7],vB ((J nc tg.toNat).tw==0))]<|λ_ r=>eof hd 17 8 rfl (mB r (bN Af)) r<|?_;refine λ_ r=>eof hd 16 9 rfl (mB r (bN Af)) r<|?_;refine λ_ r=>eof hd 15 10 rfl (mB r (bN Af)) r<|?_;refine λ_ r=>eof hd 14 11 rfl (mB r (bN Af)) r<|?_;refine λ_ r=>eof hd 13 12 rfl (mB r (bN Af)) r<|?_;refine λ_ r=>eof hd 12 13 rfl (mB r (bN Af)) r<|?_;refine ny hd 11 14 rfl (vB false) (λw=>GL (b:=((J nc tg.toNat).tw==0)) rfl aZ (bN Af) aZ)<|mz hd 10 [(15,76,vB false)]<|λ_ r=>eof hd 9 16 rfl (mB r (c:=false) rfl) r<|?_;refine λ_ r=>eof hd 8 17 rfl (mB r (c:=false) rfl) r<|?_;refine λ_ r=>eof hd 7 18 rfl (mB r (c:=false) rfl) r<|?_;refine λ_ r=>eof hd 6 19 rfl (mB r (c:=false) rfl) r<|?_;refine mz hd 4 [(23,2,be nZ nc.length vQ),(24,3,vB true)]<|λ_ r=>eof hd 3 20 rfl (mB r (c:=false) rfl) r<|?_;refine λ_ r=>eof hd 2 21 rfl (mB r (c:=false) rfl) r<|?_;refine mz hd 0 [(22,83,vB false),(25,4,vB false)]<|mT<|tn<|wr<|br<|tr<|tr<|br<|tr<|?_;cases H;exact xw2 nZ vQ h
      refine wk<|bn<|tn<|wl<|ko [U,Z (wi (tg+1)),Z (wi (tg+1))]<|G<|?_;exact λ_ r=>⟨_,⟨(wi (tg+1)),H,r.fj h⟩,iI _⟩
     refine wx<|te<|te<|bh<|tn<|aL xR<|bW<|?_;cases H;exact xw2 nZ vQ h
   refine aL xR<|bW<|tr<|?_;cases H;exact xw2 nZ vQ (h.se 8 [3])
  refine aL kW<|bW<|tr<|λ_ r=>K9 (be none 0 0) (vB false) (vB true) rfl r<|?_;replace h:=h.fM (e:=47) (sz:=6) (enc:=iu);cases H;exact⟨none,0,rfl,h.se 9 [0]⟩
 refine aL kW<|bW<|tr<|λ_ r=>K9 (be none 0 0) (vB false) (vB false) rfl r<|?_;replace h:=h.fM (e:=47) (sz:=6) (enc:=iu);cases H;exact⟨none,0,rfl,h.se 9 [0]⟩
def oM(K:Nat)(O:aE)(Y:List Int)(p2:Int):Option (Int):=
 ei (j4 K O) (λr2=>(if r2.zO=0 then if bI (0:Int) O.ah.length then(if((Y.length:Nat):Int)=(J O.ah 0).aS then(if p2<0 then some 3 else(if p2>4194304 then some 3 else some 0))else some 61)else none else some 60))
theorem Bq(H:oM K O Y p2=some r0)(h:iQ z (L) w)(aQ:yP L aV aF O.ah)(FL:bJ L 1 aH Ep Y) :
 nK 98 #[oH #[be aV O.ah.length bu],be Ep Y.length GC,Z p2] w z (Z r0) (L):=by
 unfold oM at H;refine ke func98 27 rfl λj=>ks<|kN h (#[be aV O.ah.length bu]) 24 λb1 w h=>bR<|G<|ks<|yb (oH #[be aV O.ah.length bu]) (cs:=[be aV O.ah.length bu]) ⟨h.cell 0 rfl,bP⟩<|?_;refine gf H λr2 e3 H=>fh (wN (aV:=aV) (bu:=bu) (aQ:=(xO.up 1 aQ)) (aF:=aF) e3 h :) λw h=>kN h (#[Z 0,Z 0,Z 0]) 95 λb4 w h=>kA h (ack b4 r2) λw h=>G<|wq<|aL [U]<|kL h 0<|ko [vB (r2.zO != 0)]<|G<|rD H (λc5 H=>?_) λc5 H=>?_
 ·refine gq<|wq<|aL [U,Z ((Y.length:Nat):Int),U]<|kL (h.pick 1) 0<|qg H λc6 H=>kp (pA (dQ aV) (jl aV+0*4)) (C0 99 bu rfl rfl aQ c6)<|bR<|zu (Z (J O.ah 0).aS) (aQ.cell c6 (h.dn 2) 0 rfl)<|?_;refine ko [vB (((Y.length:Nat):Int) != (J O.ah 0).aS)]<|G<|rD H (λc7 H=>?_) λc7 H=>?_
  ·refine gq<|wq<|aL [U,dH (p2<0),dH (p2<0)]<|qI H (λc8 H=>?_) λc8 H=>?_
   ·refine cx (dT c8) [24,25]<|oN (dT c8) (vB true)<|G<|λ_ r=>gQ r (b:=true) rfl<|qq r<|ig<|wr<|tr<|?_;cases H;exact gj (h.se 2 [])
   refine dg (dF c8) [24,25] [Z p2,dH (p2>4194304)]<|oC (dF c8) (dH (p2>4194304))<|G<|dW H (λc9 H=>?_) λc9 H=>?_
   ·refine ig<|wr<|tr<|?_;cases H;exact gj (h.se 2 [])
   refine gq<|ig<|wr<|?_;cases H;exact gj (h.se 2 [])
  refine ig<|wr<|tr<|?_;cases H;exact gj (h.se 2 [])
 refine ig<|wr<|tr<|?_;cases H;exact gj (h.se 2 [])
def uM(O:Int)(Y:Int):Option (Int):=
 some (wi ((wi ((wi (O*1000003))+Y))+1))
theorem Ei(H:uM O Y=some r0)(h:iQ z (L) w) :
 nK 191 #[Z O,Z Y] w z (Z r0) (L):=by
 unfold uM at H;refine ke func191 10 rfl λj=>ig<|aL [U,Z (wi (O*1000003)),U,Z (wi ((wi (O*1000003))+Y)),Z (wi ((wi ((wi (O*1000003))+Y))+1)),Z (wi ((wi ((wi (O*1000003))+Y))+1))]<|bW<|?_;cases H;exact gj h
def pH(O:Int)(Y:Int):Option (Int):=
 (if Y=0 then some 0 else(if Y=(-1)then some (wi ((0:Int)-O))else if Y≠0 then some (wi (O.tdiv Y))else none))
theorem xK(H:pH O Y=some r0)(h:iQ z (L) w) :
 nK 229 #[Z O,Z Y] w z (Z r0) (L):=by
 unfold pH at H;refine ke func229 15 rfl λj=>ig<|wq<|ig<|wb<|aL [vB (Y==0),vB (Y==0)]<|G<|dW H (λc1 H=>?_) λc1 H=>?_
 ·refine ig<|wr<|br<|tr<|?_;cases H;exact gj h
 refine aL [vB (Y==(-1)),vB (Y==(-1))]<|G<|dW H (λc2 H=>?_) λc2 H=>?_
 ·refine aL [U,Z (wi ((0:Int)-O)),Z (wi ((0:Int)-O))]<|bW<|br<|tr<|?_;cases H;exact gj h
 refine wk<|bn<|tn<|ks<|qg H λc3 H=>ko dk<|kp (Z (wi (O.tdiv Y))) (TM rfl aZ aZ c3)<|ko [Z (wi (O.tdiv Y))]<|bW<|?_;cases H;exact gj h
def sW(O:Int):Option (Bool):=
 some ((O.tmod (2:Int)) != 0)
theorem yJ(H:sW O=some r0)(h:iQ z (L) w) :
 nK 235 #[Z O] w z (vB r0) (L):=by
 unfold sW at H;refine ke func235 6 rfl λj=>ig<|aL [U]<|kp (Z (O.tmod (2:Int))) (MA rfl aZ aZ eC)<|ko [vB ((O.tmod (2:Int)) != 0),vB ((O.tmod (2:Int)) != 0)]<|bW<|?_;cases H;exact gj h
def lu(O:Int):Option (Int):=
 (if O<0 then(if(O.tmod (2:Int))=0 then some (wi (O.tdiv (2:Int)))else some (wi ((wi (O.tdiv (2:Int)))-1)))else some (wi (O.tdiv (2:Int))))
theorem uj(H:lu O=some r0)(h:iQ z (L) w) :
 nK 236 #[Z O] w z (Z r0) (L):=by
 unfold lu at H;refine ke func236 15 rfl λj=>ig<|wq<|aL [U,dH (O<0),dH (O<0)]<|qI H (λc1 H=>?_) λc1 H=>?_
 ·refine dg (dT c1) [6] [Z O]<|λ_ r=>KW (mB r (dT c1)) r (Z (O.tmod (2:Int))) (MA rfl aZ aZ eC)<|?_;refine dg (dT c1) [8] [vB ((O.tmod (2:Int)) != 0)]<|oN (dT c1) (vB ((O.tmod (2:Int)) != 0))<|G<|rD H (λc2 H=>?_) λc2 H=>?_
  ·refine gq<|aL [U]<|kp (Z (wi (O.tdiv (2:Int)))) (TM rfl aZ aZ eC)<|ko [Z (wi (O.tdiv (2:Int)))]<|bW<|?_;cases H;exact gj h
  refine aL [U]<|kp (Z (wi (O.tdiv (2:Int)))) (TM rfl aZ aZ eC)<|ko [Z (wi ((wi (O.tdiv (2:Int)))-1)),Z (wi ((wi (O.tdiv (2:Int)))-1))]<|bW<|tr<|?_;cases H;exact gj h
 refine cx (dF c1) [6,7,8]<|oC (dF c1) (vB false)<|G<|λ_ r=>jy r (b:=false) rfl<|qq r<|gq<|aL [U]<|kp (Z (wi (O.tdiv (2:Int)))) (TM rfl aZ aZ eC)<|ko [Z (wi (O.tdiv (2:Int)))]<|bW<|?_;cases H;exact gj h
def lI(K:Nat)(p2:Bool)(p3:Bool):Nat->Int->Int->Int->Int->Int->Option (Int)
 | 0,_,_,_,_,_=>none
 | k1+1,g1,g2,g3,g4,g5=>(if g5<64 then ei (sW g1) (λr7=>ei (sW g2) (λr9=>ei ((if r7=true then(if r9=true then(if p2=true then some (wi (g3+g4))else(if r7=r9 then some g3 else(if p3=true then some (wi (g3+g4))else some g3)))else(if r7=r9 then some g3 else(if p3=true then some (wi (g3+g4))else some g3)))else(if r7=r9 then some g3 else(if p3=true then some (wi (g3+g4))else some g3)))) (λtu=>ei (lu g1) (λrF=>ei (lu g2) (λyN=>(lI K p2 p3 k1 rF yN tu (wi (g4+g4)) (wi (g5+1))))))))else some g3)
def jO(K:Nat)(O:Int)(Y:Int)(p2:Bool)(p3:Bool):Option (Int):=
 (lI K p2 p3 K O Y 0 1 0)
theorem uk(H:jO K O Y p2 p3=some r0)(h:iQ z (L) w) :
 nK 230 #[Z O,Z Y,vB p2,vB p3] w z (Z r0) (L):=by
 unfold jO at H;refine ke func230 48 rfl λj=>ig<|ig<|ig<|wq<|ig<|wb<|λ_ r=>dz (β:=Nat) id (λm a w=>∃g1:Int,∃g2:Int,∃g3:Int,∃g4:Int,∃g5:Int,(lI K p2 p3 m g1 g2 g3 g4 g5)=some r0/\∃j,kX 48 (lk [(0,Z g1),(1,Z g2),(2,vB p2),(3,vB p3),(9,Z g3),(10,Z g4),(11,Z g5)] j) a/\Fit z (aC (L)) w) K ⟨O,Y,0,1,0,H,r.fj h⟩<|?_;clear h r H;rintro k1 a w ⟨g1,g2,g3,g4,g5,H,j,r,h⟩;cases k1 with
 | zero=>exact absurd H (by simp[lI])
 | succ k1 =>
  rw[lI]at H;refine qq r<|wq<|aL [U,dH (g5<64)]<|G<|dW H (λc6 H=>?_) λc6 H=>?_
  ·refine gq<|wq<|wb<|ks<|gf H λr7 e8 H=>bR<|fh (yJ e8 h :) λw h=>bR<|G<|ks<|gf H λr9 FT H=>bR<|fh (yJ FT h :) λw h=>bR<|G<|El H λo13 H R0=>λ_ r=>dh (β:=Unit) (λ_ a w=>∃tu:Int,tu=o13/\∃j,kX 48 (lk [(0,Z g1),(1,Z g2),(2,vB p2),(3,vB p3),(9,Z tu),(10,Z g4),(11,Z g5)] j) a/\Fit z (aC (L)) w) ?_ ?_
   ·refine qq r<|aL dk<|qI H (λxg H=>?_) λxg H=>?_
    ·refine dg (xg) [24] [vB r9]<|oN (xg) (vB r9)<|bR<|qI H (λpJ H=>?_) λpJ H=>?_
     ·refine dg (pJ) [27] [vB p2]<|oN (pJ) (vB p2)<|bR<|qI H (λu7 H=>?_) λu7 H=>?_
      ·refine cx (u7) [30,31,32,33]<|M1 true [34]<|cx (u7) [35]<|oN (u7) (vB true)<|G<|λ_ r=>gQ r (b:=true) rfl<|qq r<|wl<|ko [U,U,Z (wi (g3+g4)),Z (wi (g3+g4))]<|G<|?_;exact λ_ r=>⟨(),(wi (g3+g4)),gE H,r.fj h⟩
      refine dg (bF u7) [30,31,32,33] [vB r7,vB r9,vB (!(r7==r9)),vB (!(r7==r9))]<|qI H (λyd H=>?_) λyd H=>?_
      ·refine cx (show(!(r7==r9))=false from(by rw[show(r7==r9)=true from(beq_iff_eq.mpr yd)];rfl)) [34]<|λ_ r=>KW (mB r (bF u7)) r (vB false) (GL (b:=(!(r7==r9))) rfl aZ (by rw[show(r7==r9)=true from(beq_iff_eq.mpr yd)];rfl) aZ)<|?_;refine oC (bF u7) (vB false)<|G<|λ_ r=>jy r (b:=false) rfl<|qq r<|gq<|?_;exact λ_ r=>⟨(),g3,gE H,r.fj h⟩
      refine dg (show(!(r7==r9))=true from(by rw[show(r7==r9)=false from(bN yd)];rfl)) [34] [vB p3]<|λ_ r=>KW (mB r (bF u7)) r (vB p3) (Fx (b:=(!(r7==r9))) rfl aZ (by rw[show(r7==r9)=false from(bN yd)];rfl) aZ)<|?_;refine oC (bF u7) (vB p3)<|G<|Em H (λAO H=>?_) λAO H=>?_
      ·refine wl<|ko [U,U,Z (wi (g3+g4)),Z (wi (g3+g4))]<|G<|?_;exact λ_ r=>⟨(),(wi (g3+g4)),gE H,r.fj h⟩
      refine gq<|?_;exact λ_ r=>⟨(),g3,gE H,r.fj h⟩
     refine cx (bF pJ) [27]<|oC (bF pJ) (vB false)<|bR<|dg (rfl:false=false) [30,31,32,33] [vB r7,vB r9,vB (!(r7==r9)),vB (!(r7==r9))]<|qI H (λs6 H=>?_) λs6 H=>?_
     ·refine cx (show(!(r7==r9))=false from(by rw[show(r7==r9)=true from(beq_iff_eq.mpr s6)];rfl)) [34]<|λ_ r=>KW (mB r (c:=false) rfl) r (vB false) (GL (b:=(!(r7==r9))) rfl aZ (by rw[show(r7==r9)=true from(beq_iff_eq.mpr s6)];rfl) aZ)<|?_;refine bR<|G<|λ_ r=>jy r (b:=false) rfl<|qq r<|gq<|?_;exact λ_ r=>⟨(),g3,gE H,r.fj h⟩
     refine dg (show(!(r7==r9))=true from(by rw[show(r7==r9)=false from(bN s6)];rfl)) [34] [vB p3]<|λ_ r=>KW (mB r (c:=false) rfl) r (vB p3) (Fx (b:=(!(r7==r9))) rfl aZ (by rw[show(r7==r9)=false from(bN s6)];rfl) aZ)<|?_;refine bR<|G<|Em H (λmW H=>?_) λmW H=>?_
     ·refine wl<|ko [U,U,Z (wi (g3+g4)),Z (wi (g3+g4))]<|G<|?_;exact λ_ r=>⟨(),(wi (g3+g4)),gE H,r.fj h⟩
     refine gq<|?_;exact λ_ r=>⟨(),g3,gE H,r.fj h⟩
    refine cx (bF xg) [24]<|oC (bF xg) (vB false)<|bR<|cx (rfl:false=false) [27]<|ko dk<|dg (rfl:false=false) [30,31,32,33] [vB r7,vB r9,vB (!(r7==r9)),vB (!(r7==r9))]<|qI H (λsy H=>?_) λsy H=>?_
    ·refine cx (show(!(r7==r9))=false from(by rw[show(r7==r9)=true from(beq_iff_eq.mpr sy)];rfl)) [34]<|λ_ r=>KW (mB r (c:=false) rfl) r (vB false) (GL (b:=(!(r7==r9))) rfl aZ (by rw[show(r7==r9)=true from(beq_iff_eq.mpr sy)];rfl) aZ)<|?_;refine bR<|G<|λ_ r=>jy r (b:=false) rfl<|qq r<|gq<|?_;exact λ_ r=>⟨(),g3,gE H,r.fj h⟩
    refine dg (show(!(r7==r9))=true from(by rw[show(r7==r9)=false from(bN sy)];rfl)) [34] [vB p3]<|λ_ r=>KW (mB r (c:=false) rfl) r (vB p3) (Fx (b:=(!(r7==r9))) rfl aZ (by rw[show(r7==r9)=false from(bN sy)];rfl) aZ)<|?_;refine bR<|G<|Em H (λFG H=>?_) λFG H=>?_
    ·refine wl<|ko [U,U,Z (wi (g3+g4)),Z (wi (g3+g4))]<|G<|?_;exact λ_ r=>⟨(),(wi (g3+g4)),gE H,r.fj h⟩
    refine gq<|?_;exact λ_ r=>⟨(),g3,gE H,r.fj h⟩
   clear h r;rintro _ a w ⟨tu,rfl,j,r,h⟩;replace H:=Ek R0;refine qq r<|aL [U,U,Z (wi (g4+g4)),Z (wi (g4+g4))]<|G<|ks<|gf H λrF UB H=>bR<|fh (uj UB h :) λw h=>bR<|G<|wl<|gf H λyN UY H=>bR<|fh (uj UY h :) λw h=>bR<|kl<|bn<|tn<|wl<|ko [U,Z (wi (g5+1)),Z (wi (g5+1))]<|G<|?_;exact λ_ r=>⟨_,⟨rF,yN,tu,(wi (g4+g4)),(wi (g5+1)),H,r.fj h⟩,iI _⟩
  refine wx<|te<|te<|bh<|tn<|aL dk<|bW<|?_;cases H;exact gj h
def lO(O:Int):Option (Int):=
 (if(O.tmod (64:Int))<0 then some (wi ((O.tmod (64:Int))+64))else some (O.tmod (64:Int)))
theorem w7(H:lO O=some r0)(h:iQ z (L) w) :
 nK 232 #[Z O] w z (Z r0) (L):=by
 unfold lO at H;refine ke func232 11 rfl λj=>ig<|aL [U]<|kp (Z (O.tmod (64:Int))) (MA rfl aZ aZ eC)<|ko [Z (O.tmod (64:Int))]<|G<|wq<|aL [Z (O.tmod (64:Int)),dH ((O.tmod (64:Int))<0)]<|G<|dW H (λc1 H=>?_) λc1 H=>?_
 ·refine wl<|ko [Z (O.tmod (64:Int)),Z (wi ((O.tmod (64:Int))+64)),Z (wi ((O.tmod (64:Int))+64))]<|G<|aL [Z (wi ((O.tmod (64:Int))+64)),Z (wi ((O.tmod (64:Int))+64))]<|bW<|?_;cases H;exact gj h
 refine gq<|aL [Z (O.tmod (64:Int)),Z (O.tmod (64:Int))]<|bW<|?_;cases H;exact gj h
def ie(K:Nat)(Y:Int)(p2:Bool):Nat->Int->Int->Option (Int)
 | 0,_,_=>none
 | k1+1,g1,g2=>(if g2<Y then(if p2=true then(ie K Y p2 k1 (wi (g1+g1)) (wi (g2+1)))else ei (lu g1) (λr5=>(ie K Y p2 k1 r5 (wi (g2+1)))))else some g1)
def lP(K:Nat)(O:Int)(Y:Int)(p2:Bool):Option (Int):=
 (ie K Y p2 K O 0)
theorem w8(H:lP K O Y p2=some r0)(h:iQ z (L) w) :
 nK 231 #[Z O,Z Y,vB p2] w z (Z r0) (L):=by
 unfold lP at H;refine ke func231 20 rfl λj=>ig<|wq<|ig<|wb<|λ_ r=>dz (β:=Nat) id (λm a w=>∃g1:Int,∃g2:Int,(ie K Y p2 m g1 g2)=some r0/\∃j,kX 20 (lk [(0,Z g1),(1,Z Y),(2,vB p2),(7,Z g2)] j) a/\Fit z (aC (L)) w) K ⟨O,0,H,r.fj h⟩<|?_;clear h r H;rintro k1 a w ⟨g1,g2,H,j,r,h⟩;cases k1 with
 | zero=>exact absurd H (by simp[ie])
 | succ k1 =>
  rw[ie]at H;refine qq r<|wq<|aL [U,U,dH (g2<Y)]<|G<|dW H (λc3 H=>?_) λc3 H=>?_
  ·refine gq<|wq<|wb<|ig<|Em H (λc4 H=>?_) λc4 H=>?_
   ·refine wl<|ko [U,U,Z (wi (g1+g1)),Z (wi (g1+g1))]<|kl<|bn<|tn<|wl<|ko [U,Z (wi (g2+1)),Z (wi (g2+1))]<|G<|?_;exact λ_ r=>⟨_,⟨(wi (g1+g1)),(wi (g2+1)),H,r.fj h⟩,iI _⟩
   refine wl<|gf H λr5 e6 H=>bR<|fh (uj e6 h :) λw h=>bR<|kl<|bn<|tn<|wl<|ko [U,Z (wi (g2+1)),Z (wi (g2+1))]<|G<|?_;exact λ_ r=>⟨_,⟨r5,(wi (g2+1)),H,r.fj h⟩,iI _⟩
  refine wx<|te<|te<|bh<|tn<|aL dk<|bW<|?_;cases H;exact gj h
def iP(O:Bool):Option (Int):=
 (if O=true then some 1 else some 0)
theorem qU(H:iP O=some r0)(h:iQ z (L) w) :
 nK 237 #[vB O] w z (Z r0) (L):=by
 unfold iP at H;refine ke func237 4 rfl λj=>ig<|wq<|ig<|Em H (λc1 H=>?_) λc1 H=>?_
 ·refine ig<|wr<|tr<|?_;cases H;exact gj h
 refine gq<|ig<|wr<|?_;cases H;exact gj h
def um(O:Int)(Y:Int)(p2:Int):Option (Int):=
 (if O=10 then(if Y<p2 then some Y else some p2)else(if O=11 then(if Y>p2 then some Y else some p2)else(if O=12 then ei (iP (decide (Y<p2))) (λr6=>some r6)else(if O=13 then ei (iP (decide (Y<=p2))) (λr9=>some r9)else(if O=14 then ei (iP (Y==p2)) (λvx=>some vx)else ei (iP (Y != p2)) (λiZ=>some iZ))))))
theorem Br(H:um O Y p2=some r0)(h:iQ z (L) w) :
 nK 233 #[Z O,Z Y,Z p2] w z (Z r0) (L):=by
 unfold um at H;refine ke func233 44 rfl λj=>ig<|wq<|ig<|wb<|aL [vB (O==10),vB (O==10)]<|G<|dW H (λc1 H=>?_) λc1 H=>?_
 ·refine wq<|aL [U,U,dH (Y<p2)]<|G<|dW H (λc2 H=>?_) λc2 H=>?_
  ·refine aL dk<|bW<|tr<|br<|tr<|?_;cases H;exact gj h
  refine gq<|aL dk<|bW<|br<|tr<|?_;cases H;exact gj h
 refine aL [vB (O==11),vB (O==11)]<|G<|dW H (λc3 H=>?_) λc3 H=>?_
 ·refine wq<|aL [U,U,dH (Y>p2)]<|G<|dW H (λc4 H=>?_) λc4 H=>?_
  ·refine aL dk<|bW<|tr<|br<|tr<|?_;cases H;exact gj h
  refine gq<|aL dk<|bW<|br<|tr<|?_;cases H;exact gj h
 refine aL [vB (O==12),vB (O==12)]<|G<|dW H (λc5 H=>?_) λc5 H=>?_
 ·refine ks<|gf H λr6 e7 H=>ko [U,U,dH (Y<p2)]<|fh (qU e7 h :) λw h=>bR<|bW<|br<|tr<|?_;cases H;exact gj h
 refine aL [vB (O==13),vB (O==13)]<|G<|dW H (λc8 H=>?_) λc8 H=>?_
 ·refine ks<|gf H λr9 FT H=>ko [U,U,dH (Y<=p2)]<|fh (qU FT h :) λw h=>bR<|bW<|br<|tr<|?_;cases H;exact gj h
 refine aL [vB (O==14),vB (O==14)]<|G<|dW H (λu6 H=>?_) λu6 H=>?_
 ·refine ks<|gf H λvx UG H=>ko [U,U,vB (Y==p2)]<|fh (qU UG h :) λw h=>bR<|bW<|br<|tr<|?_;cases H;exact gj h
 refine wk<|bn<|tn<|ks<|gf H λiZ Iu H=>ko [U,U,vB (Y != p2)]<|fh (qU Iu h :) λw h=>bR<|bW<|?_;cases H;exact gj h
def rT(K:Nat)(O:Int)(Y:Int)(p2:Int):Option (Int):=
 (if O=0 then some (wi (Y+p2))else(if O=1 then some (wi (Y-p2))else(if O=2 then some (wi (Y*p2))else(if O=3 then ei (pH Y p2) (λr5=>some r5)else(if O=4 then ei (pH Y p2) (λr8=>some (wi (Y-(wi (r8*p2)))))else(if O=5 then ei (jO K Y p2 true false) (λu0=>some u0)else(if O=6 then ei (jO K Y p2 true true) (λiZ=>some iZ)else(if O=7 then ei (jO K Y p2 false true) (λBV=>some BV)else(if O=8 then ei (lO p2) (λxo=>ei (lP K Y xo true) (λMg=>some Mg))else(if O=9 then ei (lO p2) (λyN=>ei (lP K Y yN false) (λLa=>some La))else ei (um O Y p2) (λO0=>some O0)))))))))))
end
open Go SL GX
section
variable {K:Nat}
theorem Yp{x n:Int}(h1:1<=n)(h2:n<=1000) :∃i:Nat,wC x n=some (i:Int)/\iL x n=some (i:Int)/\(i:Int)<n:=by
 obtain⟨i,e1,e2⟩:=Ri (x:=x) h1 h2;refine⟨i,?_,e1,e2⟩;rw[<-e1];unfold wC iL;rw[ef]
theorem Rq{f m ag2:Nat}(hf:f<=m)(hm:m<=4096)(hG:cq f m ag2=m)(hT:tq f m ag2<=100000):∀(d g k:Nat) (z:Int),g+d=ag2->d<k->(∀x,g<=x->x<ag2->cq f m x<m)->0<=z->z+((tq f m ag2-tq f m g:Nat):Int)<=1000000->tq f m g<=tq f m ag2->
 p6 K (m:Int) k z (cq f m g:Nat)=some (z+((tq f m ag2-tq f m g:Nat):Int))
 | d,g,k,z,hd,hk,hx,hz,hz2,ht=>by
  obtain⟨k,rfl⟩ :∃n,k=n+1:=⟨k-1,I⟩;have hl:=Rg hf g;rw[p6];by_cases e:g=ag2
  ·subst e;rw[hG,ef,Nat.sub_self];simp
  ·obtain⟨d,rfl⟩ :∃n,d=n+1:=⟨d-1,I⟩;have h1:=hx g (jU _) I;have hn:cq f m (g+1)=min (2*cq f m g) m:=rfl;have hT':tq f m (g+1)=tq f m g+1+cq f m (g+1):=rfl;have Yb:∀y,g+1+y<=ag2->tq f m (g+1)<=tq f m (g+1+y):=λy=>by
    induction y with
    | zero=>intro _;exact jU _
    | succ y ih=>intro h;have:=ih I;show _<=tq f m (g+1+y)+1+cq f m (g+1+y+1);omega
   have hle:tq f m (g+1)<=tq f m ag2:=by have:=Yb (ag2-(g+1)) I;rwa [show g+1+(ag2-(g+1))=ag2 by omega]at this
   have hc:(if(m:Int)<wi ((2:Int)*((cq f m g:Nat):Int))then(m:Int)else wi ((2:Int)*((cq f m g:Nat):Int)))=((cq f m (g+1):Nat):Int):=by
    rw[eO I];split<;>omega
   rw[p7,hc,eO (x:=(1:Int)+_) I,eO (x:=z+_) I,
    Rq hf hm hG hT d (g+1) k _ I I (λx h1 h2=>hx x I h2) I I hle]
   congr 1;omega
theorem aa5{N F:Nat}{mb:eP}{f m:Nat}(hl:Zi mb.cB mb.dY mb.j0)(hF:mb.cB=F)(hf:mb.dY=f)(hm:mb.j0=m)(hN1:1<=N)(hN:N<=64)(hK:5000<K) :
 ∃ag2,cq f m ag2=m/\w6 K (N:Int) mb=some ((4+10*F+N+N*(4+f+tq f m ag2):Nat):Int)/\4+10*F+N+N*(4+f+tq f m ag2)<=1048576:=by
 have f1:=hl.f1;have f2:=hl.f2;have a1:=hl.a1;have a2:=hl.a2;have m2:=hl.m2;have Zm:f<=m:=by omega
 have h1:1<=f:=by omega
 obtain⟨G',x1,x2,x3,x4,x5⟩:=Yc (K:=K) (N:=N) (F:=F) (mb:=mb) (f:=f) (m:=m) hl hF hf hm hN1 hN hK;obtain⟨ag2,g1,g2,g3,g4,g5,g6,g7⟩:=PX h1 Zm (m-f) 0 (by show m-f<=m-f;omega);have hGG:ag2=G':=by
  rcases Nat.lt_trichotomy ag2 G' with h | h | h
  ·have:=x2 ag2 h;omega
  ·exact h
  ·have:=g3 G' I h;omega
 subst hGG;refine⟨ag2,x1,?_,x5⟩;have hGb:ag2<=4096:=by
  rcases Dv 4096 ag2 with h | h
  ·exfalso
   have:∀x,x<=ag2->x<=tq f m x:=λx=>by
    induction x with
    | zero=>intro _;omega
    | succ x ih=>intro h;have:=ih I;show _<=tq f m x+1+_;omega
   have hp:∀x,x<=ag2->f+x<=cq f m x∨cq f m x=m:=λx=>by
    induction x with
    | zero=>intro _;exact .inl (by show f+0<=f;omega)
    | succ x ih =>
     intro h;have hn:cq f m (x+1)=min (2*cq f m x) m:=rfl;have:=L7 h1 Zm x;rcases ih I with h' | h'<;>omega
   rcases hp 4096 I with h' | h'
   ·have:=Rg Zm 4096;omega
   ·have:=g3 4096 I h;omega
  ·exact h
 have hd:=Rq (K:=K) (f:=f) (m:=m) (ag2:=ag2) Zm I x1 I ag2 0 K (4+f) I I (λx h1 h2=>g3 x h1 h2) I (by have:tq f m 0=0:=rfl;omega) (Et _);have z0:tq f m 0=0:=rfl;have c0:cq f m 0=f:=rfl;rw[z0,c0,Nat.sub_zero]at hd;have hmul:N*(4+f+tq f m ag2)<=1048576:=by omega
 have hmi:(N:Int)*(4+(f:Int)+((tq f m ag2:Nat):Int))=((N*(4+f+tq f m ag2):Nat):Int):=by rw[Int.natCast_mul];congr 1
 unfold w6 rI rJ sA nQ zm tS;rw[p7,tY (show(N:Int)<=64 by omega),au,aP rfl,p7,p7,p7,p7,tY (show mb.j0<=4096 by omega),au,aP rfl,fA,
  cu I,ef,au,ef,ef,au,au,aP rfl,hf,hm,eO (x:=(4:Int)+(f:Int)) I,hd,au,hmi,hF]
 rw[eO (x:=(F:Int)*10) I,eO (x:=(1:Int)+(F:Int)*10) I,eO (x:=(2:Int)+(N:Int)) I,eO (x:=(1:Int)+(1+(F:Int)*10)) I,eO (x:=(1:Int)+(1+(F:Int)*10)+_) I,eO (x:=((N*(4+f+tq f m ag2):Nat):Int)) I,eO I]
 congr 1
 omega
section
variable {C:Am.kY}{p:aE}{s:Am.St}{S:ag}{M:af}{sz n i:Nat}{D:aT}
theorem Yq(b:xJ C p s S M sz n)(a:Int):xJ C p s S {M with ua:=a} sz n:=
 { b with ar:=⟨b.ar.size,b.ar.s1,b.ar.fit,b.ar.mark,b.ar.cl,b.ar.lg⟩}
theorem V7(h:Vo C p s S)(hn:C.N<=64):∀(e k g:Nat),g+e=C.N->e<k->∃b,kR K S M k (g:Int)=some b/\(b=true->∀j,g<=j->j<C.N->s.pc j= .halted)
 | e,k,g,he,hk=>by
  obtain⟨k,rfl⟩ :∃m,k=m+1:=⟨k-1,I⟩;rw[kR];by_cases hg:g<C.N
  ·obtain⟨e,rfl⟩ :∃m,e=m+1:=⟨e-1,I⟩;rw[aP (by rw[h.wl];omega),SW h hg,au];by_cases h13:(act S g).aI=13
   ·rw[aP (by simp[h13]),AX I];obtain⟨b,b1,b2⟩:=V7 h hn e k (g+1) I I;refine⟨b,b1,λhb j hj hjN => ?_⟩;by_cases ej:j=g
    ·subst ej;exact adx (h.wk j hg).3 h13
    ·exact b2 hb j I hjN
   ·rw[cu (by simp[h13])];exact⟨false,rfl,λhb=>by cases hb⟩
  ·rw[cu (by rw[h.wl];omega)];exact⟨true,rfl,λ_ j h1 h2=>I⟩
theorem Yr(h:Vo C p s S)(hn:C.N<=64)(hK:100<K)(v:aq) :∃b,qR K S M v=some b/\(b=true->v.aN=11∨v.aN=10/\∀j,j<C.N->s.pc j= .halted):=by
 unfold qR;by_cases h1:v.aN=11
 ·rw[aP h1];exact⟨true,rfl,λ_=>.inl h1⟩
 ·rw[cu h1];by_cases h2:v.aN=10
  ·rw[aP h2];obtain⟨b,b1,b2⟩:=V7 (K:=K) (M:=M) h hn C.N K 0 I I;rw[pL]at b1;exact⟨b,b1,λhb=>.inr ⟨h2,λj hj=>b2 hb j I hj⟩⟩
  ·rw[cu h2];exact⟨false,rfl,λhb=>by cases hb⟩
def Jg(g i:Nat)(l:List aq):Option Am.Ev->List aq
 | none=>l
 | some e=>l++[⟨(g:Int),(i:Int),(e.kind:Int),e.ay,e.x,e.v⟩]
def adR(C:Am.kY)(s:Am.St)(l:List aq):Prop:=∃l0 e,l=l0++[e]/\(e.aN=11∨e.aN=10/\∀j,j<C.N->s.pc j= .halted)
theorem P1{ag3:Am.St->List aq->Nat->Prop}{sc:mj}(hK:2000000<K)(hp:sc.jA.length<=1048576)
 (hI:∀(s:Am.St) (S:ag) (M:af) (l:List aq) (g i:Nat) (d:Int),xJ C p s S M sz g->ag3 s l g->i<C.N->g<sc.jA.length->iL (GX.J sc.jA g) (C.N:Int)=some (i:Int)->ag3 (Am.aJ C s i d).s (Jg g i l (Am.aJ C s i d).ev) (g+1)) :
 ∀(e k g:Nat) (s:Am.St) (S:ag) (M:af) (D:aT) (l:List aq),xJ C p s S M sz g->ag3 s l g->l.length<=g->g+e=sc.jA.length->e<k->
 ∃M' l' s' g',nl K (C.N:Int) sc k M S D l (g:Int)=some (M',l')/\ag3 s' l' g'/\l'.length<=g'/\g'<=sc.jA.length/\M'.log.length<=2000000000/\(g'=sc.jA.length∨adR C s' l')
 | e,k,g,s,S,M,D,l,b,ia,hl,he,hk=>by
  obtain⟨k,rfl⟩ :∃m,k=m+1:=⟨k-1,I⟩;have n64:=b.ok.n64;have n1:=b.ok.n1;have agK:=b.ar.lg;have Jj:=b.n;rw[nl];by_cases hg:g<sc.jA.length
  ·obtain⟨e,rfl⟩ :∃m,e=m+1:=⟨e-1,I⟩;obtain⟨i,hm,hm',hin⟩:=Yp (x:=GX.J sc.jA g) (n:=(C.N:Int)) I I;have hi:i<C.N:=by omega
   have bw:=Yq b (i:Int);obtain⟨S',M',e1,e2,e3,e4⟩:=PW (K:=K) (D:=D) bw hi I;have b':=VR bw hi e2 e3 I;have hII:=hI s S M l g i (DZ D) b ia hi hg hm';have Py:=b'.ar.lg;have hn:=b'.n;rw[p7,aP ⟨I,I⟩,cQ,hm,au];unfold sV;rw[au,e1,TU];cases Q6:(Am.aJ C s i (DZ D)).ev with
   | none =>
    rw[Q6]at hII;rw[aP (show(Vq i none).aN=0 from rfl),AX I];exact P1 hK hp hI e k (g+1) _ _ _ _ l b' hII I I I
   | some x =>
    rw[Q6]at hII;have hx0:x.kind≠0:=Am.Tr.k0 (Am.LR b.fi b.dt hi (DZ D)) x Q6;have hl':(l++[(⟨(g:Int),(i:Int),(x.kind:Int),x.ay,x.x,x.v⟩:aq)]).length=l.length+1:=by simp
    rw[cu (show ¬(Vq i (some x)).aN=0 from λh=>hx0 (by have h:(x.kind:Int)=0:=h;omega)),p7];obtain⟨bo,b1,b2⟩:=Yr (K:=K) (M:=M') b'.ku n64 I {Vq i (some x)with At:=(g:Int)};rw[b1,au];cases bo with
    | true =>
     rw[aP rfl];exact⟨_,_,_,g+1,rfl,hII,by rw[j6];show l.length+1<=g+1;omega,I,I,.inr ⟨l,_,rfl,b2 rfl⟩⟩
    | false =>
     rw[cu eC,AX I];exact P1 hK hp hI e k (g+1) _ _ _ _ _ b' hII (by rw[j6];show l.length+1<=g+1;omega) I I
  ·rw[ef];exact⟨M,l,s,g,rfl,ia,hl,I,I,.inl I⟩
end
theorem Ys{p:aE}{args:List Int}{n e:Int}{mb:eP}{sc:mj}(hp:sc.jA.length<=1048576)(hd:sc.oL.length<=1048576)(r2:nY K p args n mb=some e)(he:e≠0):sv K p args n mb sc=some ([],[],e):=by
 unfold sv;rw[ef,ef,fA,r2,au,cu he]
theorem Yt{p:aE}{args:List Int}{N F f m:Nat}{mb:eP}{sc:mj}(hp:sc.jA.length<=1048576)(hd:sc.oL.length<=1048576)(hK:4000000<K)
 (hv:Valid p) (ha:(args.length:Int)=(GX.J p.ah 0).aS) (Om:1<=N) (YG:N<=64) (hl:Zi mb.cB mb.dY mb.j0) (hF:mb.cB=F) (hf:mb.dY=f) (hm:mb.j0=m) (r2:nY K p args N mb=some 0)
 {ag3:Am.St->List aq->Nat->Prop} (h0:ag3 (init (cfg p N F f m) args) [] 0)
 (hI:∀(s:Am.St) (S:ag) (M:af) (sz:Nat) (l:List aq) (g i:Nat) (d:Int),xJ (cfg p N F f m) p s S M sz g->ag3 s l g->i<N->g<sc.jA.length->iL (GX.J sc.jA g) (N:Int)=some (i:Int)->ag3 (Am.aJ (cfg p N F f m) s i d).s (Jg g i l (Am.aJ (cfg p N F f m) s i d).ev) (g+1)) :
 ∃lg l' s' g',sv K p args N mb sc=some (l',lg,0)/\ag3 s' l' g'/\l'.length<=g'/\g'<=sc.jA.length/\(g'=sc.jA.length∨adR (cfg p N F f m) s' l'):=by
 have f1:=hl.f1;have f2:=hl.f2;have a1:=hl.a1;have a2:=hl.a2;have m2:=hl.m2;obtain⟨ag2,q1,q4,q5⟩:=aa5 (K:=K) (N:=N) (F:=F) (mb:=mb) (f:=f) (m:=m) hl hF hf hm Om YG I;obtain⟨sz,hsz⟩ :∃sz:Nat,sz=4+10*F+N+N*(4+f+tq f m ag2):=⟨_,rfl⟩;rw[<-hsz]at q4 q5;have hNW:N*(4+f)<=N*(4+f+tq f m ag2):=Nat.mul_le_mul_left _ I;unfold sv;rw[ef,ef,fA,r2,au,aP rfl,q4,au];unfold yc AL;rw[aP (show((sz:Nat):Int)>=0 by omega),tY (show((sz:Nat):Int)<=1048576 by omega),au,aP rfl,eR]
 try dsimp only
 rw[aP rfl];obtain⟨n1,n2⟩:=aaw (K:=K) (sz:=sz) (a:=0) (w:=false) (N:=N) (F:=F) (ag1:=4+f) hv ha hl hF I I (by first | omega | (simp only;omega)) I I I r2;obtain⟨cs,e1,e2,e3⟩:=n1 I
 try dsimp only at e1 e2
 rw[show(⟨((sz:Nat):Int),0,([]:List Int),([]:List aW),0,false⟩:af)=ar sz [] [] 0 false from rfl,e1,dr]
 try dsimp only
 have hfe:((f:Nat):Int)=mb.dY:=hf.symm;have b:=VT (p:=p) (args:=args) (N:=N) (F:=F) (f:=f) (m:=m) (sz:=sz) (ag2:=ag2) (c:=cs) (l:=yU false [] (u5 0 N F mb.dY)) (w:=false) (x:=0) hv ha I I I I I I I q1 hsz q5 (by rw[hfe];exact e3) rfl;rw[<-hm]at b;rw[aP rfl];unfold qO;rw[au,p7];have b':=SX b true;rw[hm]at b';obtain⟨M',l',s',g',x1,x2,x3,x4,x5,x6⟩:=P1 (K:=K) (ag3:=ag3) (sc:=sc) I hp (λs S M l g i d hb hi hiN hg TQ=>hI s S M sz l g i d hb hi hiN hg TQ) sc.jA.length K 0 _ _ _ ⟨sc.oL⟩ [] b' h0 (jU _) I I;rw[pL]at x1;have x1:nl K (N:Int) sc K _ _ _ [] 0=some (M',l'):=x1;rw[hm,x1,eR,aaT x5,au];exact⟨_,l',s',g',rfl,x2,x3,x4,x6⟩
end
section
variable {K:Nat}
structure Small(c:bO):Prop where
 f:c.bS.length<=1048576
 k:∀i,i<c.bS.length->(J c.bS i).ai.length<=1048576
 a:c.oQ.length<=1048576
 p:c.dx.length<=1048576
 d:c.fB.length<=1048576
theorem tw2{c:bO}(h:Small c){n:Nat}(hn:n<c.bS.length):∀(d k i:Nat) (l:List ct),i+d=(J c.bS n).ai.length->d<k->l.length=i->kJ K c (n:Int) k l (i:Int)=some (l++(J c.bS n).ai.drop i)
 | d,k,i,l,hd,hk,hl=>by
  obtain⟨k,rfl⟩ :∃m,k=m+1:=⟨k-1,I⟩;have:=h.k n hn;rw[kJ,cQ];by_cases hi:i<(J c.bS n).ai.length
  ·obtain⟨d,rfl⟩ :∃m,d=m+1:=⟨d-1,I⟩;rw[p7,aP ⟨I,I⟩,p7,cQ,AX I,tw2 h hn d k (i+1) _ I I (by simp[hl]),Bg hi,q9];rfl
  ·rw[ef,zR I,Bt]
theorem tw1{c:bO}(h:Small c)(hK:2000000<K):∀(d k i:Nat) (l:List aB),i+d=c.bS.length->d<k->l.length=i->kK K c k l (i:Int)=some (l++c.bS.drop i)
 | d,k,i,l,hd,hk,hl=>by
  obtain⟨k,rfl⟩ :∃m,k=m+1:=⟨k-1,I⟩;have:=h.f;rw[kK];by_cases hi:i<c.bS.length
  ·obtain⟨d,rfl⟩ :∃m,d=m+1:=⟨d-1,I⟩;have:=h.k i hi;have e:=tw2 (K:=K) h hi (J c.bS i).ai.length K 0 [] I I rfl;rw[pL,AD,og]at e;rw[p7,aP ⟨I,I⟩,e,au,p7,au,cQ,AX I,tw1 h hK d k (i+1) _ I I (by simp[hl]),Bg hi,q9];rfl
  ·rw[ef,zR I,Bt]
theorem tw3{c:bO}(h:Small c):∀(d k i:Nat) (l:List Int),i+d=c.oQ.length->d<k->l.length=i->kO K c k l (i:Int)=some (l++c.oQ.drop i)
 | d,k,i,l,hd,hk,hl=>by
  obtain⟨k,rfl⟩ :∃m,k=m+1:=⟨k-1,I⟩;have:=h.a;rw[kO];by_cases hi:i<c.oQ.length
  ·obtain⟨d,rfl⟩ :∃m,d=m+1:=⟨d-1,I⟩;rw[p7,aP ⟨I,I⟩,p7,cQ,AX I,tw3 h d k (i+1) _ I I (by simp[hl]),Bg hi,q9];rfl
  ·rw[ef,zR I,Bt]
theorem tw4{c:bO}(h:Small c):∀(d k i:Nat) (l:List Int),i+d=c.dx.length->d<k->l.length=i->kP K c k l (i:Int)=some (l++c.dx.drop i)
 | d,k,i,l,hd,hk,hl=>by
  obtain⟨k,rfl⟩ :∃m,k=m+1:=⟨k-1,I⟩;have:=h.p;rw[kP];by_cases hi:i<c.dx.length
  ·obtain⟨d,rfl⟩ :∃m,d=m+1:=⟨d-1,I⟩;rw[p7,aP ⟨I,I⟩,p7,cQ,AX I,tw4 h d k (i+1) _ I I (by simp[hl]),Bg hi,q9];rfl
  ·rw[ef,zR I,Bt]
theorem tw5{c:bO}(h:Small c)(f:List aB)(a p:List Int):∀(d k i:Nat) (l:List Int),i+d=c.fB.length->d<k->l.length=i->kQ K c f a p k l (i:Int)=some {c with bS:=f,oQ:=a,dx:=p,fB:=l++c.fB.drop i}
 | d,k,i,l,hd,hk,hl=>by
  obtain⟨k,rfl⟩ :∃m,k=m+1:=⟨k-1,I⟩;have:=h.d;rw[kQ];by_cases hi:i<c.fB.length
  ·obtain⟨d,rfl⟩ :∃m,d=m+1:=⟨d-1,I⟩;rw[p7,aP ⟨I,I⟩,p7,cQ,AX I,tw5 h f a p d k (i+1) _ I I (by simp[hl]),Bg hi,q9];rfl
  ·rw[ef,zR I,Bt]
theorem Yu{c:bO}(h:Small c)(hK:2000000<K):ow K c=some c:=by
 have h1:=h.f;have h2:=h.a;have h3:=h.p;have h4:=h.d;have e1:=tw1 (K:=K) h hK c.bS.length K 0 [] I I rfl;have e2:=tw3 (K:=K) h c.oQ.length K 0 [] I I rfl;have e3:=tw4 (K:=K) h c.dx.length K 0 [] I I rfl;have e4:=tw5 (K:=K) h c.bS c.oQ c.dx c.fB.length K 0 [] I I rfl;rw[pL,AD,og]at e1 e2 e3 e4;unfold ow;rw[e1,au,e2,au,e3,au,e4]
end
section
variable {K:Nat}
def Te(e:aq):Prop:=e.aN=1/\e.Frame=0
instance (e:aq):Decidable (Te e):=by unfold Te;infer_instance
def Tf(l:List aq):Prop:=∀e∈l,¬Te e
def zn:List aq->Prop
 | []=>True
 | e::l=>if Te e then e.tw=0/\e.X=-1/\e.V=1 else zn l
theorem GG{e:aq}:∀{l:List aq},zn l->(Tf l->Te e->e.tw=0/\e.X=-1/\e.V=1)->zn (l++[e])
 | [],_,h=>by
  show if Te e then _ else True;split
  ·next h'=>exact h (λ_ hx=>by cases hx) h'
  ·trivial
 | x::l,h1,h2=>by
  have h1:if Te x then x.tw=0/\x.X=-1/\x.V=1 else zn l:=h1;show if Te x then _ else zn (l++[e]);split
  ·next h'=>rw[aP h']at h1;exact h1
  ·next h' =>
   rw[cu h']at h1;exact GG h1 (λhn hs=>h2 (λy hy=>by
    rcases List.mem_cons.1 hy with rfl | hy
    ·exact h'
    ·exact hn y hy) hs)
structure Pre(C:Am.kY)(ps:List Int)(s:Am.St)(l:List aq)(g:Nat):Prop where
 q:Am.Q0 (Am.wv s)
 nf:∀e∈l,e.aN≠11
 pk:∀k,k<g->iL (GX.J ps k) (C.N:Int)≠some 0
structure Tl(C:Am.kY)(ps:List Int)(s:Am.St)(l:List aq)(g:Nat):Prop where
 pre:Tf l->Pre C ps s l g
 first:zn l
theorem KO{g i:Nat}{l:List aq}{o:Option Am.Ev}{e:aq}(h:e∈Jg g i l o):e∈l∨∃x,o=some x/\e=⟨(g:Int),(i:Int),(x.kind:Int),x.ay,x.x,x.v⟩:=by
 cases o with
 | none=>exact .inl h
 | some x =>
  rcases List.mem_append.1 (show e∈l++[_]from h)with h | h
  ·exact .inl h
  ·exact .inr ⟨x,rfl,List.mem_singleton.1 h⟩
theorem Tg{g i:Nat}{l:List aq}{o:Option Am.Ev}{e:aq}(h:e∈l):e∈Jg g i l o:=by
 cases o with
 | none=>exact h
 | some x=>exact List.mem_append.2 (.inl h)
theorem V8{p:Am.Pc}(h:Am.sig p= .start) :∃x,p= .start x:=by
 cases p<;>first | exact⟨_,rfl⟩ | cases h
theorem Tl.aJ{C:Am.kY}{p:aE}{ps:List Int}{s:Am.St}{S:ag}{M:af}{sz g i:Nat}{l:List aq}{d:Int}(b:xJ C p s S M sz g)(t:Tl C ps s l g)(hi:i<C.N)(hm:iL (GX.J ps g) (C.N:Int)=some (i:Int)):Tl C ps (Am.aJ C s i d).s (Jg g i l (Am.aJ C s i d).ev) (g+1):=by
 have tr:=Am.LR b.fi b.dt hi d;have main:Tf l->i=0->∃x,(Am.aJ C s i d).ev=some x/\x.kind=1/\x.ay=0/\x.x=-1:=by
  intro hn h0;subst h0;obtain⟨q1,q2,q3,q4⟩:=(t.pre hn).q;obtain⟨x,hx⟩:=V8 (p:=s.pc 0) q1;have q2:Am.w4 (s.pc 0)=-1:=q2;rw[hx]at q2;have q2:x=-1:=q2;have q3:s.hold 0=some 0:=q3;subst q2;refine⟨_,by unfold Am.aJ;rw[hx];rfl,rfl,?_,rfl⟩;show(((s.hold 0).getD 0:Nat):Int)=0;rw[q3];rfl
 have other:Tf l->i≠0->Am.Q0 (Am.wv (Am.aJ C s i d).s)/\∀x,(Am.aJ C s i d).ev=some x->x.kind≠11/\x.kind≠1:=λhn h0=>(t.pre hn).q.aJ tr h0 hi b.fi;constructor
 ·intro hn;have hn':Tf l:=λe he=>hn e (Tg he);by_cases h0:i=0
  ·obtain⟨x,x1,x2,x3,x4⟩:=main hn' h0
   exfalso
   rw[x1]at hn;exact hn _ (List.mem_append.2 (.inr (List.mem_singleton.2 rfl))) ⟨by show(x.kind:Int)=1;rw[x2];rfl,x3⟩
  ·obtain⟨o1,o2⟩:=other hn' h0;refine⟨o1,λe he => ?_,λk hk => ?_⟩
   ·rcases KO he with he | ⟨x,hx,rfl⟩
    ·exact(t.pre hn').nf e he
    ·have:=(o2 x hx).1;show(x.kind:Int)≠11;omega
   ·by_cases ek:k=g
    ·subst ek;rw[hm];intro h;have:(i:Int)=0:=Option.some.inj h;omega
    ·exact(t.pre hn').pk k I
 ·cases Q6:(Am.aJ C s i d).ev with
  | none=>exact t.first
  | some x =>
   refine GG t.first λhn hs => ?_;have hk:x.kind=1:=by have:(x.kind:Int)=1:=hs.1;omega
   by_cases h0:i=0
   ·obtain⟨y,y1,y2,y3,y4⟩:=main hn h0;rw[Q6]at y1;cases y1;exact⟨by show(i:Int)=0;omega,y4,tr.v1 hi b.fi x Q6 hk⟩
   ·exact absurd hk ((other hn h0).2 x Q6).2
theorem V9{r:List aq}(hb:r.length<=100000000):∀(e k g:Nat),g+e=r.length->e<k->zn (r.drop g)->(∃x∈r.drop g,Te x)->kT K r k (g:Int)=some (r,true,true)
 | e,k,g,he,hk,h1,h2=>by
  obtain⟨k,rfl⟩ :∃m,k=m+1:=⟨k-1,I⟩;rw[kT];by_cases hg:g<r.length
  ·obtain⟨e,rfl⟩ :∃m,e=m+1:=⟨e-1,I⟩;rw[Bg hg]at h1 h2;have h1:if Te (GX.J r g)then _ else zn (r.drop (g+1)):=h1;rw[p7,aP ⟨I,I⟩,cQ];by_cases hs:Te (GX.J r g)
   ·rw[aP hs]at h1;obtain⟨a1,a2,a3⟩:=h1;rw[aP hs.1,au,aP (by rw[hs.2];rfl),aP ⟨I,I⟩,aP a1,aP a2,a3];rfl
   ·rw[cu hs]at h1;have h2 :∃x∈r.drop (g+1),Te x:=by
     obtain⟨x,hx,hx'⟩:=h2;rcases List.mem_cons.1 hx with rfl | hx
     ·exact absurd hx' hs
     ·exact⟨x,hx,hx'⟩
    have ih:=V9 hb e k (g+1) I I h1 h2;by_cases h1k:(GX.J r g).aN=1
    ·rw[aP h1k,au,cu (by simp;exact λh=>hs ⟨h1k,h⟩),AX I];exact ih
    ·rw[cu h1k,au,cu eC,AX I];exact ih
  ·obtain⟨x,hx,_⟩:=h2;rw[zR I]at hx;cases hx
theorem Rr{c:bO}(hp:c.dx.length<=1048576){N:Nat}(hN:c.di=N)(h1:1<=N)(KP:N<=64):∀(e k g:Nat),g+e=c.dx.length->e<k->∃b,jY K c k (g:Int)=some b/\(b=true->∃x,x<c.dx.length/\iL (GX.J c.dx x) (N:Int)=some 0)
 | e,k,g,he,hk=>by
  obtain⟨k,rfl⟩ :∃m,k=m+1:=⟨k-1,I⟩;rw[jY];by_cases hg:g<c.dx.length
  ·obtain⟨e,rfl⟩ :∃m,e=m+1:=⟨e-1,I⟩;obtain⟨i,hm,hin⟩:=Ri (x:=GX.J c.dx g) (n:=(N:Int)) I I;rw[p7,aP ⟨I,I⟩,cQ,hN,hm,au];by_cases h0:(i:Int)=0
   ·rw[aP h0];exact⟨true,rfl,λ_=>⟨g,hg,by rw[hm,h0]⟩⟩
   ·rw[cu h0,AX I];exact Rr hp hN h1 KP e k (g+1) I I
  ·rw[ef];exact⟨false,rfl,λh=>by cases h⟩
theorem Yv{C:Am.kY}{ps args:List Int}:Tl C ps (init C args) [] 0:=
 ⟨λ_=>⟨⟨rfl,rfl,rfl,rfl⟩,(λe h=>by cases h),(λk h=>absurd h (Nat.not_lt_zero _))⟩,bP⟩
theorem Yw{c:bO}(h:Small c)(hK:4000000<K){agZ:Am.kY->Am.St->List aq->Nat->Prop}(h0:∀(N F f m:Nat),Valid ⟨c.bS⟩->(cfg ⟨c.bS⟩ N F f m).OK->agZ (cfg ⟨c.bS⟩ N F f m) (init (cfg ⟨c.bS⟩ N F f m) c.oQ) [] 0)
 (hJ:∀(C:Am.kY) (p:aE) (s:Am.St) (S:ag) (M:af) (sz:Nat) (l:List aq) (g i:Nat) (d:Int),xJ C p s S M sz g->agZ C s l g->i<C.N->agZ C (Am.aJ C s i d).s (Jg g i l (Am.aJ C s i d).ev) (g+1)) :
 (∃r,lN K c=some (r,false,true))∨∃r C s g,lN K c=some (r,true,true)/\agZ C s r g/\r.length<=1048576/\c.eL=C.F/\1<=C.F/\C.F<=4096/\g<=c.dx.length/\Valid ⟨c.bS⟩/\(c.oQ.length:Int)=(GX.J c.bS 0).aS/\C.OK/\∃N F f m,C=cfg ⟨c.bS⟩ N F f m/\c.di=N:=by
 unfold lN;rw[Yu h I,au];obtain⟨e,r1,r2,r3,r4⟩:=Sn (K:=K) ⟨c.bS⟩ c.oQ c.di ⟨c.eL,c.fD,c.gJ⟩ I;have hp:=h.p;have hd:=h.d;have hr:iO K c=some e:=by
  unfold iO od;rw[cu (by show ¬(((c.dx.length:Nat):Int)>1048576);omega),HI (show ¬(((c.fB.length:Nat):Int)>1048576) by omega),au,cu eC,r1,au]
 by_cases he:e=0
 ·subst he;obtain⟨hv,ha,Om,YG,hl⟩:=r4 rfl;obtain⟨N,hN⟩ :∃N:Nat,c.di=N:=⟨c.di.toNat,I⟩;have f1:=hl.f1;have f2:=hl.f2;have a1:=hl.a1;have a2:=hl.a2;have m2:=hl.m2;simp only at f1 f2 a1 a2 m2;obtain⟨F,hF⟩ :∃F:Nat,c.eL=F:=⟨c.eL.toNat,I⟩;obtain⟨f,hf⟩ :∃f:Nat,c.fD=f:=⟨c.fD.toNat,I⟩;obtain⟨m,hm⟩ :∃m:Nat,c.gJ=m:=⟨c.gJ.toNat,I⟩;rw[hN]at r2 Om YG;have hC:=Vm (p:=⟨c.bS⟩) (N:=N) (F:=F) (f:=f) (m:=m) hv I I I I I I I;obtain⟨lg,l',s',g',x1,x2,x3,x4,x5⟩:=Yt (K:=K) (p:=⟨c.bS⟩) (args:=c.oQ) (N:=N) (F:=F) (f:=f) (m:=m) (mb:=⟨c.eL,c.fD,c.gJ⟩) (sc:=⟨c.dx,c.fB⟩) hp hd hK hv ha I I hl hF hf hm r2
   (ag3:=λs l g=>agZ (cfg ⟨c.bS⟩ N F f m) s l g/\Tl (cfg ⟨c.bS⟩ N F f m) c.dx s l g) ⟨h0 _ _ _ _ hv hC,Yv⟩
   (λs S M sz l g i d b hi hiN hg TQ=>⟨hJ _ _ s S M sz l g i d b hi.1 hiN,hi.2.aJ b hiN TQ⟩)
  rw[hN,x1,dr,hr,au,aP rfl,aP rfl];unfold sE;obtain⟨b,b1,b2⟩:=Rr (K:=K) (c:=c) hp hN I I c.dx.length K 0 I I;rw[pL]at b1;rw[b1,au];have hp':g'<=c.dx.length:=x4
  right
  refine⟨l',_,s',g',?_,x2.1,I,hF,by show 1<=F;omega,by show F<=4096;omega,hp',hv,ha,hC,_,_,_,_,rfl,by first | exact hN | rfl⟩;cases b with
  | false=>rw[cu eC]
  | true =>
   rw[aP rfl];have ht:=V9 (K:=K) (r:=l') I l'.length K 0 I I (by rw[og];exact x2.2.first) (by
    rw[og];by_cases hs :∃x∈l',Te x
    ·exact hs
    ·exfalso
     have hn:Tf l':=λe he h=>hs ⟨e,he,h⟩;have pr:=x2.2.pre hn;rcases x5 with x5 | ⟨l0,e,rfl,x5⟩
     ·obtain⟨x,y1,y2⟩:=b2 rfl;exact pr.pk x (by have x5:g'=c.dx.length:=x5;omega) y2
     ·rcases x5 with x5 | ⟨_,x5⟩
      ·exact pr.nf e (List.mem_append.2 (.inr (List.mem_singleton.2 rfl))) x5
      ·have hh:=x5 0 (by show 0<N;omega);have q1:Am.sig (s'.pc 0)= .start:=pr.q.1;rw[hh]at q1;cases q1)
   rw[pL]at ht;exact ht
 ·left
  rw[Ys hp hd r2 he,dr,hr,au,aP rfl,cu he];exact⟨_,rfl⟩
end
end Mo
end
section
namespace Am
def Ej(C:kY)(g a:Nat):List Nat:=
 match C.code g a with
 | .jump t=>[t]
 | .branch _ t=>[a+1,t]
 | .ret _=>[]
 | _=>[a+1]
def P2(x:Ins)(c st:Nat):Nat:=
 match x with
 | .spawn s _ _=>if s=c then 2 else st
 | .sync=>if st=2 then 4 else st
 | _=>st
structure P3(C:kY) where
 slots:Nat->Nat
 R:Nat->Nat->Nat->Nat->Prop
 r0:∀g,g<C.QZ->∀c,c<slots g->R g 0 c 1
 rn:∀g a c st,g<C.QZ->a<C.len g->c<slots g->R g a c st->∀n∈Ej C g a,R g n c (P2 (C.code g a) c st)
 sp:∀g a s f c,g<C.QZ->a<C.len g->C.code g a= .spawn s f c->s<slots g/\¬R g a s 2
 ld:∀g a x s,g<C.QZ->a<C.len g->C.code g a= .load x s->s<slots g/\¬R g a s 1/\¬R g a s 2
 rt:∀g a x,g<C.QZ->a<C.len g->C.code g a= .ret x->∀c,c<slots g->¬R g a c 2
structure SL(C:kY)(φ:P3 C)(s:St)(σ:Nat->Nat->Nat):Prop where
 a:∀f,f<s.nf->live (s.loc f)=true->∀c,c<φ.slots (s.fr f).fn->φ.R (s.fr f).fn (s.fr f).J c (σ f c)
 b:∀f,f<s.nf->s.loc f≠.waiting->∀k∈s.bC f,(s.fr k).slot<φ.slots (s.fr f).fn/\σ f (s.fr k).slot=2
 k:∀i c,i<C.N->s.pc i= .fork c->(s.fr c).slot<φ.slots (s.fr (s.fr c).par).fn/\σ (s.fr c).par (s.fr c).slot=2
 u:∀f,∀k∈s.bC f,∀k'∈s.bC f,(s.fr k).slot=(s.fr k').slot->k=k'
 v:∀i c,i<C.N->s.pc i= .fork c->∀k∈s.bC (s.fr c).par,(s.fr k).slot≠(s.fr c).slot
section
variable {C:kY}{φ:P3 C}{s:St}{i:Nat}{σ:Nat->Nat->Nat}
theorem SL.of{s':St}(h:SL C φ s σ)(h1:s'.fr=s.fr)(h2:s'.nf=s.nf)(hl:∀f,live (s'.loc f)=true->live (s.loc f)=true)
 (hw:∀f,s'.loc f≠.waiting->s.loc f≠.waiting∨s'.bC f=[]) (hk:∀f,∀k∈s'.bC f,k∈s.bC f) (hp:∀i c,s'.pc i= .fork c->s.pc i= .fork c):SL C φ s' σ:=by
 obtain⟨a,b,k,u,v⟩:=h;refine⟨?_,?_,?_,?_,?_⟩
 ·intro f hf hlf;rw[h1];exact a f (h2▸ hf) (hl f hlf)
 ·intro f hf hn x hx;rw[h1];rcases hw f hn with e | e
  ·exact b f (h2▸ hf) e x (hk f x hx)
  ·rw[e]at hx;cases hx
 ·intro i c hi hc;rw[h1];exact k i c hi (hp i c hc)
 ·intro f x hx y hy;rw[h1];exact u f x (hk f x hx) y (hk f y hy)
 ·intro i c hi hc x hx;rw[h1]at hx⊢;exact v i c hi (hp i c hc) x (hk _ x hx)
theorem SL.Zy{s':St}{p:Pc}(h:SL C φ s σ)(h1:s'.fr=s.fr)(h2:s'.nf=s.nf)(h3:s'.loc=s.loc)(h4:s'.bC=s.bC)(hp:s'.pc=cI s.pc i p)(hf:∀c,p≠.fork c):SL C φ s' σ:=
 h.of h1 h2 (by rw[h3];exact λ_ x=>x) (by rw[h3];exact λ_ x=>.inl x) (by rw[h4];exact λ_ _ x=>x) (by
  intro j c hj;rw[hp,cS]at hj;split at hj
  ·exact absurd hj (hf c)
  ·exact hj)
theorem SL.put{s':St}{p:Pc}{f:Nat}{l:Loc}(h:SL C φ s σ)(h1:s'.fr=s.fr)(h2:s'.nf=s.nf)(h3:s'.loc=cI s.loc f l)(h4:s'.bC=s.bC)(hp:s'.pc=cI s.pc i p)(hf:∀c,p≠.fork c)
 (hl:live l=true->live (s.loc f)=true) (hw:s.loc f≠.waiting∨s.bC f=[]):SL C φ s' σ:=
 h.of h1 h2 (λg=>by
  rw[h3,cS];split
  ·next e=>subst e;exact hl
  ·exact id) (λg=>by
  rw[h3,cS,h4];split
  ·next e=>subst e;exact λ_=>hw
  ·exact λx=>.inl x) (by rw[h4];exact λ_ _ x=>x) (by
  intro j c hj;rw[hp,cS]at hj;split at hj
  ·exact absurd hj (hf c)
  ·exact hj)
def Rs(x:Fr):Nat×Nat×Nat:=(x.fn,x.slot,x.par)
theorem SL.tail{s':St}{σ':Nat->Nat->Nat}(h:SL C φ s σ)(h1:∀f,Rs (s'.fr f)=Rs (s.fr f))(h2:s'.nf=s.nf)
 (hw:∀f,s'.loc f≠.waiting->(s.loc f≠.waiting/\∀c,σ f c=2->σ' f c=2)∨s'.bC f=[]) (hk:∀f,∀k∈s'.bC f,k∈s.bC f) (hp:∀i c,i<C.N->s'.pc i= .fork c->s.pc i= .fork c/\∀x,σ (s.fr c).par x=2->σ' (s.fr c).par x=2)
 (ha:∀f,f<s'.nf->live (s'.loc f)=true->∀c,c<φ.slots (s'.fr f).fn->φ.R (s'.fr f).fn (s'.fr f).J c (σ' f c)):SL C φ s' σ':=by
 have fn_:∀g,(s'.fr g).fn=(s.fr g).fn:=λg=>nV (·.1) (h1 g);have be:∀g,(s'.fr g).slot=(s.fr g).slot:=λg=>nV (·.2.1) (h1 g);have pr_:∀g,(s'.fr g).par=(s.fr g).par:=λg=>nV (·.2.2) (h1 g);refine⟨ha,?_,?_,?_,?_⟩
 ·intro f hf hn x hx;rw[fn_,be];rcases hw f hn with e | e
  ·have:=h.b f (h2▸ hf) e.1 x (hk f x hx);exact⟨this.1,e.2 _ this.2⟩
  ·rw[e]at hx;cases hx
 ·intro i c hi hc;rw[pr_,fn_,be];have:=h.k i c hi (hp i c hi hc).1;exact⟨this.1,(hp i c hi hc).2 _ this.2⟩
 ·intro f x hx y hy;rw[be,be];exact h.u f x (hk f x hx) y (hk f y hy)
 ·intro i c hi hc x hx;rw[pr_]at hx;rw[be,be];exact h.v i c hi (hp i c hi hc).1 x (hk _ x hx)
theorem zo{f:Nat}{y:Fr}(hy:Rs y=Rs (s.fr f))(g:Nat):Rs (cI s.fr f y g)=Rs (s.fr g):=by
 rw[cS];split
 ·next e=>rw[e,hy]
 ·rfl
theorem SL.data{s':St}{f:Nat}{y:Fr}(h:SL C φ s σ)(hr:FR C s)(hf:(view s).FI C.N C.F)(hi:i<C.N)(hh:s.hold i=some f)
 (h1:s'.fr=cI s.fr f y) (h2:s'.nf=s.nf) (h3:s'.loc=s.loc) (h4:s'.bC=s.bC) (h5:∀i c,s'.pc i= .fork c->s.pc i= .fork c) (hy:Rs y=Rs (s.fr f))
 (hn:y.J∈Ej C (s.fr f).fn (s.fr f).J) (ha:∀c st,P2 (C.code (s.fr f).fn (s.fr f).J) c st=st):SL C φ s' σ:=by
 obtain⟨hl,hlt⟩:=pZ hf hi hh;obtain⟨b1,b2,b3⟩:=hr f hlt;refine h.tail (λg=>by rw[h1];exact zo hy g) h2 (λg hg=>.inl ⟨h3▸ hg,λ_ e=>e⟩) (λg k hk=>h4▸ hk) (λi c _ hc=>⟨h5 i c hc,λ_ e=>e⟩) (λg hg Py c hc => ?_);rw[h3]at Py;have hfn:(s'.fr g).fn=(s.fr g).fn:=by have:=nV (·.1) (zo (s:=s) hy g);rw[h1];exact this
 rw[hfn]at hc⊢;by_cases e:g=f
 ·subst e;rw[h1,aU];have:=φ.rn _ _ c _ b1 (b3 hl) hc (h.a g hlt hl c hc) _ hn
  rwa [ha]at this
 ·rw[h1,aM e];exact h.a g (h2▸ hg) Py c hc
theorem SL.sync{s':St}{f:Nat}{y:Fr}{l:Loc}(h:SL C φ s σ)(hr:FR C s)(hf:(view s).FI C.N C.F)(hi:i<C.N)(hh:s.hold i=some f)(hp:s.pc i= .run)
 (hc:C.code (s.fr f).fn (s.fr f).J= .sync) (h1:s'.fr=cI s.fr f y) (h2:s'.nf=s.nf) (h3:s'.loc=cI s.loc f l) (hl:l= .waiting∨s.bC f=[]) (h4:s'.bC=s.bC) (h5:∀j c,s'.pc j= .fork c->j≠i/\s.pc j= .fork c)
 (hy:Rs y=Rs (s.fr f)) (hn:y.J=(s.fr f).J+1):SL C φ s' (cI σ f (λc=>if σ f c=2 then 4 else σ f c)):=by
 obtain⟨hl',hlt⟩:=pZ hf hi hh;obtain⟨b1,b2,b3⟩:=hr f hlt;refine h.tail (λg=>by rw[h1];exact zo hy g) h2 (λg hg => ?_) (λg k hk=>h4▸ hk) (λj c hj hc=>⟨(h5 j c hc).2,λx hx => ?_⟩) (λg hg Py c FV => ?_)
 ·rw[h3,cS]at hg;by_cases e:g=f
  ·subst e;rw[aP rfl]at hg;rcases hl with e | e
   ·exact absurd e hg
   ·exact .inr (by rw[h4];exact e)
  ·rw[cu e]at hg;exact .inl ⟨hg,λc e'=>by rw[aM e];exact e'⟩
 ·have q:=(hf.fk j c hj (by show sig (s.pc j)=_;rw[(h5 j c hc).2];rfl)).2.2.1;have hne:(s.fr c).par≠f:=λe=>(h5 j c hc).1 (yH hf hj hi q (by show s.hold i=some (s.fr c).par;rw[e];exact hh));rw[aM hne];exact hx
 ·have hfn:(s'.fr g).fn=(s.fr g).fn:=by have:=nV (·.1) (zo (s:=s) hy g);rw[h1];exact this
  rw[hfn]at FV⊢;by_cases e:g=f
  ·subst e;rw[h1,aU,aU,hn];have:=φ.rn _ _ c _ b1 (b3 hl') FV (h.a g hlt hl' c FV) ((s.fr g).J+1) (by unfold Ej;rw[hc];exact List.mem_singleton.2 rfl)
   rwa [hc]at this
  ·rw[h1,aM e,aM e];rw[h3,aM e]at Py;exact h.a g (h2▸ hg) Py c FV
theorem SL.spawn{s':St}{f:Nat}{y c0:Fr}{sl g0 c:Nat}(h:SL C φ s σ)(hr:FR C s)(hf:(view s).FI C.N C.F)(hi:i<C.N)(hh:s.hold i=some f)(hp:s.pc i= .run)
 (hc:C.code (s.fr f).fn (s.fr f).J= .spawn sl g0 c) (LB:g0<C.QZ) (h1:s'.fr=cI (cI s.fr f y) s.nf c0) (h2:s'.nf=s.nf+1) (h3:s'.loc=cI s.loc s.nf (.cr i)) (h4:s'.bC=s.bC) (h5:s'.pc=cI s.pc i (.fork s.nf))
 (hy:Rs y=Rs (s.fr f)) (hn:y.J=(s.fr f).J+1) (hc0:c0.fn=g0/\c0.slot=sl/\c0.par=f/\c0.J=0):SL C φ s' (cI (cI σ f (cI (σ f) sl 2)) s.nf (λ_=>1)):=by
 obtain⟨hl',hlt⟩:=pZ hf hi hh;obtain⟨b1,b2,b3⟩:=hr f hlt;obtain⟨s1,s2⟩:=φ.sp _ _ _ _ _ b1 (b3 hl') hc;have hfr:∀g,g<s.nf->Rs (s'.fr g)=Rs (s.fr g):=λg hg=>by rw[h1,aM I];exact zo hy g
 have WK:s'.fr s.nf=c0:=by rw[h1,aU]
 have fn_:∀g,g<s.nf->(s'.fr g).fn=(s.fr g).fn:=λg hg=>nV (·.1) (hfr g hg);have be:∀g,g<s.nf->(s'.fr g).slot=(s.fr g).slot:=λg hg=>nV (·.2.1) (hfr g hg);have pr_:∀g,g<s.nf->(s'.fr g).par=(s.fr g).par:=λg hg=>nV (·.2.2) (hfr g hg);have kl:∀p,∀k∈s.bC p,k<s.nf/\p<s.nf:=λp k hk=>by
  have a:=hf.kd p k hk;have b:k<s.nf:=by
   rcases Dv k s.nf with h | h
   ·exact h
   ·exact absurd (hf.free k h) a.2.2.2
  exact⟨b,a.2.1▸ hf.pr k b⟩
 have hσ:∀g,g<s.nf->∀c,σ g c=2->cI (cI σ f (cI (σ f) sl 2)) s.nf (λ_=>1) g c=2:=λg hg c e=>by
  rw[aM I,cS];split
  ·next e' =>
   subst e';rw[cS];split
   ·rfl
   ·exact e
  ·exact e
 have af4:σ f sl≠2:=λe=>s2 (e▸ h.a f hlt hl' sl s1);have hlf:s.loc f≠.waiting:=by rcases hf.hold i f hi hh with a | a<;>(have:=a.2;change s.loc f=_ at this;rw[this];simp)
 have ff:∀j c,s'.pc j= .fork c->(j=i/\c=s.nf)∨(j≠i/\s.pc j= .fork c):=λj c hj=>by
  rw[h5,cS]at hj;split at hj
  ·next e=>cases hj;exact .inl ⟨e,rfl⟩
  ·next e=>exact .inr ⟨e,hj⟩
 have fkl:∀j c,j<C.N->s.pc j= .fork c->c<s.nf:=λj c hj hc=>by
  have a:=(hf.fk j c hj (by show sig (s.pc j)=_;rw[hc];rfl)).2.1;rcases Dv c s.nf with h | h
  ·exact h
  ·have:=hf.free c h;rw[this]at a;cases a
 refine⟨?_,?_,?_,?_,?_⟩
 ·intro g hg Py c FV;by_cases e:g=s.nf
  ·subst e;rw[WK]at FV⊢;rw[aU,hc0.1,hc0.2.2.2];exact φ.r0 _ LB c (hc0.1▸ FV)
  ·have Kg:g<s.nf:=by omega
   rw[fn_ g Kg]at FV⊢;rw[h3,aM e]at Py;rw[aM e];by_cases e2:g=f
   ·subst e2;rw[h1,aM e,aU,aU,hn];have:=φ.rn _ _ c _ b1 (b3 hl') FV (h.a g hlt hl' c FV) ((s.fr g).J+1) (by unfold Ej;rw[hc];exact List.mem_singleton.2 rfl);rw[hc]at this;simp only[P2]at this;rw[cS];simp only[eq_comm (a:=c)];exact this
   ·rw[h1,aM e,aM e2,aM e2];exact h.a g Kg Py c FV
 ·intro g hg hn x hx;rw[h4]at hx;obtain⟨kx,kg⟩:=kl g x hx;rw[fn_ g kg,be x kx];rw[h3,aM I]at hn;have:=h.b g kg hn x hx;exact⟨this.1,hσ g kg _ this.2⟩
 ·intro j c hj FV;rcases ff j c FV with ⟨rfl,rfl⟩ | ⟨e,e'⟩
  ·rw[WK,hc0.2.1,hc0.2.2.1,fn_ f hlt];refine⟨s1,?_⟩;rw[aM I,aU,aU]
  ·have c':=fkl j c hj e';have c'':=hf.pr c c';rw[pr_ c c',be c c',fn_ (s.fr c).par c''];have:=h.k j c hj e';exact⟨this.1,hσ _ c'' _ this.2⟩
 ·intro g x hx y' hy';rw[h4]at hx hy';rw[be x (kl g x hx).1,be y' (kl g y' hy').1];exact h.u g x hx y' hy'
 ·intro j c hj FV x hx;rw[h4]at hx;rcases ff j c FV with ⟨rfl,rfl⟩ | ⟨e,e'⟩
  ·rw[WK,hc0.2.2.1]at hx;rw[WK,hc0.2.1,be x (kl f x hx).1];intro e;have:=(h.b f hlt hlf x hx).2;rw[e]at this;exact af4 this
  ·have c':=fkl j c hj e';rw[pr_ c c']at hx;rw[be c c',be x (kl _ x hx).1];exact h.v j c hj e' x hx
theorem SL.Oe(h:SL C φ s σ)(hr:FR C s)(hf:(view s).FI C.N C.F)(hi:i<C.N){f a:Nat}(hh:s.hold i=some f)(hc:C.code (s.fr f).fn (s.fr f).J= .ret a):s.bC f=[]:=by
 obtain⟨hl',hlt⟩:=pZ hf hi hh;obtain⟨b1,b2,b3⟩:=hr f hlt;have hlf:s.loc f≠.waiting:=by rcases hf.hold i f hi hh with a | a<;>(have:=a.2;change s.loc f=_ at this;rw[this];simp)
 match hk:s.bC f with
 | []=>rfl
 | k::l =>
  obtain⟨x1,x2⟩:=h.b f hlt hlf k (by rw[hk];simp);exact absurd (x2▸ h.a f hlt hl' _ x1) (φ.rt _ _ _ b1 (b3 hl') hc _ x1)
end
theorem Ru{α β:Type}[DecidableEq α](f:α->β)(a:α)(x y:β):cI (cI f a x) a y=cI f a y:=by
 funext z;simp only[cS];split<;>rfl
section
variable {C:kY}{φ:P3 C}{s:St}{i:Nat}{σ:Nat->Nat->Nat}
theorem Ti(hf:(view s).FI C.N C.F)(hi:i<C.N){f:Nat}(hh:s.hold i=some f)(hp:s.pc i= .run)(hn:¬0<s.mem (.join f)-1):s.bC f=[]:=by
 have a:=hf.hold i f hi hh;have hg:(view s).g i= .run:=by show sig (s.pc i)=_;rw[hp];rfl
 rcases a with a | a
 ·rw[hg]at a;cases a.1
 ·have z:=hf.jn f (pZ hf hi hh).2;rw[a.2]at z;have z:s.mem (.join f)=1+((s.bC f).length:Int):=z;exact Gr I
theorem SL.instr(hC:C.OK)(h:SL C φ s σ)(hr:FR C s)(hf:(view s).FI C.N C.F)(hi:i<C.N)(hp:s.pc i= .run) :∃σ',SL C φ (instr C s i).s σ':=by
 obtain⟨f,hh⟩:=sG hf hi (by rw[hp];rfl);obtain⟨hl,hn⟩:=pZ hf hi hh;obtain⟨a1,a2,a3⟩:=hr f hn;have a3:=a3 hl;have ok:=hC.ins _ a1 _ a3;have hw:s.loc f≠.waiting:=by rcases hf.hold i f hi hh with a | a<;>(have:=a.2;change s.loc f=_ at this;rw[this];simp)
 have nf:∀j c,cI s.pc i .run j= .fork c->s.pc j= .fork c:=λj c e=>by
  rw[cS]at e;split at e
  ·cases e
  ·exact e
 unfold NN at ok;unfold Am.instr;simp only[hh,pK];split<;>rename_i hc<;>rw[hc]at ok<;>simp only at ok
 ·exact⟨σ,h.data hr hf hi hh rfl rfl rfl rfl (λ_ _ e=>e) rfl (by unfold Ej;rw[hc];exact List.mem_singleton.2 rfl) (λc st=>by rw[hc];rfl)⟩
 ·exact⟨σ,h.data hr hf hi hh rfl rfl rfl rfl (λ_ _ e=>e) rfl (by unfold Ej;rw[hc];exact List.mem_singleton.2 rfl) (λc st=>by rw[hc];rfl)⟩
 ·exact⟨σ,h.data hr hf hi hh rfl rfl rfl rfl (λ_ _ e=>e) rfl (by unfold Ej;rw[hc];exact List.mem_singleton.2 rfl) (λc st=>by rw[hc];rfl)⟩
 ·exact⟨σ,h.data hr hf hi hh rfl rfl rfl rfl (λ_ _ e=>e) rfl (by unfold Ej;rw[hc];exact List.mem_singleton.2 rfl) (λc st=>by rw[hc];rfl)⟩
 ·refine⟨σ,h.data hr hf hi hh rfl rfl rfl rfl (λ_ _ e=>e) (by split<;>rfl) ?_ (λc st=>by rw[hc];rfl)⟩;rename_i b_;have e:Ej C (s.fr f).fn (s.fr f).J=[(s.fr f).J+1,b_]:=by unfold Ej;rw[hc]
  rw[e];split
  ·exact Mt _ (List.mem_singleton.2 rfl)
  ·exact List.mem_cons.2 (.inl rfl)
 ·exact⟨σ,h.data hr hf hi hh rfl rfl rfl rfl (λ_ _ e=>e) rfl (by unfold Ej;rw[hc];exact List.mem_singleton.2 rfl) (λc st=>by rw[hc];rfl)⟩
 ·exact⟨σ,h.data hr hf hi hh rfl rfl rfl rfl (λ_ _ e=>e) rfl (by unfold Ej;rw[hc];exact List.mem_singleton.2 rfl) (λc st=>by rw[hc];rfl)⟩
 ·rename_i sl g c;split
  ·refine⟨cI σ f (cI (σ f) sl 2),h.tail (λk=>zo (s:=s) (f:=f) (y:={s.fr f with J:=(s.fr f).J+1}) rfl k) rfl (λk hk=>.inl ⟨hk,λc' e => ?_⟩) (λ_ _ e=>e) (λj c' hj e => ?_) (λk hk hlk c' FV => ?_)⟩
   ·rw[cS];split
    ·next e' =>
      subst e';rw[cS];split
      ·rfl
      ·exact e
    ·exact e
   ·have e:cI s.pc i .full j= .fork c':=e;rw[cS]at e;split at e
    ·cases e
    ·refine⟨e,λx hx => ?_⟩;rw[cS];split
     ·next e' =>
       rw[cS];split
       ·rfl
       ·exact e'▸ hx
     ·exact hx
   ·have hfn:(cI s.fr f {s.fr f with J:=(s.fr f).J+1} k).fn=(s.fr k).fn:=nV (·.1) (zo (s:=s) (f:=f) (y:={s.fr f with J:=(s.fr f).J+1}) rfl k);show φ.R (cI s.fr f {s.fr f with J:=(s.fr f).J+1} k).fn (cI s.fr f {s.fr f with J:=(s.fr f).J+1} k).J c' _;have ME:c'<φ.slots (cI s.fr f {s.fr f with J:=(s.fr f).J+1} k).fn:=FV;clear FV;rw[hfn]at ME⊢;by_cases e:k=f
    ·subst e;rw[aU,aU];have:=φ.rn _ _ c' _ a1 a3 ME (h.a k hn hl c' ME) ((s.fr k).J+1) (by unfold Ej;rw[hc];exact List.mem_singleton.2 rfl);rw[hc]at this;simp only[P2]at this;rw[cS];simp only[eq_comm (a:=c')];exact this
    ·rw[aM e,aM e];exact h.a k hk hlk c' ME
  ·refine⟨_,h.spawn (y:={s.fr f with J:=(s.fr f).J+1,bC:=(s.fr f).bC+1}) (c0:=lq C (s.fr f) f sl g c) hr hf hi hh hp hc ok.2.1 ?_ rfl rfl rfl rfl rfl rfl ⟨rfl,rfl,rfl,rfl⟩⟩;show cI (cI (cI s.fr f _) f _) s.nf _=_;rw[Ru]
 ·split
  ·exact⟨_,h.sync (l:=.waiting) hr hf hi hh hp hc rfl rfl rfl (.inl rfl) rfl (λj c e=>by
    have e:cI s.pc i .E3 j= .fork c:=e;rw[cS]at e;split at e
    ·cases e
    ·next hne=>exact⟨hne,e⟩) rfl rfl⟩
  ·rename_i hk;exact⟨_,h.sync (l:=.uL i) hr hf hi hh hp hc rfl rfl rfl (.inr (Ti hf hi hh hp hk)) rfl (λj c e=>by
    have e:cI s.pc i .ru j= .fork c:=e;rw[cS]at e;split at e
    ·cases e
    ·next hne=>exact⟨hne,e⟩) rfl rfl⟩
 ·rename_i a;have hk:=h.Oe hr hf hi hh hc;have fin:∀(p:Pc),(∀c,p≠.fork c)->∀(s':St),s'.fr=cI s.fr f {s.fr f with J:=(s.fr f).J+1}->s'.nf=s.nf->s'.loc=cI s.loc f (.fin i)->s'.bC=s.bC->s'.pc=cI s.pc i p->SL C φ s' σ:=by
   intro p hp s' e1 e2 e3 e4 e5;refine h.tail (λk=>by rw[e1];exact zo (s:=s) (f:=f) (y:={s.fr f with J:=(s.fr f).J+1}) rfl k) e2 (λk hk' => ?_) (λk x hx=>e4▸ hx) (λj c hj e => ?_) (λk hk' hlk c' FV => ?_)
   ·by_cases e:k=f
    ·subst e;exact .inr (by rw[e4];exact hk)
    ·rw[e3,aM e]at hk';exact .inl ⟨hk',λ_ e=>e⟩
   ·rw[e5,cS]at e;split at e
    ·exact absurd e (hp c)
    ·exact⟨e,λ_ e=>e⟩
   ·have ek:k≠f:=λe=>by rw[e,e3,aU]at hlk;cases hlk
    rw[e1,aM ek]at FV⊢;rw[e3,aM ek]at hlk;exact h.a k (e2▸ hk') hlk c' FV
  split
  ·next e0=>subst e0;exact⟨σ,fin .done (λc e=>by cases e) _ rfl rfl rfl rfl rfl⟩
  ·exact⟨σ,fin (.out (s.fr f).par f) (λc e=>by cases e) _ rfl rfl rfl rfl rfl⟩
theorem SL.aJ(hC:C.OK)(h:SL C φ s σ)(hr:FR C s)(hf:(view s).FI C.N C.F)(hd:DT C s)(hi:i<C.N)(d:Int) :∃σ',SL C φ (aJ C s i d).s σ':=by
 cases hp:s.pc i with
 | run=>unfold Am.aJ;rw[hp];exact SL.instr hC h hr hf hi hp
 | fork c =>
  obtain⟨f,hh⟩:=sG hf hi (by rw[hp];rfl);obtain⟨hl,hn⟩:=pZ hf hi hh;have hg:(view s).g i= .fork c:=by show sig (s.pc i)=_;rw[hp];rfl
  have fk:=hf.fk i c hi hg;have ep:(s.fr c).par=f:=Option.some.inj (fk.2.2.1.symm.trans hh);unfold Am.aJ;rw[hp];simp only[hh,pK];refine⟨σ,?_⟩;have kf:∀g k,k∈cI s.bC f (c::s.bC f) g->(g=f/\k=c)∨k∈s.bC g:=λg k e=>by
   rw[cS]at e;split at e
   ·next e' =>
     rcases List.mem_cons.1 e with e | e
     ·exact .inl ⟨e',e⟩
     ·exact .inr (e'▸ e)
   ·exact .inr e
  have pf:∀j x,cI s.pc i (.DL c) j= .fork x->j≠i/\s.pc j= .fork x:=λj x e=>by
   rw[cS]at e;split at e
   ·cases e
   ·next e'=>exact⟨e',e⟩
  have h2:=h.k i c hi hp;have h3:=h.v i c hi hp;rw[ep]at h2 h3;refine⟨h.a,?_,?_,?_,?_⟩
  ·intro g hg hw k hk;rcases kf g k hk with ⟨rfl,rfl⟩ | e
   ·exact h2
   ·exact h.b g hg hw k e
  ·intro j x hj e;exact h.k j x hj (pf j x e).2
  ·intro g k hk k' hk' e;rcases kf g k hk with ⟨e1,rfl⟩ | e1
   ·rcases kf g k' hk' with ⟨_,rfl⟩ | e2
    ·rfl
    ·subst e1;exact absurd e.symm (h3 k' e2)
   ·rcases kf g k' hk' with ⟨e3,rfl⟩ | e2
    ·subst e3;exact absurd e (h3 k e1)
    ·exact h.u g k e1 k' e2 e
  ·intro j x hj e k hk;obtain⟨n1,n2⟩:=pf j x e;rcases kf _ k hk with ⟨e1,rfl⟩ | e1
   ·exfalso
    have q:=(hf.fk j x hj (by show sig (s.pc j)=_;rw[n2];rfl)).2.2.1;have q:s.hold j=some (s.fr x).par:=q;have e1:(s.fr x).par=f:=e1;rw[e1]at q;exact n1 (yH hf hj hi q hh)
   ·exact h.v j x hj n2 k e1
 | start x =>
  unfold Am.aJ;rw[hp];simp only;exact⟨σ,h.Zy rfl rfl rfl rfl rfl (λc e=>by cases e)⟩
 | ru =>
  obtain⟨f,hh⟩:=sG hf hi (by rw[hp];rfl);unfold Am.aJ;rw[hp];simp only[hh,pK];have hg:(view s).g i= .one:=by show sig (s.pc i)=_;rw[hp];rfl
  refine⟨σ,h.put rfl rfl rfl rfl rfl (λc e=>by cases e) (λ_=>(pZ hf hi hh).1) (.inl ?_)⟩;rcases hf.hold i f hi hh with a | a<;>(have:=a.2;change s.loc f=_ at this;rw[this];simp)
 | out p c =>
  have hg:(view s).g i= .out p c:=by show sig (s.pc i)=_;rw[hp];rfl
  unfold Am.aJ;rw[hp];simp only;have hc:=(hf.out i p c hi hg).2.1;have hc:s.loc c= .fin i:=hc;have pf:∀(q:Pc),(∀x,q≠.fork x)->∀j x,cI s.pc i q j= .fork x->s.pc j= .fork x:=λq hq j x e=>by
   rw[cS]at e;split at e
   ·exact absurd e (hq x)
   ·exact e
  have ke:∀g,∀k∈cI s.bC p ((s.bC p).erase c) g,k∈s.bC g:=λg k hk=>by
   rw[cS]at hk;split at hk
   ·next e=>subst e;exact List.mem_of_mem_erase hk
   ·exact hk
  split
  ·rename_i hn;obtain⟨hw,hk,hne⟩:=hf.iV hi hg hn;have hw:s.loc p= .waiting:=hw;have hk:s.bC p=[c]:=hk;refine⟨σ,h.of rfl rfl (λg hg => ?_) (λg hg => ?_) ke (pf _ (λx e=>by cases e))⟩
   ·have hg:live (cI (cI s.loc c .gone) p (.uU i) g)=true:=hg;rw[cS]at hg;split at hg
    ·next e=>subst e;rw[hw];rfl
    ·rw[cS]at hg;split at hg
     ·cases hg
     ·exact hg
   ·by_cases e:g=p
    ·subst e;right;show cI s.bC g _ g=[];rw[aU,hk];simp
    ·have hg:cI (cI s.loc c .gone) p (.uU i) g≠.waiting:=hg;rw[aM e,cS]at hg;split at hg
     ·next e=>left;rw[e,hc];simp
     ·exact .inl hg
  ·refine⟨σ,h.of rfl rfl (λg hg => ?_) (λg hg => ?_) ke (pf _ (λx e=>by cases e))⟩
   ·have hg:live (cI s.loc c .gone g)=true:=hg;rw[cS]at hg;split at hg
    ·cases hg
    ·exact hg
   ·have hg:cI s.loc c .gone g≠.waiting:=hg;rw[cS]at hg;split at hg
    ·next e=>left;rw[e,hc];simp
    ·exact .inl hg
 | take p c =>
  have hg:(view s).g i= .take p c:=by show sig (s.pc i)=_;rw[hp];rfl
  unfold Am.aJ;rw[hp];simp only;have e:s.loc p= .uU i:=hf.tk i p c hi hg;exact⟨σ,h.put rfl rfl rfl rfl rfl (λc e=>by cases e) (λ_=>by rw[e];rfl) (.inl (by rw[e];simp))⟩
 | ry c b =>
  have hg:(view s).g i= .push c:=by show sig (s.pc i)=_;rw[hp];rfl
  have e:s.loc c= .cr i:=(hf.ps i c hi hg).2.1;unfold Am.aJ;rw[hp];simp only;exact⟨σ,h.put rfl rfl rfl rfl rfl (λc e=>by cases e) (λ_=>by rw[e];rfl) (.inl (by rw[e];simp))⟩
 | Eb b =>
  have P:=(hd.1 i hi).ph;unfold rz at P;rw[hp]at P;simp only at P;unfold Am.aJ;rw[hp];simp only;split
  ·rename_i hlt;have hne:s.q i≠[]:=by
    intro e;simp only[St.L,St.T,e,yX]at P;omega
   have hm:(s.q i).getLastD 0∈s.q i:=by
    rw[Mv,List.getLast?_eq_some_getLast hne];exact List.getLast_mem hne
   have e:s.loc ((s.q i).getLastD 0)= .Ow i:=(hf.q i _ hi hm).2;exact⟨σ,h.put rfl rfl rfl rfl rfl (λc e=>by cases e) (λ_=>by rw[e];rfl) (.inl (by rw[e];simp))⟩
  ·split<;>exact⟨σ,h.Zy rfl rfl rfl rfl rfl (λc e=>by cases e)⟩
 | sF b t cc =>
  have P:=(hd.1 i hi).ph;unfold rz at P;rw[hp]at P;simp only at P;unfold Am.aJ;rw[hp];simp only;split
  ·rename_i hlt;obtain⟨x,hx,he⟩:=(P.1.2.2.2.1 hlt).2.2;rw[<-P.2]at he;rw[he];have e:s.loc x= .pop i:=(hf.pop i x hi hx).2;refine⟨σ,h.put (f:=x) (l:=.held i) (p:=.start (-1)) rfl rfl (by simp only[got,St.put,St.n4,St.to,St.holds,cQ]) rfl rfl (λc e=>by cases e) (λ_=>by rw[e];rfl) (.inl (by rw[e];simp))⟩
  ·exact⟨σ,h.Zy rfl rfl rfl rfl rfl (λc e=>by cases e)⟩
 | uT b t x =>
  have P:=(hd.1 i hi).ph;unfold rz at P;rw[hp]at P;simp only at P;unfold Am.aJ;rw[hp];simp only;split
  ·rename_i ht;have hq:=(P.2.2.2.2.1 ht).1;have e:s.loc x.toNat= .Ow i:=(hf.q i _ hi (by show x.toNat∈s.q i;rw[hq];simp)).2;exact⟨σ,h.put rfl rfl rfl rfl rfl (λc e=>by cases e) (λ_=>by rw[e];rfl) (.inl (by rw[e];simp))⟩
  ·exact⟨σ,h.Zy rfl rfl rfl rfl rfl (λc e=>by cases e)⟩
 | tc t x BI =>
  have P:=(hd.1 i hi).ph;unfold rz at P;rw[hp]at P;simp only at P;unfold Am.aJ;rw[hp];simp only;split
  ·rename_i hw;have e:s.loc x.toNat= .pop i:=(hf.pop i _ hi (P.2.2.2 hw).1).2;exact⟨σ,h.put (f:=x.toNat) (l:=.held i) (p:=.start (-1)) rfl rfl rfl rfl rfl (λc e=>by cases e) (λ_=>by rw[e];rfl) (.inl (by rw[e];simp))⟩
  ·refine⟨σ,h.Zy (p:=if C.N=1 then .flag else .oB) rfl rfl rfl rfl rfl (λc e => ?_)⟩;split at e<;>cases e
 | oK v t x =>
  have HT:=hd.2 i hi;unfold Th at HT;rw[hp]at HT;simp only at HT;unfold Am.aJ;rw[hp];simp only;split
  ·rename_i ht;obtain⟨y,l,hq,hx⟩:=HT.2.2.2 ht.symm;have e:s.loc x.toNat= .Ow v:=(hf.q v _ HT.1 (by show x.toNat∈s.q v;rw[hq,hx];simp)).2;exact⟨σ,h.put (f:=x.toNat) (l:=.held i) (p:=.start v) rfl rfl rfl rfl rfl (λc e=>by cases e) (λ_=>by rw[e];rfl) (.inl (by rw[e];simp))⟩
  ·exact⟨σ,h.Zy rfl rfl rfl rfl rfl (λc e=>by cases e)⟩
 | halted=>unfold Am.aJ;rw[hp];exact⟨σ,h⟩
 | full=>unfold Am.aJ;rw[hp];exact⟨σ,h⟩
 | parked =>
  unfold Am.aJ;rw[hp];simp only;split
  ·exact⟨σ,h⟩
  ·refine⟨σ,h.Zy (p:=if C.N=1 then .flag else .oB) rfl rfl rfl rfl rfl (λc e => ?_)⟩;split at e<;>cases e
 | _ =>
  unfold Am.aJ;rw[hp];simp only[oX,looking,Dl,Hg]
  repeat' split
  all_goals exact⟨σ,h.Zy rfl rfl rfl rfl rfl (λc e=>by first | (cases e;done) | (split at e<;>cases e;done) | (split at e<;>(try split at e)<;>cases e;done))⟩
end
end Am
end
section
namespace Mo
open Go SL GX
section
theorem Yx{α:Type}[Inhabited α]{l:List α}{i:Nat}(h:i<l.length):J l i=l[i]:=by
 unfold J;rw[List.getD_eq_getElem?_getD,List.getElem?_eq_getElem h];rfl
theorem Yy{p:aE}{N F f m:Nat}(hv:Valid p) :∃φ:Am.P3 (cfg p N F f m),True:=by
 have kd:∀g a,g<p.ah.length->a<(J p.ah g).ai.length->(J (J p.ah g).ai a).aN=0∨(J (J p.ah g).ai a).aN=1∨(J (J p.ah g).ai a).aN=2∨(J (J p.ah g).ai a).aN=3∨(J (J p.ah g).ai a).aN=4∨(J (J p.ah g).ai a).aN=5∨(J (J p.ah g).ai a).aN=6∨(J (J p.ah g).ai a).aN=7∨(J (J p.ah g).ai a).aN=8∨(J (J p.ah g).ai a).aN=9:=λg a hg ha=>by
  have hk:=(Code.snd (hv.G3 g hg) (hv.code g hg)).kind (a:Int) I I;rw[cQ]at hk;omega
 have al:∀g a,g<p.ah.length->a<(J p.ah g).ai.length->nH (J p.ah g) (J (J p.ah g).ai a)=true:=λg a hg ha=>((hv.code g hg).ins a ha).1;refine⟨⟨λg=>(J p.ah g).bM.toNat,λg a c st=>((a:Int),(st:Int))∈reach (J p.ah g) (c:Int),?_,?_,?_,?_,?_⟩,bP⟩
 ·intro g hg c hc;exact(ID (Code.snd (hv.G3 g hg) (hv.code g hg)) (c:Int)).2.2
 ·intro g a c st hg ha hc hR n hn;change g<p.ah.length at hg;change a<(J p.ah g).ai.length at ha;change c<(J p.ah g).bM.toNat at hc;obtain⟨ok,cl,_⟩:=ID (Code.snd (hv.G3 g hg) (hv.code g hg)) (c:Int);obtain⟨j,hj,e⟩:=List.getElem_of_mem hR;have ej:J (reach (J p.ah g) (c:Int)) j=((a:Int),(st:Int)):=(Yx hj).trans e;have:=cl j hj hj;rw[ej]at this;have hst:(Am.P2 (nE (J (J p.ah g).ai a)) c st:Int)=O3 (J p.ah g) c a st/\(∀n∈Am.Ej (cfg p N F f m) g a,(n:Int)∈nx (J p.ah g) a):=by
   have a1:=al g a hg ha;unfold O3 nx Am.Ej;show(Am.P2 (nE (J (J p.ah g).ai a)) c st:Int)=_/\∀n∈(match nE (J (J p.ah g).ai a)with | .jump t=>[t] | .branch _ t=>[a+1,t] | .ret _=>[] | _=>[a+1]),_;rw[cQ];have hk:=kd g a hg ha;unfold nH at a1;generalize J (J p.ah g).ai a=x at *;unfold nE;rcases hk with k | k | k | k | k | k | k | k | k | k<;>simp[k,uf,Am.P2]at a1⊢
   ·omega
   ·omega
   ·obtain⟨a1,a2⟩:=a1;have e:x.A.toNat=c↔x.A=(c:Int):=by omega
    by_cases h:x.A=(c:Int)
    ·rw[aP (e.2 h),aP h];rfl
    ·rw[cu (λh'=>h (e.1 h')),cu h]
   ·by_cases h:st=2
    ·rw[aP h,p7];rfl
    ·rw[cu h,ef]
  rw[<-hst.1]at this;exact this n (hst.2 n hn)
 ·intro g a s f' c hg ha hc;change g<p.ah.length at hg;change a<(J p.ah g).ai.length at ha;have hc:nE (J (J p.ah g).ai a)= .spawn s f' c:=hc;have a1:=al g a hg ha;have so:=(hv.slot g hg a ha).1;have hk:=kd g a hg ha;unfold nH at a1;generalize J (J p.ah g).ai a=x at *;unfold nE at hc;rcases hk with k | k | k | k | k | k | k | k | k | k<;>simp[k]at hc
  simp[k,uf]at a1;have so:=so k;have e:x.A=(s:Int):=by omega
  rw[e]at so;exact⟨by show s<(J p.ah g).bM.toNat;omega,so⟩
 ·intro g a x0 s hg ha hc;change g<p.ah.length at hg;change a<(J p.ah g).ai.length at ha;have hc:nE (J (J p.ah g).ai a)= .load x0 s:=hc;have a1:=al g a hg ha;have so:=(hv.slot g hg a ha).2.1;have hk:=kd g a hg ha;unfold nH at a1;generalize J (J p.ah g).ai a=x at *;unfold nE at hc;rcases hk with k | k | k | k | k | k | k | k | k | k<;>simp[k]at hc
  simp[k,uf]at a1;have so:=so k;have e:x.B=(s:Int):=by omega
  rw[e]at so;exact⟨by show s<(J p.ah g).bM.toNat;omega,so.1,so.2⟩
 ·intro g a x0 hg ha hc c FV;change g<p.ah.length at hg;change a<(J p.ah g).ai.length at ha;have hc:nE (J (J p.ah g).ai a)= .ret x0:=hc;have so:=(hv.slot g hg a ha).2.2;have hk:=kd g a hg ha;generalize J (J p.ah g).ai a=x at *;unfold nE at hc;rcases hk with k | k | k | k | k | k | k | k | k | k<;>simp[k]at hc
  exact so k c FV
end
open Go Go.RowKit SL GX
noncomputable section
variable {z w:World}{L:List bj}
theorem Dq(H:rT K O Y p2=some r0)(h:iQ z (L) w) :
 nK 219 #[Z O,Z Y,Z p2] w z (Z r0) (L):=by
 unfold rT at H;refine ke func219 68 rfl λj=>ig<|wq<|ig<|wb<|aL [vB (O==0),vB (O==0)]<|G<|dW H (λc1 H=>?_) λc1 H=>?_
 ·refine aL [U,U,Z (wi (Y+p2)),Z (wi (Y+p2))]<|bW<|br<|tr<|?_;cases H;exact gj h
 refine aL [vB (O==1),vB (O==1)]<|G<|dW H (λc2 H=>?_) λc2 H=>?_
 ·refine aL [U,U,Z (wi (Y-p2)),Z (wi (Y-p2))]<|bW<|br<|tr<|?_;cases H;exact gj h
 refine aL [vB (O==2),vB (O==2)]<|G<|dW H (λc3 H=>?_) λc3 H=>?_
 ·refine aL [U,U,Z (wi (Y*p2)),Z (wi (Y*p2))]<|bW<|br<|tr<|?_;cases H;exact gj h
 refine aL [vB (O==3),vB (O==3)]<|G<|dW H (λc4 H=>?_) λc4 H=>?_
 ·refine ks<|gf H λr5 e6 H=>ko dk<|fh (xK e6 h :) λw h=>bR<|bW<|br<|tr<|?_;cases H;exact gj h
 refine aL [vB (O==4),vB (O==4)]<|G<|dW H (λc7 H=>?_) λc7 H=>?_
 ·refine ks<|gf H λr8 e9 H=>ko kW<|fh (xK e9 h :) λw h=>ko [U,Z (wi (r8*p2)),Z (wi (Y-(wi (r8*p2)))),Z (wi (Y-(wi (r8*p2))))]<|bW<|br<|tr<|?_;cases H;exact gj h
 refine aL [vB (O==5),vB (O==5)]<|G<|dW H (λoO H=>?_) λoO H=>?_
 ·refine ks<|gf H λu0 EM H=>ko dk<|fh (uk EM h :) λw h=>bR<|bW<|br<|tr<|?_;cases H;exact gj h
 refine aL [vB (O==6),vB (O==6)]<|G<|dW H (λxQ H=>?_) λxQ H=>?_
 ·refine ks<|gf H λiZ Iu H=>ko dk<|fh (uk Iu h :) λw h=>bR<|bW<|br<|tr<|?_;cases H;exact gj h
 refine aL [vB (O==7),vB (O==7)]<|G<|dW H (λu7 H=>?_) λu7 H=>?_
 ·refine ks<|gf H λBV D7 H=>ko dk<|fh (uk D7 h :) λw h=>bR<|bW<|br<|tr<|?_;cases H;exact gj h
 refine aL [vB (O==8),vB (O==8)]<|G<|dW H (λs6 H=>?_) λs6 H=>?_
 ·refine ks<|gf H λxo Le H=>ko dk<|fh (w7 Le h :) λw h=>gf H λMg BM H=>fh (w8 BM h :) λw h=>bR<|bW<|br<|tr<|?_;cases H;exact gj h
 refine aL [vB (O==9),vB (O==9)]<|G<|dW H (λvh H=>?_) λvh H=>?_
 ·refine ks<|gf H λyN UY H=>ko dk<|fh (w7 UY h :) λw h=>gf H λLa OR H=>fh (w8 OR h :) λw h=>bR<|bW<|br<|tr<|?_;cases H;exact gj h
 refine wk<|bn<|tn<|ks<|gf H λO0 Lf H=>ko kW<|fh (Br Lf h :) λw h=>bR<|bW<|?_;cases H;exact gj h
def qW(K:Nat)(O:Int)(Y:Int)(p2:Int):Option (Int×Int):=
 (if O<0 then some (0,10)else(if O>=16 then some (0,10)else ei (rT K O Y p2) (λr3=>some (r3,0))))
theorem CK(H:qW K O Y p2=some (r0,r1))(h:iQ z (L) w) :
 nK 192 #[Z O,Z Y,Z p2] w z (.tuple #[Z r0,Z r1]) (L):=by
 unfold qW at H;refine ke func192 18 rfl λj=>aL dk<|G<|wq<|aL [U,dH (O<0),dH (O<0)]<|qI H (λc1 H=>?_) λc1 H=>?_
 ·refine cx (dT c1) [11,12]<|oN (dT c1) (vB true)<|G<|λ_ r=>gQ r (b:=true) rfl<|qq r<|aL dk<|bW<|tr<|?_;cases H;exact Mb h
 refine dg (dF c1) [11,12] [Z O,dH (O>=16)]<|oC (dF c1) (dH (O>=16))<|G<|dW H (λc2 H=>?_) λc2 H=>?_
 ·refine aL dk<|bW<|tr<|?_;cases H;exact Mb h
 refine gq<|ks<|gf H λr3 e4 H=>ko kW<|fh (Dq e4 h :) λw h=>ko dk<|bW<|?_;cases H;exact Mb h
def lV(K:Nat)(O:cy)(aD:List aB)(Y:fC)(p2:ct):Option (fC):=
 (if p2.aN=0 then if bI p2.A 16 then some ({Y with rV:=mN 16 Y.rV p2.A.toNat p2.K})else none else(if p2.aN=1 then if bI p2.B 16 then if bI p2.A 16 then some ({Y with rV:=mN 16 Y.rV p2.A.toNat (J Y.rV p2.B.toNat)})else none else none else(if p2.aN=2 then if bI p2.B 16 then if bI p2.C 16 then tN (qW K p2.K (J Y.rV p2.B.toNat) (J Y.rV p2.C.toNat)) (λvx xS=>if bI p2.A 16 then some ({Y with rV:=mN 16 Y.rV p2.A.toNat vx})else none)else none else none else(if p2.aN=7 then if bI p2.B 8 then if bI p2.A 16 then some ({Y with rV:=mN 16 Y.rV p2.A.toNat (J Y.mQ p2.B.toNat)})else none else none else(if p2.aN=8 then if bI Y.Me O.bQ.length then if bI p2.A 16 then some ({Y with rV:=mN 16 Y.rV p2.A.toNat (J O.bQ Y.Me.toNat).Hh})else none else none else(if p2.aN=3 then some ({Y with At:=p2.A})else(if p2.aN=4 then if bI p2.A 16 then(if(J Y.rV p2.A.toNat)=0 then some Y else some ({Y with At:=p2.B}))else none else some Y)))))))
theorem zN(H:lV K O aD Y p2=some q1)(h:iQ z (DP B0 O (be aO aD.length bt) jx jB::As jx jB O.bQ::DQ B1 Y::L) w)(cP:yP L aO cK aD) :
 nK 145 #[pA B0 0,pA B1 0,gZ p2] w z (.tuple #[]) (DP B0 O (be aO aD.length bt) jx jB::As jx jB O.bQ::DQ B1 q1::L):=by
 unfold lV at H;refine ke func145 120 rfl λj=>ks<|kN h (lW p2) 146 λb3 w h=>G<|aL [U]<|kL h 0<|G<|wb<|aL [vB (p2.aN==0),vB (p2.aN==0)]<|G<|dW H (λc4 H=>?_) λc4 H=>?_
 ·refine qg H λc5 H=>mP [(b3,1,[Z p2.A]),(b3,4,[Z p2.K])] [1,3,5,6] 9 h (λh=>⟨⟨h.cell 1 rfl,bP⟩,⟨h.cell 4 rfl,bP⟩,bP⟩) λw h hd =>lY hd 4 12 [([0,5],pA B1 0),([1],pA b3 1),([3],pA b3 4),([6],pA B1 2)]<|eY hd 0 3 2 rfl<|eY hd 1 2 4 rfl<|ny hd 1 7 rfl (pA B1 (2+p2.A.toNat*1)) (λw=>uY (k:=.i64) (E:=2) (N:=16) rfl aZ aZ aZ aZ c5)<|λ_ r=>lD 8 rfl<|qh h.m3 λh=>tF (C:=[Z Y.Me,Z Y.iv]++eH 16 aH Y.rV++eH 8 aH Y.mQ++[Z Y.At,Z Y.eA,Z Y.End,Z Y.Kids]) (C':=[Z Y.Me,Z Y.iv]++eH 16 aH (mN 16 Y.rV p2.A.toNat p2.K)++eH 8 aH Y.mQ++[Z Y.At,Z Y.eA,Z Y.End,Z Y.Kids]) (v:=Z p2.K) (wn rfl) rfl r rfl aZ aZ rfl rfl aZ h (oP (f:=0) (pre:=[Z Y.Me,Z Y.iv]) (post:=eH 8 aH Y.mQ++[Z Y.At,Z Y.eA,Z Y.End,Z Y.Kids]) rfl aG rfl (lz c5) rfl) (uG (y:=p2.K) (pre:=[Z Y.Me,Z Y.iv]) (post:=eH 8 aH Y.mQ++[Z Y.At,Z Y.eA,Z Y.End,Z Y.Kids]) rfl aG rfl (lz c5) rfl rfl) λw h=>qq r<|G<|mA<|mT<|bn<|?_;cases H;exact Il (h.se 4 [2,3,0])
 refine aL [vB (p2.aN==1),vB (p2.aN==1)]<|G<|dW H (λc6 H=>?_) λc6 H=>?_
 ·refine qg H λc7 H=>qg H λc8 H=>mP [(b3,1,[Z p2.A]),(b3,2,[Z p2.B]),(B1,2+p2.B.toNat*1,[Z (J Y.rV p2.B.toNat)])] [1,4,6,7,8,10,11] 14 h (λh=>⟨⟨h.cell 1 rfl,bP⟩,⟨h.cell 2 rfl,bP⟩,⟨(h.pick 3).cell (2+p2.B.toNat*1) (W8 (oP (C:=[Z Y.Me,Z Y.iv]++eH 16 aH Y.rV++eH 8 aH Y.mQ++[Z Y.At,Z Y.eA,Z Y.End,Z Y.Kids]) (f:=0) (pre:=[Z Y.Me,Z Y.iv]) (post:=eH 8 aH Y.mQ++[Z Y.At,Z Y.eA,Z Y.End,Z Y.Kids]) rfl aG rfl (lz c7) rfl)),bP⟩,bP⟩) λw h hd =>lY hd 6 22 [([0,3,6,10],pA B1 0),([1],pA b3 1),([4],pA b3 2),([7,11],pA B1 2)]<|eY hd 0 5 2 rfl<|eY hd 1 4 5 rfl<|ny hd 3 8 rfl (pA B1 (2+p2.B.toNat*1)) (λw=>uY (k:=.i64) (E:=2) (N:=16) rfl aZ aZ aZ aZ c7)<|eY hd 2 2 9 rfl<|ny hd 1 12 rfl (pA B1 (2+p2.A.toNat*1)) (λw=>uY (k:=.i64) (E:=2) (N:=16) rfl aZ aZ aZ aZ c8)<|λ_ r=>lD 13 rfl<|qh h.m3 λh=>tF (C:=[Z Y.Me,Z Y.iv]++eH 16 aH Y.rV++eH 8 aH Y.mQ++[Z Y.At,Z Y.eA,Z Y.End,Z Y.Kids]) (C':=[Z Y.Me,Z Y.iv]++eH 16 aH (mN 16 Y.rV p2.A.toNat (J Y.rV p2.B.toNat))++eH 8 aH Y.mQ++[Z Y.At,Z Y.eA,Z Y.End,Z Y.Kids]) (v:=Z (J Y.rV p2.B.toNat)) (wn rfl) rfl r rfl aZ aZ rfl rfl aZ h (oP (f:=0) (pre:=[Z Y.Me,Z Y.iv]) (post:=eH 8 aH Y.mQ++[Z Y.At,Z Y.eA,Z Y.End,Z Y.Kids]) rfl aG rfl (lz c8) rfl) (uG (y:=(J Y.rV p2.B.toNat)) (pre:=[Z Y.Me,Z Y.iv]) (post:=eH 8 aH Y.mQ++[Z Y.At,Z Y.eA,Z Y.End,Z Y.Kids]) rfl aG rfl (lz c8) rfl rfl) λw h=>qq r<|G<|mA<|mT<|bn<|?_;cases H;exact Il (h.se 4 [2,3,0])
 refine aL [vB (p2.aN==2),vB (p2.aN==2)]<|G<|dW H (λc9 H=>?_) λc9 H=>?_
 ·refine wq<|qg H λoO H=>qg H λu6 H=>xB H λvx xS Iz H=>mP [(b3,4,[Z p2.K]),(b3,2,[Z p2.B]),(B1,2+p2.B.toNat*1,[Z (J Y.rV p2.B.toNat)]),(b3,3,[Z p2.C]),(B1,2+p2.C.toNat*1,[Z (J Y.rV p2.C.toNat)])] [0,3,5,6,7,10,12,13,14] 22 h (λh=>⟨⟨h.cell 4 rfl,bP⟩,⟨h.cell 2 rfl,bP⟩,⟨(h.pick 3).cell (2+p2.B.toNat*1) (W8 (oP (C:=[Z Y.Me,Z Y.iv]++eH 16 aH Y.rV++eH 8 aH Y.mQ++[Z Y.At,Z Y.eA,Z Y.End,Z Y.Kids]) (f:=0) (pre:=[Z Y.Me,Z Y.iv]) (post:=eH 8 aH Y.mQ++[Z Y.At,Z Y.eA,Z Y.End,Z Y.Kids]) rfl aG rfl (lz oO) rfl)),bP⟩,⟨h.cell 3 rfl,bP⟩,⟨(h.pick 3).cell (2+p2.C.toNat*1) (W8 (oP (C:=[Z Y.Me,Z Y.iv]++eH 16 aH Y.rV++eH 8 aH Y.mQ++[Z Y.At,Z Y.eA,Z Y.End,Z Y.Kids]) (f:=0) (pre:=[Z Y.Me,Z Y.iv]) (post:=eH 8 aH Y.mQ++[Z Y.At,Z Y.eA,Z Y.End,Z Y.Kids]) rfl aG rfl (lz u6) rfl)),bP⟩,bP⟩) λw h hd =>lY hd 13 38 [([0],pA b3 4),([2,5,9,12],pA B1 0),([3],pA b3 2),([6,13],pA B1 2),([10],pA b3 3)]<|eY hd 0 12 1 rfl<|eY hd 1 11 4 rfl<|ny hd 10 7 rfl (pA B1 (2+p2.B.toNat*1)) (λw=>uY (k:=.i64) (E:=2) (N:=16) rfl aZ aZ aZ aZ oO)<|eY hd 2 9 8 rfl<|eY hd 3 8 11 rfl<|ny hd 7 14 rfl (pA B1 (2+p2.C.toNat*1)) (λw=>uY (k:=.i64) (E:=2) (N:=16) rfl aZ aZ aZ aZ u6)<|eY hd 4 6 15 rfl<|lJ 16 rfl<|fh (CK Iz h :) λw h=>G<|mA<|iM 4 17 rfl (.tuple #[Z vx,Z xS])<|iM 3 18 rfl (Z vx)<|iM 2 19 rfl (Z xS)<|iM 1 20 rfl (Z vx)<|iM 0 21 rfl (Z xS)<|mT<|tn<|qg H λpJ H=>mP [(b3,1,[Z p2.A])] [1,4,5] 8 h (λh=>⟨⟨h.cell 1 rfl,bP⟩,bP⟩) λw h hd =>lY hd 3 57 [([0,4],pA B1 0),([1],pA b3 1),([3],Z vx),([5],pA B1 2)]<|eY hd 0 2 2 rfl<|ny hd 1 6 rfl (pA B1 (2+p2.A.toNat*1)) (λw=>uY (k:=.i64) (E:=2) (N:=16) rfl aZ aZ aZ aZ pJ)<|λ_ r=>lD 7 rfl<|qh h.m3 λh=>tF (C:=[Z Y.Me,Z Y.iv]++eH 16 aH Y.rV++eH 8 aH Y.mQ++[Z Y.At,Z Y.eA,Z Y.End,Z Y.Kids]) (C':=[Z Y.Me,Z Y.iv]++eH 16 aH (mN 16 Y.rV p2.A.toNat vx)++eH 8 aH Y.mQ++[Z Y.At,Z Y.eA,Z Y.End,Z Y.Kids]) (v:=Z vx) (wn rfl) rfl r rfl aZ aZ rfl rfl aZ h (oP (f:=0) (pre:=[Z Y.Me,Z Y.iv]) (post:=eH 8 aH Y.mQ++[Z Y.At,Z Y.eA,Z Y.End,Z Y.Kids]) rfl aG rfl (lz pJ) rfl) (uG (y:=vx) (pre:=[Z Y.Me,Z Y.iv]) (post:=eH 8 aH Y.mQ++[Z Y.At,Z Y.eA,Z Y.End,Z Y.Kids]) rfl aG rfl (lz pJ) rfl rfl) λw h=>qq r<|G<|mA<|mT<|bn<|?_;cases H;exact Il (h.se 4 [2,3,0])
 refine aL [vB (p2.aN==7),vB (p2.aN==7)]<|G<|dW H (λu7 H=>?_) λu7 H=>?_
 ·refine qg H λyd H=>qg H λAO H=>mP [(b3,1,[Z p2.A]),(b3,2,[Z p2.B]),(B1,18+p2.B.toNat*1,[Z (J Y.mQ p2.B.toNat)])] [1,4,6,7,8,10,11] 14 h (λh=>⟨⟨h.cell 1 rfl,bP⟩,⟨h.cell 2 rfl,bP⟩,⟨(h.pick 3).cell (18+p2.B.toNat*1) (W8 (oP (C:=[Z Y.Me,Z Y.iv]++eH 16 aH Y.rV++eH 8 aH Y.mQ++[Z Y.At,Z Y.eA,Z Y.End,Z Y.Kids]) (f:=0) (pre:=[Z Y.Me,Z Y.iv]++eH 16 aH Y.rV) (post:=[Z Y.At,Z Y.eA,Z Y.End,Z Y.Kids]) rfl aG rfl (lz yd) rfl)),bP⟩,bP⟩) λw h hd =>lY hd 6 66 [([0,3,6,10],pA B1 0),([1],pA b3 1),([4],pA b3 2),([7],pA B1 18),([11],pA B1 2)]<|eY hd 0 5 2 rfl<|eY hd 1 4 5 rfl<|ny hd 3 8 rfl (pA B1 (18+p2.B.toNat*1)) (λw=>uY (k:=.i64) (E:=2) (N:=8) rfl aZ aZ aZ aZ yd)<|eY hd 2 2 9 rfl<|ny hd 1 12 rfl (pA B1 (2+p2.A.toNat*1)) (λw=>uY (k:=.i64) (E:=2) (N:=16) rfl aZ aZ aZ aZ AO)<|λ_ r=>lD 13 rfl<|qh h.m3 λh=>tF (C:=[Z Y.Me,Z Y.iv]++eH 16 aH Y.rV++eH 8 aH Y.mQ++[Z Y.At,Z Y.eA,Z Y.End,Z Y.Kids]) (C':=[Z Y.Me,Z Y.iv]++eH 16 aH (mN 16 Y.rV p2.A.toNat (J Y.mQ p2.B.toNat))++eH 8 aH Y.mQ++[Z Y.At,Z Y.eA,Z Y.End,Z Y.Kids]) (v:=Z (J Y.mQ p2.B.toNat)) (wn rfl) rfl r rfl aZ aZ rfl rfl aZ h (oP (f:=0) (pre:=[Z Y.Me,Z Y.iv]) (post:=eH 8 aH Y.mQ++[Z Y.At,Z Y.eA,Z Y.End,Z Y.Kids]) rfl aG rfl (lz AO) rfl) (uG (y:=(J Y.mQ p2.B.toNat)) (pre:=[Z Y.Me,Z Y.iv]) (post:=eH 8 aH Y.mQ++[Z Y.At,Z Y.eA,Z Y.End,Z Y.Kids]) rfl aG rfl (lz AO) rfl rfl) λw h=>qq r<|G<|mA<|mT<|bn<|?_;cases H;exact Il (h.se 4 [2,3,0])
 refine aL [vB (p2.aN==8),vB (p2.aN==8)]<|G<|dW H (λs6 H=>?_) λs6 H=>?_
 ·refine qg H λmW H=>qg H λsy H=>mP [(b3,1,[Z p2.A]),(B0,3,[be jx O.bQ.length jB]),(B1,0,[Z Y.Me]),(dQ jx,Y.Me.toNat*7+4,[Z (J O.bQ Y.Me.toNat).Hh])] [1,4,5,8,9,11,12,14,15] 18 h (λh=>⟨⟨h.cell 1 rfl,bP⟩,⟨(h.pick 1).cell 3 rfl,bP⟩,⟨(h.pick 3).cell 0 rfl,bP⟩,⟨(h.pick 2).cG ou (f:=4) (bl mW) rfl,bP⟩,bP⟩) λw h hd =>lY hd 8 81 [([0,7,8,9,14],pA B1 0),([1],pA b3 1),([3,4],pA B0 0),([5],pA B0 3),([15],pA B1 2)]<|eY hd 0 7 2 rfl<|eY hd 1 6 6 rfl<|eY hd 2 5 10 rfl<|ny hd 4 11 rfl (pA (dQ jx) (Y.Me.toNat*7)) (λw=>ud 190 rfl (h.pick 2) mW)<|mz hd 3 [(12,93,pA (dQ jx) (Y.Me.toNat*7+4))]<|eY hd 3 2 13 rfl<|ny hd 1 16 rfl (pA B1 (2+p2.A.toNat*1)) (λw=>uY (k:=.i64) (E:=2) (N:=16) rfl aZ aZ aZ aZ sy)<|λ_ r=>lD 17 rfl<|qh h.m3 λh=>tF (C:=[Z Y.Me,Z Y.iv]++eH 16 aH Y.rV++eH 8 aH Y.mQ++[Z Y.At,Z Y.eA,Z Y.End,Z Y.Kids]) (C':=[Z Y.Me,Z Y.iv]++eH 16 aH (mN 16 Y.rV p2.A.toNat (J O.bQ Y.Me.toNat).Hh)++eH 8 aH Y.mQ++[Z Y.At,Z Y.eA,Z Y.End,Z Y.Kids]) (v:=Z (J O.bQ Y.Me.toNat).Hh) (wn rfl) rfl r rfl aZ aZ rfl rfl aZ h (oP (f:=0) (pre:=[Z Y.Me,Z Y.iv]) (post:=eH 8 aH Y.mQ++[Z Y.At,Z Y.eA,Z Y.End,Z Y.Kids]) rfl aG rfl (lz sy) rfl) (uG (y:=(J O.bQ Y.Me.toNat).Hh) (pre:=[Z Y.Me,Z Y.iv]) (post:=eH 8 aH Y.mQ++[Z Y.At,Z Y.eA,Z Y.End,Z Y.Kids]) rfl aG rfl (lz sy) rfl rfl) λw h=>qq r<|G<|mA<|mT<|bn<|?_;cases H;exact Il (h.se 4 [2,3,0])
 refine aL [vB (p2.aN==3),vB (p2.aN==3)]<|G<|dW H (λFG H=>?_) λFG H=>?_
 ·refine wl<|ko dk<|kL h 1<|ko dk<|qh h.m3 λh=>kS h 26 (DQ B1 {Y with At:=p2.A}) λw h=>kl<|bn<|?_;cases H;exact Il (h.se 4 [2,3,0])
 refine aL [vB (p2.aN==4),vB (p2.aN==4)]<|G<|dW H (λAU H=>?_) λAU H=>?_
 ·refine wq<|qg H λvh H=>mP [(b3,1,[Z p2.A]),(B1,2+p2.A.toNat*1,[Z (J Y.rV p2.A.toNat)])] [1,3,4,5] 8 h (λh=>⟨⟨h.cell 1 rfl,bP⟩,⟨(h.pick 3).cell (2+p2.A.toNat*1) (W8 (oP (C:=[Z Y.Me,Z Y.iv]++eH 16 aH Y.rV++eH 8 aH Y.mQ++[Z Y.At,Z Y.eA,Z Y.End,Z Y.Kids]) (f:=0) (pre:=[Z Y.Me,Z Y.iv]) (post:=eH 8 aH Y.mQ++[Z Y.At,Z Y.eA,Z Y.End,Z Y.Kids]) rfl aG rfl (lz vh) rfl)),bP⟩,bP⟩) λw h hd =>lY hd 4 107 [([0,3],pA B1 0),([1],pA b3 1),([4],pA B1 2)]<|eY hd 0 3 2 rfl<|ny hd 2 5 rfl (pA B1 (2+p2.A.toNat*1)) (λw=>uY (k:=.i64) (E:=2) (N:=16) rfl aZ aZ aZ aZ vh)<|eY hd 1 1 6 rfl<|mz hd 0 [(7,114,vB ((J Y.rV p2.A.toNat) != 0))]<|mT<|tn<|rD H (λyM H=>?_) λyM H=>?_
  ·refine wk<|bn<|?_;cases H;exact Il (h.se 4 [1,2,3])
  refine wl<|ko dk<|kL h 2<|ko dk<|qh h.m3 λh=>kS h 26 (DQ B1 {Y with At:=p2.B}) λw h=>kl<|bn<|?_;cases H;exact Il (h.se 4 [2,3,0])
 refine wk<|bn<|?_;cases H;exact Il (h.se 4 [1,2,3])
def iz(K:Nat)(p2:List Int):Nat->(List Int)->Int->Option ((List Int))
 | 0,_,_=>none
 | k1+1,l9,GH=>(if GH<((p2.length:Nat):Int)then if bI GH p2.length then if bI GH 16 then(iz K p2 k1 (mN 16 l9 GH.toNat (J p2 GH.toNat)) (wi (GH+1)))else none else none else some l9)
def iA(K:Nat)(aD:List aB)(Y:gi)(de:fC):Nat->(List Int)->Int->Option ((List Int))
 | 0,_,_=>none
 | k3+1,xk,Jh=>if bI (J (J aD Y.Func.toNat).ai de.At.toNat).B aD.length then(if Jh<(J aD (J (J aD Y.Func.toNat).ai de.At.toNat).B.toNat).aS then if bI (wi ((J (J aD Y.Func.toNat).ai de.At.toNat).C+Jh)) 16 then if(xk.length+1)*8<=140737488355328 then(iA K aD Y de k3 (xk++[(J de.rV (wi ((J (J aD Y.Func.toNat).ai de.At.toNat).C+Jh)).toNat)]) (wi (Jh+1)))else none else none else some xk)else none
def dB(K:Nat)(aD:List aB)(Y:gi)(Wa:cy->(List aB)->gi->(List Int)->Int->Option (Int×Int×cy)):Nat->cy->fC->Option (Int×Int×cy)
 | 0,_,_=>none
 | k2+1,j9,de=>(if j9.zO=0 then(if j9.Left=0 then some (0,0,{j9 with zO:=62})else if bI Y.Func aD.length then if bI de.At (J aD Y.Func.toNat).ai.length then if bI de.Me j9.bQ.length then(if(J (J aD Y.Func.toNat).ai de.At.toNat).aN=5 then(if de.iv>=4096 then(dB K aD Y Wa k2 (⟨wi (j9.Left-1),63,j9.bQ.set de.Me.toNat ({J j9.bQ de.Me.toNat with mK:=wi ((J j9.bQ de.Me.toNat).mK+1)}),j9.Deep⟩:cy) ({de with At:=wi (de.At+1),eA:=wi (de.eA+1)}))else ei ((iA K aD Y de K ([]:List Int) 0)) (λl41=>if bI de.Me (j9.bQ.set de.Me.toNat ({J j9.bQ de.Me.toNat with mK:=wi ((J j9.bQ de.Me.toNat).mK+1)})).length then ei (uM (J (j9.bQ.set de.Me.toNat ({J j9.bQ de.Me.toNat with mK:=wi ((J j9.bQ de.Me.toNat).mK+1)})) de.Me.toNat).Hh de.Kids) (λWD=>qd (Wa ({j9 with Left:=wi (j9.Left-1),bQ:=j9.bQ.set de.Me.toNat ({J j9.bQ de.Me.toNat with mK:=wi ((J j9.bQ de.Me.toNat).mK+1)})}) aD (⟨de.Me,de.Kids,(J (J aD Y.Func.toNat).ai de.At.toNat).B,0,WD,0,0⟩:gi) l41 (wi (de.iv+1))) (λEr DJ QK=>if bI (J (J aD Y.Func.toNat).ai de.At.toNat).A 8 then(dB K aD Y Wa k2 QK (⟨de.Me,de.iv,de.rV,mN 8 de.mQ (J (J aD Y.Func.toNat).ai de.At.toNat).A.toNat Er,wi (de.At+1),wi (de.eA+1),if(wi ((wi (de.eA+1))+DJ))>de.End then(wi ((wi (de.eA+1))+DJ))else de.End,wi (de.Kids+1)⟩:fC))else none))else none))else(if(J (J aD Y.Func.toNat).ai de.At.toNat).aN=6 then(dB K aD Y Wa k2 ({j9 with Left:=wi (j9.Left-1),bQ:=j9.bQ.set de.Me.toNat ({J j9.bQ de.Me.toNat with mK:=wi ((J j9.bQ de.Me.toNat).mK+1)})}) ({de with At:=wi (de.At+1),eA:=wi ((if de.End>de.eA then de.End else de.eA)+1),End:=0}))else(if(J (J aD Y.Func.toNat).ai de.At.toNat).aN=9 then if bI (J (J aD Y.Func.toNat).ai de.At.toNat).A 16 then if bI de.Me (j9.bQ.set de.Me.toNat ({J j9.bQ de.Me.toNat with mK:=wi ((J j9.bQ de.Me.toNat).mK+1)})).length then some ((J de.rV (J (J aD Y.Func.toNat).ai de.At.toNat).A.toNat),wi (de.eA+1),{j9 with Left:=wi (j9.Left-1),bQ:=(j9.bQ.set de.Me.toNat ({J j9.bQ de.Me.toNat with mK:=wi ((J j9.bQ de.Me.toNat).mK+1)})).set de.Me.toNat ({{J j9.bQ de.Me.toNat with mK:=wi ((J j9.bQ de.Me.toNat).mK+1)}with V:=(J de.rV (J (J aD Y.Func.toNat).ai de.At.toNat).A.toNat)})})else none else none else ei (lV K ({j9 with Left:=wi (j9.Left-1),bQ:=j9.bQ.set de.Me.toNat ({J j9.bQ de.Me.toNat with mK:=wi ((J j9.bQ de.Me.toNat).mK+1)})}) aD ({de with At:=wi (de.At+1),eA:=wi (de.eA+1)}) (J (J aD Y.Func.toNat).ai de.At.toNat)) (λO9=>(dB K aD Y Wa k2 ({j9 with Left:=wi (j9.Left-1),bQ:=j9.bQ.set de.Me.toNat ({J j9.bQ de.Me.toNat with mK:=wi ((J j9.bQ de.Me.toNat).mK+1)})}) O9)))))else none else none else none)else some (0,0,j9))
def fW(K:Nat):Nat->(cy->(List aB)->gi->(List Int)->Int->Option (Int×Int×cy))
 | 0=>λ_ _ _ _ _=>none
 | d+1=>λO aD Y p2 p3 =>
 ei ((iz K p2 K (List.replicate 16 (0:Int)) 0)) (λl6=>if bI (0:Int) 16 then ei ((if((p2.length:Nat):Int)=0 then some 0 else some (J l6 0))) (λRv=>if(O.bQ.length+1)*56<=140737488355328 then(dB K aD Y (fW K d) K ({O with bQ:=O.bQ++[{Y with Arg:=Rv}],Deep:=if p3>O.Deep then p3 else O.Deep}) (⟨((O.bQ.length:Nat):Int),p3,l6,(List.replicate 8 (0:Int)),0,0,0,0⟩:fC))else none)else none)
def oe(K:Nat)(O:cy)(aD:List aB)(Y:gi)(p2:List Int)(p3:Int):Option (Int×Int×cy):=fW K K O aD Y p2 p3
abbrev WL:List Value:=[Z 0,Z 0,Z 0,Z 0]
abbrev Wb (B:Nat) (S:cy) (k0:Value) (a3:fP) (c3:Nat) (q:Nat):bj:=pts B (.cells #[k0,Z S.Left,Z S.zO,.slice a3 q c3,Z S.Deep] 186)
theorem yV :∀(d:Nat) {L:List bj} {z w:World} {O q0:cy} {aD:List aB} {Y:gi} {p2:List Int} {p3 r0 r1:Int} {B0 bt jB xh:Nat} {aO jx vA:fP} {cK:Nat->Option Addr×Nat} (H:fW K d O aD Y p2 p3=some (r0,r1,q0)) (h:iQ z (DP B0 O (be aO aD.length bt) jx jB::As jx jB O.bQ::L) w) (cP:yP L aO cK aD) (BT:bJ L 1 aH vA p2),Calls Tryz.prog 99 #[pA B0 0,DN Y,be vA p2.length xh,Z p3] w λe w=>∃x1 x2,e=.returned (.tuple #[Z r0,Z r1])/\Fit z (aC (DP B0 q0 (be aO aD.length bt) x1 x2::As x1 x2 q0.bQ::L)) w:=by
 intro d;induction d with
 | zero=>intro L z w O q0 aD Y p2 p3 r0 r1 B0 bt jB xh aO jx vA cK H h cP BT;exact absurd H (by simp[fW])
 | succ d ih =>
  intro L z w O q0 aD Y p2 p3 r0 r1 B0 bt jB xh aO jx vA cK H h cP BT;rw[fW]at H;replace H:=H;refine ke func99 191 rfl λj=>ks<|kN h (s5 Y) 190 λb4 w h=>ko dk<|G<|aL kW<|kL (h.pick 1) 3<|ko [Z ((O.bQ.length:Nat):Int),U,U]<|kN h (([Z ((O.bQ.length:Nat):Int),Z p3]++eH 16 aH (List.replicate 16 (0:Int))++eH 8 aH (List.replicate 8 (0:Int))++WL).toArray) 222 λb5 w h=>bR<|G<|El H λo8 H Ld=>λ_ r=>dh (β:=Unit) (λ_ a w=>∃l6:List Int,l6=o8/\∃j,kX 191 (lk [(0,pA B0 0),(2,be vA p2.length xh),(3,Z p3),(5,pA b4 0),(10,pA b5 0)] j) a/\Fit z (aC (DP B0 O (be aO aD.length bt) jx jB::As jx jB O.bQ::Rj b4 Y::gh b5 (([Z ((O.bQ.length:Nat):Int),Z p3]++eH 16 aH l6++eH 8 aH (List.replicate 8 (0:Int))++WL).toArray) 222::L)) w) ?_ ?_
  ·refine qq r<|ig<|wb<|λ_ r=>dz (β:=Nat) id (λm a w=>∃l9:List Int,∃GH:Int,(iz K p2 m l9 GH)=some o8/\∃j,kX 191 (lk [(0,pA B0 0),(2,be vA p2.length xh),(3,Z p3),(5,pA b4 0),(10,pA b5 0),(11,Z GH)] j) a/\Fit z (aC (DP B0 O (be aO aD.length bt) jx jB::As jx jB O.bQ::Rj b4 Y::gh b5 (([Z ((O.bQ.length:Nat):Int),Z p3]++eH 16 aH l9++eH 8 aH (List.replicate 8 (0:Int))++WL).toArray) 222::L)) w) K ⟨(List.replicate 16 (0:Int)),0,H,r.fj (h.se 4 [2,3,1,0])⟩<|?_;clear h r H;rintro k1 a w ⟨l9,GH,H,j,r,h⟩;cases k1 with
   | zero=>exact absurd H (by simp[iz])
   | succ k1 =>
    rw[iz]at H;refine qq r<|wq<|aL [U,U,Z ((p2.length:Nat):Int),dH (GH<((p2.length:Nat):Int))]<|G<|dW H (λu6 H=>?_) λu6 H=>?_
    ·refine gq<|wq<|wb<|qg H λD5 H=>qg H λxQ H=>mP [(dQ vA,jl vA+GH.toNat*1,[Z (J p2 GH.toNat)])] [4,6,7] 10 h (λh=>⟨⟨BT.cell D5 (h.dn 4) 0 rfl,bP⟩,bP⟩) λw h hd =>mz hd 6 [(0,28,pA b5 0),(1,29,Z GH),(2,30,be vA p2.length xh),(3,31,Z GH)]<|ny hd 5 4 rfl (pA (dQ vA) (jl vA+GH.toNat*1)) (λw=>EK 2 xh rfl rfl BT D5)<|mz hd 3 [(6,34,pA b5 0),(7,35,pA b5 2)]<|eY hd 0 2 5 rfl<|ny hd 1 8 rfl (pA b5 (2+GH.toNat*1)) (λw=>uY (k:=.i64) (E:=2) (N:=16) rfl aZ aZ aZ aZ xQ)<|λ_ r=>lD 9 rfl<|qh h.m3 λh=>tF (C:=[Z ((O.bQ.length:Nat):Int),Z p3]++eH 16 aH l9++eH 8 aH (List.replicate 8 (0:Int))++WL) (C':=[Z ((O.bQ.length:Nat):Int),Z p3]++eH 16 aH (mN 16 l9 GH.toNat (J p2 GH.toNat))++eH 8 aH (List.replicate 8 (0:Int))++WL) (v:=Z (J p2 GH.toNat)) (wn rfl) rfl r rfl aZ aZ rfl rfl aZ h (oP (f:=0) (pre:=[Z ((O.bQ.length:Nat):Int),Z p3]) (post:=eH 8 aH (List.replicate 8 (0:Int))++WL) rfl aG rfl (lz xQ) rfl) (uG (y:=(J p2 GH.toNat)) (pre:=[Z ((O.bQ.length:Nat):Int),Z p3]) (post:=eH 8 aH (List.replicate 8 (0:Int))++WL) rfl aG rfl (lz xQ) rfl rfl) λw h=>qq r<|G<|mA<|mT<|bn<|tn<|wl<|ko [U,Z (wi (GH+1)),Z (wi (GH+1))]<|G<|?_;exact λ_ r=>⟨_,⟨(mN 16 l9 GH.toNat (J p2 GH.toNat)),(wi (GH+1)),H,r.fj (h.se 4 [1,2,3,0])⟩,iI _⟩
    refine wx<|te<|te<|bh<|tn<|?_;exact λ_ r=>⟨(),l9,gE H,r.fj h⟩
  clear h r;rintro _ a w ⟨l6,rfl,j,r,h⟩;replace H:=Ek Ld;refine qq r<|ks<|qg H λxg H=>ko kW<|kp (pA b5 (2+0*1)) (uY (i:=(0:Int)) (k:=.i64) (E:=2) (N:=16) rfl aZ aZ aZ aZ xg)<|zu (Z (J l6 0)) ((h.pick 3).cell (2+0*1) (W8 (oP (C:=[Z ((O.bQ.length:Nat):Int),Z p3]++eH 16 aH l6++eH 8 aH (List.replicate 8 (0:Int))++WL) (f:=0) (pre:=[Z ((O.bQ.length:Nat):Int),Z p3]) (post:=eH 8 aH (List.replicate 8 (0:Int))++WL) rfl aG rfl (lz xg) rfl)))<|?_;refine bR<|qh h.m2 λh=>kS h 5 (Rj b4 {Y with Arg:=(J l6 0)}) λw h=>G<|El H λTu H G2=>λ_ r=>dh (β:=Unit) (λ_ a w=>∃Rv:Int,Rv=Tu/\∃j,kX 191 (lk [(0,pA B0 0),(3,Z p3),(5,pA b4 0),(10,pA b5 0)] j) a/\Fit z (aC (DP B0 O (be aO aD.length bt) jx jB::As jx jB O.bQ::gh b4 (s5 {Y with Arg:=Rv}) 190::gh b5 (([Z ((O.bQ.length:Nat):Int),Z p3]++eH 16 aH l6++eH 8 aH (List.replicate 8 (0:Int))++WL).toArray) 222::L)) w) ?_ ?_
  ·refine qq r<|aL [U,Z ((p2.length:Nat):Int),vB (((p2.length:Nat):Int)==0)]<|G<|dW H (λAO H=>?_) λAO H=>?_
   ·refine wl<|bR<|kS h 5 (Rj b4 {Y with Arg:=0}) λw h=>G<|?_;exact λ_ r=>⟨(),0,gE H,r.fj (h.se 4 [1,2,0,3])⟩
   refine gq<|?_;exact λ_ r=>⟨(),(J l6 0),gE H,r.fj (h.se 4 [1,2,0,3])⟩
  clear h r;rintro _ a w ⟨Rv,rfl,j,r,h⟩;replace H:=Ek G2;refine qq r<|wq<|qg H λFG H=>mP [(B0,3,[be jx O.bQ.length jB]),(b4,0,J4 {Y with Arg:=Rv})] [2,3] 11 h (λh=>⟨⟨h.cell 3 rfl,bP⟩,((h.pick 2).held 0 rfl),bP⟩) λw h hd =>lY hd 7 47 [([0,1,2],pA B0 0),([3],pA B0 3)]<|eY hd 0 6 4 rfl<|xP hd 1 5 5 rfl rfl<|lJ 6 rfl<|kV h (s5 {Y with Arg:=Rv}) 190 λb19 w h=>G<|λ_ r=>xE<|lD 7 rfl<|qh h.m2 λh=>j8 (n0:=O.bQ.length) (c:=1) (bytes:=56) (wn rfl) rfl rfl r rfl aZ aZ ou (E:=190) (xs:=O.bQ) aZ aZ h (news:=[{Y with Arg:=Rv}]) (m:=1) rfl ((h.pick 1).news rfl) FG rfl λaa6 aa7 w _ h r=>qq r<|G<|mA<|iM 2 8 rfl (pA B0 0)<|iM 1 9 rfl (pA B0 3)<|lJ 10 rfl<|qh h.m2 λh=>kS h 3 (Wb B0 O (be aO aD.length bt) aa6 aa7 ((O.bQ++[{Y with Arg:=Rv}]).length)) λw h=>G<|mA<|mT<|tn<|aL xR<|kL h 4<|ko [U,Z (if p3>O.Deep then p3 else O.Deep),U,U]<|kS h 4 (gh B0 #[be aO aD.length bt,Z O.Left,Z O.zO,be aa6 (O.bQ++[{Y with Arg:=Rv}]).length aa7,Z (if p3>O.Deep then p3 else O.Deep)] 186) λw h=>G<|wq<|wb<|λ_ r=>dz (β:=Nat) id (λm a w=>∃uQ:fP,∃xT:Nat,∃j9:cy,∃de:fC,(dB K aD Y (fW K d) m j9 de)=some (r0,r1,q0)/\∃j,kX 191 (lk [(0,pA B0 0),(5,pA b4 0),(10,pA b5 0)] j) a/\Fit z (aC (DP B0 j9 (be aO aD.length bt) uQ xT::As uQ xT j9.bQ::gh b4 (s5 {Y with Arg:=Rv}) 190::DQ b5 de::L)) w) K ⟨aa6,aa7,({O with bQ:=O.bQ++[{Y with Arg:=Rv}],Deep:=if p3>O.Deep then p3 else O.Deep}),(⟨((O.bQ.length:Nat):Int),p3,l6,(List.replicate 8 (0:Int)),0,0,0,0⟩:fC),H,r.fj (h.se 5 [0,1,3,4])⟩<|?_;clear h r H;rintro k2 a w ⟨uQ,xT,j9,de,H,j,r,h⟩;cases k2 with
  | zero=>exact absurd H (by simp[dB])
  | succ k2 =>
   rw[dB]at H;refine qq r<|wq<|aL kW<|kL h 2<|ko [vB (j9.zO==0)]<|G<|dW H (λsP H=>?_) λsP H=>?_
   ·refine gq<|wb<|wq<|aL kW<|kL h 1<|ko [vB (j9.Left==0)]<|G<|dW H (λC8 H=>?_) λC8 H=>?_
    ·refine aL kW<|kS h 2 (gh B0 #[be aO aD.length bt,Z j9.Left,Z 62,be uQ j9.bQ.length xT,Z j9.Deep] 186) λw h=>G<|wx<|te<|λ_ r=>CM eC<|qq r<|te<|bh<|tn<|aL dk<|bW<|?_;cases H;exact xz2 uQ xT (h.se 4 [0,1])
    refine gq<|aL kW<|kL h 1<|ko [Z (wi (j9.Left-1)),U,U]<|kS h 1 (gh B0 #[be aO aD.length bt,Z (wi (j9.Left-1)),Z j9.zO,be uQ j9.bQ.length xT,Z j9.Deep] 186) λw h=>G<|wq<|qg H λAM H=>qg H λu3 H=>mP [(B0,0,[be aO aD.length bt]),(b4,2,[Z Y.Func]),(dQ aO,jl aO+Y.Func.toNat*4+3,[be ((cK Y.Func.toNat).1) (J aD Y.Func.toNat).ai.length ((cK Y.Func.toNat).2)]),(b5,26,[Z de.At]),(dQ ((cK Y.Func.toNat).1),jl ((cK Y.Func.toNat).1)+de.At.toNat*5,gI (J (J aD Y.Func.toNat).ai de.At.toNat))] [1,2,3,5,7,8,11,12,14] 18 h (λh=>⟨⟨h.cell 0 rfl,bP⟩,⟨(h.pick 2).cell 2 rfl,bP⟩,⟨cP.cell AM (h.dn 4) 3 rfl,bP⟩,⟨(h.pick 3).cell 26 rfl,bP⟩,⟨(cP.vp AM).cell u3 (h.dn 4) 0 rfl,(cP.vp AM).cell u3 (h.dn 4) 1 rfl,(cP.vp AM).cell u3 (h.dn 4) 2 rfl,(cP.vp AM).cell u3 (h.dn 4) 3 rfl,(cP.vp AM).cell u3 (h.dn 4) 4 rfl,bP⟩,bP⟩) λw h hd =>lY hd 10 86 [([0,1,2,3],pA B0 0),([5],pA b4 2),([10,11],pA b5 0),([12],pA b5 26)]<|eY hd 0 9 4 rfl<|eY hd 1 8 6 rfl<|ny hd 7 7 rfl (pA (dQ aO) (jl aO+Y.Func.toNat*4)) (λw=>C0 99 bt rfl rfl cP AM)<|mz hd 6 [(8,94,pA (dQ aO) (jl aO+Y.Func.toNat*4+3))]<|eY hd 2 5 9 rfl<|eY hd 3 4 13 rfl<|ny hd 3 14 rfl (pA (dQ ((cK Y.Func.toNat).1)) (jl ((cK Y.Func.toNat).1)+de.At.toNat*5)) (λw=>EK 146 ((cK Y.Func.toNat).2) rfl rfl (cP.vp AM) u3)<|xP hd 4 2 15 rfl rfl<|lJ 16 rfl<|kN h (C1) 146 λb31 w h=>G<|λ_ r=>xE<|lD 17 rfl<|qq r<|kA h (vS b31 (J (J aD Y.Func.toNat).ai de.At.toNat)) λw h=>G<|mA<|mT<|tn<|aL kW<|kL (h.pick 4) 26<|ko [Z (wi (de.At+1)),U,U]<|qh h.m4 λh=>kS h 26 (DQ b5 {de with At:=wi (de.At+1)}) λw h=>G<|aL kW<|kL h 27<|bR<|G<|aL kW<|kL h 27<|ko [Z (wi (de.eA+1)),U,U]<|kS h 27 (DQ b5 {de with At:=wi (de.At+1),eA:=wi (de.eA+1)}) λw h=>G<|wq<|qg H λFo H=>mP [(B0,3,[be uQ j9.bQ.length xT]),(b5,0,[Z de.Me]),(dQ uQ,de.Me.toNat*7+3,[Z (J j9.bQ de.Me.toNat).mK])] [1,2,5,6,8,9] 15 h (λh=>⟨⟨(h.pick 2).cell 3 rfl,bP⟩,⟨h.cell 0 rfl,bP⟩,⟨(h.pick 3).cG ou (f:=3) (bl Fo) rfl,bP⟩,bP⟩) λw h hd =>lY hd 9 120 [([0,1],pA B0 0),([2],pA B0 3),([4,5,6],pA b5 0)]<|eY hd 0 8 3 rfl<|eY hd 1 7 7 rfl<|ny hd 6 8 rfl (pA (dQ uQ) (de.Me.toNat*7)) (λw=>ud 190 rfl (h.pick 3) Fo)<|mz hd 5 [(9,129,pA (dQ uQ) (de.Me.toNat*7+3))]<|eY hd 2 4 10 rfl<|mz hd 3 [(11,131,Z (wi ((J j9.bQ de.Me.toNat).mK+1)))]<|ny hd 2 12 rfl (pA (dQ uQ) (de.Me.toNat*7)) (λw=>ud 190 rfl (h.pick 3) Fo)<|?_
    refine mz hd 1 [(13,133,pA (dQ uQ) (de.Me.toNat*7+3))]<|λ_ r=>lD 14 rfl<|qh h.m3 λh=>KX (wn rfl) r ou h de.Me.toNat 3 (Z (wi ((J j9.bQ de.Me.toNat).mK+1))) (J j9.bQ de.Me.toNat) ({J j9.bQ de.Me.toNat with mK:=wi ((J j9.bQ de.Me.toNat).mK+1)}) (bl Fo) λw h=>qq r<|G<|mA<|mT<|tn<|aL [U]<|kL (h.pick 2) 0<|G<|wb<|aL [vB ((J (J aD Y.Func.toNat).ai de.At.toNat).aN==5),vB ((J (J aD Y.Func.toNat).ai de.At.toNat).aN==5)]<|G<|dW H (λCl H=>?_) λCl H=>?_
    ·refine wl<|ko dk<|kM (h.pick 2)<|?_;intro _ r;refine Cd (wn rfl) rfl rfl r (f:=144) (args:=#[pA B0 0,pA b5 0,gZ (J (J aD Y.Func.toNat).ai de.At.toNat)]) aZ ?_;clear r;refine enter func144 rfl 112 rfl rfl [(0,pA B0 0),(1,pA b5 0),(2,gZ (J (J aD Y.Func.toNat).ai de.At.toNat))] ⟨aZ,aZ,aZ,bP⟩ ?_;intro j a r;refine qq r<|ks<|kN h (lW (J (J aD Y.Func.toNat).ai de.At.toNat)) 146 λTH w h=>G<|wq<|aL kW<|kL (h.pick 2) 1<|ko [dH (de.iv>=4096)]<|G<|dW H (λJA H=>?_) λJA H=>?_
     ·refine aL kW<|qh h.m4 λh=>kS h 2 (gh B0 #[be aO aD.length bt,Z (wi (j9.Left-1)),Z 63,be uQ j9.bQ.length xT,Z j9.Deep] 186) λw h=>bW<|tr<|λ_ r=>HV rfl r<|?_;refine⟨_,rfl,?_⟩;clear r;intro a r;refine qq r<|kl<|bn<|bn<|tn<|qh h.m2 λh=>?_;replace h:=h.KY (λq_=>gh B0 #[be aO aD.length bt,Z (wi (j9.Left-1)),Z 63,be uQ q_ xT,Z j9.Deep] 186);exact λ_ r=>⟨_,⟨uQ,xT,(⟨wi (j9.Left-1),63,j9.bQ.set de.Me.toNat ({J j9.bQ de.Me.toNat with mK:=wi ((J j9.bQ de.Me.toNat).mK+1)}),j9.Deep⟩:cy),({de with At:=wi (de.At+1),eA:=wi (de.eA+1)}),H,r.fj (h.se 6 [1,0,5,3])⟩,iI _⟩
     refine gq<|ig<|El H λo43 H af5=>λ_ r=>dh (β:=Unit) (λ_ a w=>∃P4:fP,∃Yz:Nat,∃Wc:fP,∃Wd:Nat,∃l41:List Int,l41=o43/\∃j,kX 112 (lk [(0,pA B0 0),(1,pA b5 0),(5,pA TH 0),(6,be Wc l41.length Wd)] j) a/\Fit z (aC (gh B0 #[be aO aD.length bt,Z (wi (j9.Left-1)),Z j9.zO,be P4 (j9.bQ.set de.Me.toNat ({J j9.bQ de.Me.toNat with mK:=wi ((J j9.bQ de.Me.toNat).mK+1)})).length Yz,Z j9.Deep] 186::As P4 Yz (j9.bQ.set de.Me.toNat ({J j9.bQ de.Me.toNat with mK:=wi ((J j9.bQ de.Me.toNat).mK+1)}))::gh b5 (vX {de with At:=wi (de.At+1),eA:=wi (de.eA+1)}) 222::vS TH (J (J aD Y.Func.toNat).ai de.At.toNat)::Xg Wc Wd l41::gh b4 (s5 {Y with Arg:=Rv}) 190::L)) w) ?_ ?_
     ·refine qq r<|ig<|wb<|qh h.m4.m2 λh=>?_;replace h:=h.KY (λq_=>gh B0 #[be aO aD.length bt,Z (wi (j9.Left-1)),Z j9.zO,be uQ q_ xT,Z j9.Deep] 186);replace h:=h.fM (e:=2) (sz:=1) (enc:=aH);refine λ_ r=>dz (β:=Nat) id (λm a w=>∃EN:fP,∃EO:Nat,∃vb:fP,∃xV:Nat,∃xk:List Int,∃Jh:Int,(iA K aD Y de m xk Jh)=some o43/\∃j,kX 112 (lk [(0,pA B0 0),(1,pA b5 0),(5,pA TH 0),(6,be vb xk.length xV),(7,Z Jh)] j) a/\Fit z (aC (gh B0 #[be aO aD.length bt,Z (wi (j9.Left-1)),Z j9.zO,be EN (j9.bQ.set de.Me.toNat ({J j9.bQ de.Me.toNat with mK:=wi ((J j9.bQ de.Me.toNat).mK+1)})).length EO,Z j9.Deep] 186::As EN EO (j9.bQ.set de.Me.toNat ({J j9.bQ de.Me.toNat with mK:=wi ((J j9.bQ de.Me.toNat).mK+1)}))::gh b5 (vX {de with At:=wi (de.At+1),eA:=wi (de.eA+1)}) 222::vS TH (J (J aD Y.Func.toNat).ai de.At.toNat)::Xg vb xV xk::gh b4 (s5 {Y with Arg:=Rv}) 190::L)) w) K ⟨uQ,xT,none,0,([]:List Int),0,H,r.fj (h.se 7 [2,1,4,3,0,6])⟩<|?_;clear h r H;rintro k3 a w ⟨EN,EO,vb,xV,xk,Jh,H,j,r,h⟩;cases k3 with
      | zero=>exact absurd H (by simp[iA])
      | succ k3 =>
       rw[iA]at H;refine qq r<|wq<|wq<|qg H λc51 H=>mP [(B0,0,[be aO aD.length bt]),(TH,2,[Z (J (J aD Y.Func.toNat).ai de.At.toNat).B]),(dQ aO,jl aO+(J (J aD Y.Func.toNat).ai de.At.toNat).B.toNat*4,[Z (J aD (J (J aD Y.Func.toNat).ai de.At.toNat).B.toNat).aS])] [2,3,4,6,8,9] 12 h (λh=>⟨⟨h.cell 0 rfl,bP⟩,⟨(h.pick 3).cell 2 rfl,bP⟩,⟨cP.cell c51 (h.dn 6) 0 rfl,bP⟩,bP⟩) λw h hd =>lY hd 6 19 [([0],Z Jh),([1,2,3,4],pA B0 0),([6],pA TH 2)]<|eY hd 0 5 5 rfl<|eY hd 1 4 7 rfl<|ny hd 3 8 rfl (pA (dQ aO) (jl aO+(J (J aD Y.Func.toNat).ai de.At.toNat).B.toNat*4)) (λw=>C0 99 bt rfl rfl cP c51)<|mz hd 2 [(9,28,pA (dQ aO) (jl aO+(J (J aD Y.Func.toNat).ai de.At.toNat).B.toNat*4))]<|eY hd 2 1 10 rfl<|mz hd 0 [(11,30,dH (Jh<(J aD (J (J aD Y.Func.toNat).ai de.At.toNat).B.toNat).aS))]<|mT<|tn<|dW H (λc52 H=>?_) λc52 H=>?_
       ·refine gq<|wq<|wb<|qg H λc53 H=>qg H λUH H=>mP [(TH,3,[Z (J (J aD Y.Func.toNat).ai de.At.toNat).C]),(b5,2+(wi ((J (J aD Y.Func.toNat).ai de.At.toNat).C+Jh)).toNat*1,[Z (J de.rV (wi ((J (J aD Y.Func.toNat).ai de.At.toNat).C+Jh)).toNat)])] [2,5,6,7,8] 13 h (λh=>⟨⟨(h.pick 3).cell 3 rfl,bP⟩,⟨(h.pick 2).cell (2+(wi ((J (J aD Y.Func.toNat).ai de.At.toNat).C+Jh)).toNat*1) (W8 (oP (C:=[Z de.Me,Z de.iv]++eH 16 aH de.rV++eH 8 aH de.mQ++[Z (wi (de.At+1)),Z (wi (de.eA+1)),Z de.End,Z de.Kids]) (f:=0) (pre:=[Z de.Me,Z de.iv]) (post:=eH 8 aH de.mQ++[Z (wi (de.At+1)),Z (wi (de.eA+1)),Z de.End,Z de.Kids]) rfl aG rfl (lz c53) rfl)),bP⟩,bP⟩) λw h hd =>lY hd 7 33 [([0],be vb xk.length xV),([1,6],pA b5 0),([2],pA TH 3),([4],Z Jh),([7],pA b5 2)]<|eY hd 0 6 3 rfl<|mz hd 5 [(5,38,Z (wi ((J (J aD Y.Func.toNat).ai de.At.toNat).C+Jh)))]<|ny hd 4 8 rfl (pA b5 (2+(wi ((J (J aD Y.Func.toNat).ai de.At.toNat).C+Jh)).toNat*1)) (λw=>uY (k:=.i64) (E:=2) (N:=16) rfl aZ aZ aZ aZ c53)<|eY hd 1 3 9 rfl<|lJ 10 rfl<|kV h (#[Z (J de.rV (wi ((J (J aD Y.Func.toNat).ai de.At.toNat).C+Jh)).toNat)]) 2 λb54 w h=>G<|λ_ r=>xE<|lD 11 rfl<|qh h.m5 λh=>j8 (n0:=xk.length) (c:=1) (bytes:=8) (wn rfl) rfl rfl r rfl aZ aZ aG (E:=2) (xs:=xk) aZ aZ h (news:=[(J de.rV (wi ((J (J aD Y.Func.toNat).ai de.At.toNat).C+Jh)).toNat)]) (m:=1) rfl ((h.pick 1).news rfl) UH rfl λFk Fl w _ h r=>qq r<|G<|mA<|iM 0 12 rfl (be Fk (xk++[(J de.rV (wi ((J (J aD Y.Func.toNat).ai de.At.toNat).C+Jh)).toNat)]).length Fl)<|mT<|bn<|tn<|wl<|ko [U,Z (wi (Jh+1)),Z (wi (Jh+1))]<|G<|?_;exact λ_ r=>⟨_,⟨EN,EO,Fk,Fl,(xk++[(J de.rV (wi ((J (J aD Y.Func.toNat).ai de.At.toNat).C+Jh)).toNat)]),(wi (Jh+1)),H,r.fj (h.se 7 [2,3,4,5,0,6])⟩,iI _⟩
       refine wx<|te<|te<|bh<|tn<|?_;exact λ_ r=>⟨(),EN,EO,vb,xV,xk,gE H,r.fj h⟩
     clear h r;rintro _ a w ⟨P4,Yz,Wc,Wd,l41,rfl,j,r,h⟩;replace H:=Ek af5;refine qq r<|wq<|qg H λc58 H=>gf H λWD e60 H=>mP [(B0,3,[be P4 (j9.bQ.set de.Me.toNat ({J j9.bQ de.Me.toNat with mK:=wi ((J j9.bQ de.Me.toNat).mK+1)})).length Yz]),(b5,0,[Z de.Me]),(dQ P4,de.Me.toNat*7+4,[Z (J (j9.bQ.set de.Me.toNat ({J j9.bQ de.Me.toNat with mK:=wi ((J j9.bQ de.Me.toNat).mK+1)})) de.Me.toNat).Hh]),(b5,29,[Z de.Kids])] [1,2,5,6,8,9,12,13] 17 h (λh=>⟨⟨h.cell 3 rfl,bP⟩,⟨(h.pick 2).cell 0 rfl,bP⟩,⟨(h.pick 1).cG ou (f:=4) (bl c58) rfl,bP⟩,⟨(h.pick 2).cell 29 rfl,bP⟩,bP⟩) λw h hd =>lY hd 8 45 [([0,1],pA B0 0),([2],pA B0 3),([4,5,6,11,12],pA b5 0),([13],pA b5 29)]<|eY hd 0 7 3 rfl<|eY hd 1 6 7 rfl<|ny hd 5 8 rfl (pA (dQ P4) (de.Me.toNat*7)) (λw=>ud 190 rfl (h.pick 1) c58)<|mz hd 4 [(9,54,pA (dQ P4) (de.Me.toNat*7+4))]<|eY hd 2 3 10 rfl<|eY hd 3 2 14 rfl<|lJ 15 rfl<|fh (Ei e60 h :) λw h=>G<|mA<|iM 0 16 rfl (Z WD)<|mT<|tn<|wq<|uI H λEr DJ QK e64 H=>mP [(b5,0,[Z de.Me]),(b5,29,[Z de.Kids]),(TH,2,[Z (J (J aD Y.Func.toNat).ai de.At.toNat).B]),(b5,1,[Z de.iv])] [2,3,6,7,9,12,15,16,18] 25 h (λh=>⟨⟨(h.pick 2).cell 0 rfl,bP⟩,⟨(h.pick 2).cell 29 rfl,bP⟩,⟨(h.pick 3).cell 2 rfl,bP⟩,⟨(h.pick 2).cell 1 rfl,bP⟩,bP⟩) λw h hd =>lY hd 12 62 [([0],pA B0 0),([1,2,3,5,6,14,15],pA b5 0),([7],pA b5 29),([9],pA TH 2),([11],Z WD),([13],be Wc l41.length Wd),([16],pA b5 1)]<|eY hd 0 11 4 rfl<|eY hd 1 10 8 rfl<|eY hd 2 9 10 rfl<|mz hd 8 [(12,74,oH #[Z de.Me,Z de.Kids,Z (J (J aD Y.Func.toNat).ai de.At.toNat).B,Z 0,Z WD,Z 0,Z 0])]<|eY hd 3 7 17 rfl<|mz hd 6 [(18,80,Z (wi (de.iv+1)))]<|lJ 19 rfl<|Up (ih (vA:=Wc) (xh:=Wd) (BT:=(bJ.FA aG (h.pick 4) (λh=>(h.pick 2)))) (aO:=aO) (bt:=bt) (cP:=(xO.up 4 cP)) (cK:=cK) (H:=e64) (h:=h) :) λFX Ml w h=>G<|mA<|iM 4 20 rfl (.tuple #[Z Er,Z DJ])<|iM 3 21 rfl (Z Er)<|iM 2 22 rfl (Z DJ)<|iM 1 23 rfl (Z Er)<|iM 0 24 rfl (Z DJ)<|mT<|tn<|aL kW<|kL (h.pick 2) 29<|ko [Z (wi (de.Kids+1)),U,U]<|qh h.m2 λh=>kS h 29 (DQ b5 {de with At:=wi (de.At+1),eA:=wi (de.eA+1),Kids:=wi (de.Kids+1)}) λw h=>G<|wq<|qg H λXu H=>mP [(TH,1,[Z (J (J aD Y.Func.toNat).ai de.At.toNat).A])] [1,4,5] 8 h (λh=>⟨⟨(h.pick 3).cell 1 rfl,bP⟩,bP⟩) λw h hd =>lY hd 3 91 [([0,4],pA b5 0),([1],pA TH 1),([3],Z Er),([5],pA b5 18)]<|eY hd 0 2 2 rfl<|ny hd 1 6 rfl (pA b5 (18+(J (J aD Y.Func.toNat).ai de.At.toNat).A.toNat*1)) (λw=>uY (k:=.i64) (E:=2) (N:=8) rfl aZ aZ aZ aZ Xu)<|?_
     refine λ_ r=>lD 7 rfl<|tF (C:=[Z de.Me,Z de.iv]++eH 16 aH de.rV++eH 8 aH de.mQ++[Z (wi (de.At+1)),Z (wi (de.eA+1)),Z de.End,Z (wi (de.Kids+1))]) (C':=[Z de.Me,Z de.iv]++eH 16 aH de.rV++eH 8 aH (mN 8 de.mQ (J (J aD Y.Func.toNat).ai de.At.toNat).A.toNat Er)++[Z (wi (de.At+1)),Z (wi (de.eA+1)),Z de.End,Z (wi (de.Kids+1))]) (v:=Z Er) (wn rfl) rfl r rfl aZ aZ rfl rfl aZ h (oP (f:=0) (pre:=[Z de.Me,Z de.iv]++eH 16 aH de.rV) (post:=[Z (wi (de.At+1)),Z (wi (de.eA+1)),Z de.End,Z (wi (de.Kids+1))]) rfl aG rfl (lz Xu) rfl) (uG (y:=Er) (pre:=[Z de.Me,Z de.iv]++eH 16 aH de.rV) (post:=[Z (wi (de.At+1)),Z (wi (de.eA+1)),Z de.End,Z (wi (de.Kids+1))]) rfl aG rfl (lz Xu) rfl rfl) λw h=>qq r<|G<|mA<|mT<|tn<|mP [(b5,28,[Z de.End]),(b5,27,[Z (wi (de.eA+1))])] [2,3,6,7,10] 15 h (λh=>⟨⟨h.cell 28 rfl,bP⟩,⟨h.cell 27 rfl,bP⟩,bP⟩) λw h hd =>lY hd 7 98 [([0,1,2,5,6],pA b5 0),([3],pA b5 28),([7],pA b5 27),([9],Z DJ)]<|eY hd 0 6 4 rfl<|eY hd 1 5 8 rfl<|lY hd 1 98 [([10],Z (wi ((wi (de.eA+1))+DJ))),([11],Z (if(wi ((wi (de.eA+1))+DJ))>de.End then(wi ((wi (de.eA+1))+DJ))else de.End)),([12],pA b5 0),([13],pA b5 28)]<|lJ 14 rfl<|kS h 28 (gh b5 (([Z de.Me,Z de.iv]++eH 16 aH de.rV++eH 8 aH (mN 8 de.mQ (J (J aD Y.Func.toNat).ai de.At.toNat).A.toNat Er)++[Z (wi (de.At+1)),Z (wi (de.eA+1)),Z (if(wi ((wi (de.eA+1))+DJ))>de.End then(wi ((wi (de.eA+1))+DJ))else de.End),Z (wi (de.Kids+1))]).toArray) 222) λw h=>G<|λ_ r=>xE<|zq<|qm rfl r<|?_;refine⟨_,rfl,?_⟩;clear r;intro a r;refine qq r<|kl<|bn<|bn<|tn<|?_;exact λ_ r=>⟨_,⟨FX,Ml,QK,(⟨de.Me,de.iv,de.rV,mN 8 de.mQ (J (J aD Y.Func.toNat).ai de.At.toNat).A.toNat Er,wi (de.At+1),wi (de.eA+1),if(wi ((wi (de.eA+1))+DJ))>de.End then(wi ((wi (de.eA+1))+DJ))else de.End,wi (de.Kids+1)⟩:fC),H,r.fj (h.se 6 [1,2,5,0])⟩,iI _⟩
    refine aL [vB ((J (J aD Y.Func.toNat).ai de.At.toNat).aN==6),vB ((J (J aD Y.Func.toNat).ai de.At.toNat).aN==6)]<|G<|dW H (λc68 H=>?_) λc68 H=>?_
    ·refine aL YV<|kL (h.pick 1) 28<|ko [Z (if de.End>de.eA then de.End else de.eA),Z (wi ((if de.End>de.eA then de.End else de.eA)+1)),U,U]<|qh h.m1 λh=>kS h 27 (DQ b5 {de with At:=wi (de.At+1),eA:=wi ((if de.End>de.eA then de.End else de.eA)+1)}) λw h=>G<|wl<|ko kW<|kS h 28 (DQ b5 {de with At:=wi (de.At+1),eA:=wi ((if de.End>de.eA then de.End else de.eA)+1),End:=0}) λw h=>kl<|bn<|bn<|tn<|qh h.m3.m2 λh=>?_;replace h:=h.KY (λq_=>gh B0 #[be aO aD.length bt,Z (wi (j9.Left-1)),Z j9.zO,be uQ q_ xT,Z j9.Deep] 186);exact λ_ r=>⟨_,⟨uQ,xT,({j9 with Left:=wi (j9.Left-1),bQ:=j9.bQ.set de.Me.toNat ({J j9.bQ de.Me.toNat with mK:=wi ((J j9.bQ de.Me.toNat).mK+1)})}),({de with At:=wi (de.At+1),eA:=wi ((if de.End>de.eA then de.End else de.eA)+1),End:=0}),H,r.fj (h.se 5 [1,0,4,2])⟩,iI _⟩
    refine aL [vB ((J (J aD Y.Func.toNat).ai de.At.toNat).aN==9),vB ((J (J aD Y.Func.toNat).ai de.At.toNat).aN==9)]<|G<|dW H (λc70 H=>?_) λc70 H=>?_
    ·refine wq<|qg H λc71 H=>qg H λc72 H=>mP [(B0,3,[be uQ j9.bQ.length xT]),(b5,0,[Z de.Me]),(b31,1,[Z (J (J aD Y.Func.toNat).ai de.At.toNat).A]),(b5,2+(J (J aD Y.Func.toNat).ai de.At.toNat).A.toNat*1,[Z (J de.rV (J (J aD Y.Func.toNat).ai de.At.toNat).A.toNat)])] [1,2,5,6,9,11,12,13] 18 h (λh=>⟨⟨(h.pick 3).cell 3 rfl,bP⟩,⟨(h.pick 1).cell 0 rfl,bP⟩,⟨(h.pick 2).cell 1 rfl,bP⟩,⟨(h.pick 1).cell (2+(J (J aD Y.Func.toNat).ai de.At.toNat).A.toNat*1) (W8 (oP (C:=[Z de.Me,Z de.iv]++eH 16 aH de.rV++eH 8 aH de.mQ++[Z (wi (de.At+1)),Z (wi (de.eA+1)),Z de.End,Z de.Kids]) (f:=0) (pre:=[Z de.Me,Z de.iv]) (post:=eH 8 aH de.mQ++[Z (wi (de.At+1)),Z (wi (de.eA+1)),Z de.End,Z de.Kids]) rfl aG rfl (lz c71) rfl)),bP⟩,bP⟩) λw h hd =>lY hd 8 163 [([0,1],pA B0 0),([2],pA B0 3),([4,5,6,8,11],pA b5 0),([9],pA b31 1),([12],pA b5 2)]<|eY hd 0 7 3 rfl<|eY hd 1 6 7 rfl<|eY hd 2 5 10 rfl<|ny hd 4 13 rfl (pA b5 (2+(J (J aD Y.Func.toNat).ai de.At.toNat).A.toNat*1)) (λw=>uY (k:=.i64) (E:=2) (N:=16) rfl aZ aZ aZ aZ c71)<|eY hd 3 3 14 rfl<|ny hd 2 15 rfl (pA (dQ uQ) (de.Me.toNat*7)) (λw=>ud 190 rfl h c72)<|mz hd 1 [(16,179,pA (dQ uQ) (de.Me.toNat*7+6))]<|λ_ r=>lD 17 rfl<|KX (wn rfl) r ou h de.Me.toNat 6 (Z (J de.rV (J (J aD Y.Func.toNat).ai de.At.toNat).A.toNat)) {J j9.bQ de.Me.toNat with mK:=wi ((J j9.bQ de.Me.toNat).mK+1)} ({{J j9.bQ de.Me.toNat with mK:=wi ((J j9.bQ de.Me.toNat).mK+1)}with V:=(J de.rV (J (J aD Y.Func.toNat).ai de.At.toNat).A.toNat)}) (dM ((fu (by simpa [bI]using c72)))) λw h=>qq r<|G<|mA<|mT<|tn<|wq<|mP [(b31,1,[Z (J (J aD Y.Func.toNat).ai de.At.toNat).A]),(b5,2+(J (J aD Y.Func.toNat).ai de.At.toNat).A.toNat*1,[Z (J de.rV (J (J aD Y.Func.toNat).ai de.At.toNat).A.toNat)]),(b5,27,[Z (wi (de.eA+1))])] [1,3,4,5,8,9] 13 h (λh=>⟨⟨(h.pick 2).cell 1 rfl,bP⟩,⟨(h.pick 1).cell (2+(J (J aD Y.Func.toNat).ai de.At.toNat).A.toNat*1) (W8 (oP (C:=[Z de.Me,Z de.iv]++eH 16 aH de.rV++eH 8 aH de.mQ++[Z (wi (de.At+1)),Z (wi (de.eA+1)),Z de.End,Z de.Kids]) (f:=0) (pre:=[Z de.Me,Z de.iv]) (post:=eH 8 aH de.mQ++[Z (wi (de.At+1)),Z (wi (de.eA+1)),Z de.End,Z de.Kids]) rfl aG rfl (lz c71) rfl)),bP⟩,⟨(h.pick 1).cell 27 rfl,bP⟩,bP⟩) λw h hd =>lY hd 6 180 [([0,3,7,8],pA b5 0),([1],pA b31 1),([4],pA b5 2),([9],pA b5 27)]<|eY hd 0 5 2 rfl<|ny hd 4 5 rfl (pA b5 (2+(J (J aD Y.Func.toNat).ai de.At.toNat).A.toNat*1)) (λw=>uY (k:=.i64) (E:=2) (N:=16) rfl aZ aZ aZ aZ c71)<|eY hd 1 3 6 rfl<|mz hd 2 [(11,8,Z (J de.rV (J (J aD Y.Func.toNat).ai de.At.toNat).A.toNat))]<|eY hd 2 1 10 rfl<|mz hd 0 [(12,9,Z (wi (de.eA+1)))]<|mT<|tn<|wr<|br<|br<|tr<|br<|tr<|λ_ r=>D3 (Z (J de.rV (J (J aD Y.Func.toNat).ai de.At.toNat).A.toNat)) (Z (wi (de.eA+1))) rfl r<|qh h.m3.m1 λh=>?_;replace h:=h.KY (λq_=>gh B0 #[be aO aD.length bt,Z (wi (j9.Left-1)),Z j9.zO,be uQ q_ xT,Z j9.Deep] 186);cases H;exact⟨uQ,xT,rfl,h.se 5 [1,0]⟩
    refine wl<|ko dk<|kM (h.pick 2)<|qh h.m3.m1 λh=>?_;replace h:=h.KY (λq_=>gh B0 #[be aO aD.length bt,Z (wi (j9.Left-1)),Z j9.zO,be uQ q_ xT,Z j9.Deep] 186);refine gf H λO9 e76 H=>qh h.m2.m1.m2 λh=>fh (zN (aO:=aO) (bt:=bt) (cP:=(xO.up 2 cP)) (cK:=cK) e76 h :) λw h=>kl<|bn<|bn<|tn<|?_;exact λ_ r=>⟨_,⟨uQ,xT,({j9 with Left:=wi (j9.Left-1),bQ:=j9.bQ.set de.Me.toNat ({J j9.bQ de.Me.toNat with mK:=wi ((J j9.bQ de.Me.toNat).mK+1)})}),O9,H,r.fj (h.se 5 [0,1,4,2])⟩,iI _⟩
   refine wx<|te<|te<|bh<|tn<|aL dk<|bW<|?_;cases H;exact xz2 uQ xT (h.se 4 [0,1])
theorem Aw(H:oe K O aD Y p2 p3=some (r0,r1,q0))(h:iQ z (DP B0 O (be aO aD.length bt) jx jB::As jx jB O.bQ::L) w)(cP:yP L aO cK aD)(BT:bJ L 1 aH vA p2) :
 c2_ 99 #[pA B0 0,DN Y,be vA p2.length xh,Z p3] w z (.tuple #[Z r0,Z r1]) λx1 x2=>DP B0 q0 (be aO aD.length bt) x1 x2::As x1 x2 q0.bQ::L:=by
 unfold oe at H;exact yV K H h cP BT
def tU(K:Nat)(O:aE)(Y:List Int)(p2:Int):Option (su×(List gi)×Int):=
 ei (oM K O Y p2) (λr6=>(if r6=0 then qd (oe K (⟨p2,0,([]:List gi),0⟩:cy) O.ah (⟨-1,0,0,0,1,0,0⟩:gi) Y 1) (λzw u0 Ft=>(if Ft.zO=0 then some ((⟨zw,wi (p2-Ft.Left),((Ft.bQ.length:Nat):Int),Ft.Deep,u0⟩:su),Ft.bQ,0)else some ((⟨0,0,0,0,0⟩:su),([]:List gi),Ft.zO)))else some ((⟨0,0,0,0,0⟩:su),([]:List gi),r6)))
abbrev z5_:List Value:=[Z 0,Z 0,Z 0,Z 0,Z 0]
theorem Dr(H:tU K O Y p2=some (r0,r1,r2))(h:iQ z (L) w)(aQ:yP L aV aF O.ah)(FL:bJ L 1 aH Ep Y) :
 Calls Tryz.prog 55 #[oH #[be aV O.ah.length bu],be Ep Y.length GC,Z p2] w λe w=>∃V0 adS,e=.returned (.tuple #[vK r0,be V0 r1.length adS,Z r2])/\Fit z (aC (As V0 adS r1::L)) w:=by
 unfold tU at H;refine ke func55 64 rfl λj=>ks<|kN h (#[be aV O.ah.length bu]) 24 λb4 w h=>kN h (C1) 57 λb5 w h=>ko dk<|G<|ks<|yb (oH #[be aV O.ah.length bu]) (cs:=[be aV O.ah.length bu]) ⟨(h.pick 1).cell 0 rfl,bP⟩<|?_;refine gf H λr6 e7 H=>ko dk<|fh (Bq (Ep:=Ep) (GC:=GC) (FL:=(bJ.up 2 FL)) (aV:=aV) (bu:=bu) (aQ:=(xO.up 2 aQ)) (aF:=aF) e7 h :) λw h=>bR<|G<|wq<|aL [U,vB (r6 != 0)]<|G<|rD H (λc8 H=>?_) λc8 H=>?_
 ·refine gq<|ks<|yb (oH #[be aV O.ah.length bu]) (cs:=[be aV O.ah.length bu]) ⟨(h.pick 1).cell 0 rfl,bP⟩<|?_;refine ko dk<|kN h (#[be aV O.ah.length bu,Z p2,Z 0,be none 0 0,Z 0]) 186 λb9 w h=>bR<|G<|aL kW<|?_;replace h:=h.fM (e:=190) (sz:=7) (enc:=rR);refine uI H λzw u0 Ft UG H=>qh h.m1 λh=>Up (Aw (vA:=Ep) (xh:=GC) (BT:=(bJ.up 2 FL)) (aO:=aV) (bt:=bu) (cP:=(xO.up 2 aQ)) (cK:=aF) UG h :) λyg Cu w h=>ko [.tuple #[Z zw,Z u0],U,U,U,U]<|G<|wq<|aL kW<|kL h 2<|ko [vB (Ft.zO != 0)]<|G<|rD H (λu7 H=>?_) λu7 H=>?_
  ·refine gq<|wq<|mP [(b9,1,[Z Ft.Left]),(b9,3,[be yg Ft.bQ.length Cu]),(b9,4,[Z Ft.Deep]),(b9,3,[be yg Ft.bQ.length Cu])] [3,4,6,8,9,11,13,14,17,19,20,22] 25 h (λh=>⟨⟨h.cell 1 rfl,bP⟩,⟨h.cell 3 rfl,bP⟩,⟨h.cell 4 rfl,bP⟩,⟨h.cell 3 rfl,bP⟩,bP⟩) λw h hd =>lY hd 10 42 [([0],Z zw),([1],Z p2),([2,3,7,8,12,13,18,19],pA b9 0),([4],pA b9 1),([9,20],pA b9 3),([14],pA b9 4),([16],Z u0)]<|eY hd 0 9 5 rfl<|mz hd 8 [(6,48,Z (wi (p2-Ft.Left)))]<|eY hd 1 7 10 rfl<|mz hd 6 [(11,53,Z ((Ft.bQ.length:Nat):Int))]<|eY hd 2 5 15 rfl<|mz hd 4 [(17,59,oH #[Z zw,Z (wi (p2-Ft.Left)),Z ((Ft.bQ.length:Nat):Int),Z Ft.Deep,Z u0])]<|eY hd 3 3 21 rfl<|lJ 22 rfl<|qh h.m2 λh=>kA h (gh b5 #[Z zw,Z (wi (p2-Ft.Left)),Z ((Ft.bQ.length:Nat):Int),Z Ft.Deep,Z u0] 57) λw h=>G<|vO ⟨⟨(h.pick 1).cell 1 rfl,bP⟩,⟨(h.pick 1).cell 3 rfl,bP⟩,⟨(h.pick 1).cell 4 rfl,bP⟩,⟨(h.pick 1).cell 3 rfl,bP⟩,bP⟩ λhd =>mz hd 0 [(23,7,be yg Ft.bQ.length Cu),(24,8,Z 0)]<|mT<|tn<|wr<|λ_ r=>DS (cs:=[Z zw,Z (wi (p2-Ft.Left)),Z ((Ft.bQ.length:Nat):Int),Z Ft.Deep,Z u0]) (v:=be yg Ft.bQ.length Cu) (v2:=Z 0) rfl r aZ aZ aZ aZ aZ (h.held 0 rfl)<|?_;cases H;exact⟨yg,Cu,rfl,h.se 4 [2]⟩
  refine wq<|mP [(b9,2,[Z Ft.zO])] [0,2,3,5] 8 h (λh=>⟨⟨h.cell 2 rfl,bP⟩,bP⟩) λw h hd =>lY hd 4 37 [([0],oH C1),([1,2],pA b9 0),([3],pA b9 2)]<|eY hd 0 3 4 rfl<|lJ 5 rfl<|qh h.m2 λh=>kA h (gh b5 C1 57) λw h=>G<|vO ⟨⟨(h.pick 1).cell 2 rfl,bP⟩,bP⟩ λhd =>mz hd 0 [(6,7,be none 0 0),(7,8,Z Ft.zO)]<|mT<|tn<|wr<|tr<|λ_ r=>DS (cs:=z5_) (v:=be none 0 0) (v2:=Z Ft.zO) rfl r aZ aZ aZ aZ aZ (h.held 0 rfl)<|?_;replace h:=h.fM (e:=190) (sz:=7) (enc:=rR);cases H;exact⟨none,0,rfl,h.se 5 [0]⟩
 refine aL dk<|kA h (gh b5 C1 57) λw h=>ko dk<|bW<|tr<|λ_ r=>DS (cs:=z5_) (v:=be none 0 0) (v2:=Z r6) rfl r aZ aZ aZ aZ aZ (h.held 0 rfl)<|?_;replace h:=h.fM (e:=190) (sz:=7) (enc:=rR);cases H;exact⟨none,0,rfl,h.se 3 [0]⟩
def pI(K:Nat)(O:aE)(Y:List Int)(p2:Int):Option (su×Int):=
 qd (tU K O Y p2) (λr3 r4 r5=>some (r3,r5))
theorem Ds(H:pI K O Y p2=some (r0,r1))(h:iQ z (L) w)(aQ:yP L aV aF O.ah)(FL:bJ L 1 aH Ep Y) :
 nK 24 #[oH #[be aV O.ah.length bu],be Ep Y.length GC,Z p2] w z (.tuple #[vK r0,Z r1]) (L):=by
 unfold pI at H;refine ke func24 21 rfl λj=>ks<|kN h (#[be aV O.ah.length bu]) 24 λb1 w h=>kN h (C1) 57 λb2 w h=>bR<|G<|ks<|yb (oH #[be aV O.ah.length bu]) (cs:=[be aV O.ah.length bu]) ⟨(h.pick 1).cell 0 rfl,bP⟩<|?_;refine uI H λr3 r4 r5 e6 H=>ko dk<|Up (Dr (Ep:=Ep) (GC:=GC) (FL:=(bJ.up 2 FL)) (aV:=aV) (bu:=bu) (aQ:=(xO.up 2 aQ)) (aF:=aF) e6 h :) λx7 x8 w h=>ko [.tuple #[vK r3,be x7 r4.length x8,Z r5],U,U,U]<|kN h (C1) 57 λb9 w h=>kA h (aaV b9 r3) λw h=>ko dk<|G<|ks<|kM h<|bR<|qh h.m2 λh=>kA h (aaV b2 r3) λw h=>bR<|bW<|λ_ r=>qZ (Jc r3) (Z r5) rfl r (h.held 0 rfl)<|?_;cases H;exact⟨rfl,h.se 4 []⟩
def gW(K:Nat)(O:bO)(r2:List aq):Nat->Int->Option (Bool)
 | 0,_=>none
 | k1+1,mL=>(if mL<((r2.length:Nat):Int)then ei (if bI mL r2.length then(if(J r2 mL.toNat).aN=6 then some ((J r2 mL.toNat).Frame==0)else some false)else none) (λg14=>(if g14=true then tN (pI K (⟨O.bS⟩:aE) O.oQ ((O.dx.length:Nat):Int)) (λxo yf=>(if yf=0 then if bI mL r2.length then some (xo.V==(J r2 mL.toNat).V)else none else some false))else(gW K O r2 k1 (wi (mL+1)))))else some true)
def lC(K:Nat)(O:bO):Option (Bool):=
 qd (lN K O) (λr2 r3 r4=>zZ ((if r4=true then(if r3=true then some (.inl ())else some (.inr r4))else some (.inr r4))) ((gW K O r2 K 0)))
theorem xz(H:lC K O=some r0)(h:iQ z (L) w)(cP:yP L aO cK O.bS)(oa:bJ L 1 aH ey O.oQ)(jb:bJ L 1 aH bK O.dx)(jT:bJ L 1 aH bU O.fB)(LB:bJ L 1 HX (some ⟨0,0,none⟩) Qt)(vP:bJ L 5 gT (some ⟨1,0,none⟩) yK) :
 nK 10 #[oH #[be aO O.bS.length bt,be ey O.oQ.length fm,Z O.di,Z O.eL,Z O.fD,Z O.gJ,be bK O.dx.length cC,be bU O.fB.length cJ]] w z (vB r0) (L):=by
 unfold lC at H;refine ke func10 66 rfl λj=>ks<|kN h (#[be aO O.bS.length bt,be ey O.oQ.length fm,Z O.di,Z O.eL,Z O.fD,Z O.gJ,be bK O.dx.length cC,be bU O.fB.length cJ]) 32 λb1 w h=>bR<|G<|ks<|kM h<|uI H λr2 r3 r4 e5 H=>Up (CJ (aO:=aO) (bt:=bt) (cP:=(xO.up 1 cP)) (ey:=ey) (fm:=fm) (oa:=(bJ.up 1 oa)) (bK:=bK) (cC:=cC) (jb:=(bJ.up 1 jb)) (bU:=bU) (cJ:=cJ) (jT:=(bJ.up 1 jT)) (LB:=bJ.up 1 LB) (vP:=bJ.up 1 vP) (cK:=cK) e5 h :) λx6 x7 w h=>ko [.tuple #[be x6 r2.length x7,vB r3,vB r4],U,U,U,U,U,U]<|G<|?_;obtain⟨o9,H,Nc⟩:=Gz H;refine λ_ r=>dh (β:=Unit) (λ_ a w=>.inl ()=o9/\∃j,kX 66 (lk [(1,pA b1 0),(3,be x6 r2.length x7)] j) a/\Fit z (aC (CZ b1 O aO bt ey fm bK cC bU cJ::Ja x6 x7 r2::L)) w) ?_ ?_
 ·refine qq r<|aL [U,vB (!r4),vB (!r4)]<|qI H (λoO H=>?_) λoO H=>?_
  ·refine dg (nT oO) [18,19] [vB r3,vB (!r3)]<|oC (nT oO) (vB (!r3))<|G<|FD H (λu6 H=>?_) λu6 H=>?_
   ·refine gq<|?_;exact λ_ r=>⟨(),gE H,r.fj (h.se 2 [1,0])⟩
   refine aL dk<|bW<|tr<|λ_ r=>tA (vB r4) rfl r<|?_;replace H:=xm H Nc;cases H;exact⟨rfl,h.se 2 []⟩
  refine cx (nF oO) [18,19]<|oN (nF oO) (vB true)<|G<|λ_ r=>gQ r (b:=true) rfl<|qq r<|aL dk<|bW<|tr<|λ_ r=>tA (vB r4) rfl r<|?_;replace H:=xm H Nc;cases H;exact⟨rfl,h.se 2 []⟩
 clear h r;rintro _ a w ⟨rfl,j,r,h⟩;replace H:=GA Nc;refine qq r<|wq<|ig<|wb<|λ_ r=>dz (β:=Nat) id (λm a w=>∃mL:Int,(gW K O r2 m mL)=some r0/\∃j,kX 66 (lk [(1,pA b1 0),(3,be x6 r2.length x7),(6,Z mL)] j) a/\Fit z (aC (CZ b1 O aO bt ey fm bK cC bU cJ::Ja x6 x7 r2::L)) w) K ⟨0,H,r.fj h⟩<|?_;clear h r H;rintro k1 a w ⟨mL,H,j,r,h⟩;cases k1 with
 | zero=>exact absurd H (by simp[gW])
 | succ k1 =>
  rw[gW]at H;refine qq r<|wq<|aL [U,U,Z ((r2.length:Nat):Int),dH (mL<((r2.length:Nat):Int))]<|G<|dW H (λxQ H=>?_) λxQ H=>?_
  ·refine gq<|wq<|wb<|El H λo16 H RZ=>λ_ r=>dh (β:=Unit) (λ_ a w=>∃g14:Bool,g14=o16/\∃j,kX 66 (lk [(1,pA b1 0),(3,be x6 r2.length x7),(6,Z mL),(41,vB g14)] j) a/\Fit z (aC (CZ b1 O aO bt ey fm bK cC bU cJ::Ja x6 x7 r2::L)) w) ?_ ?_
   ·refine qq r<|wl<|qg H λyd H=>ko dk<|ki (h.pick 1) yd<|bR<|zu (Z (J r2 mL.toNat).aN) ((h.pick 1).cG gy (f:=2) (bl yd) rfl)<|?_;refine ko [vB ((J r2 mL.toNat).aN==6),vB ((J r2 mL.toNat).aN==6)]<|qI H (λAO H=>?_) λAO H=>?_
    ·refine dg (beq_iff_eq.mpr AO) [35,36] [be x6 r2.length x7,Z mL]<|λ_ r=>KW (mB r (beq_iff_eq.mpr AO)) r (mV x6 mL 6) (ud 47 rfl (h.pick 1) yd)<|?_;refine dg (beq_iff_eq.mpr AO) [38] [ue x6 mL 6 3]<|λ_ r=>ld (mB r (beq_iff_eq.mpr AO)) r (Z (J r2 mL.toNat).Frame) ((h.pick 1).cG gy (f:=3) (bl yd) rfl)<|?_;refine dg (beq_iff_eq.mpr AO) [40] [vB ((J r2 mL.toNat).Frame==0)]<|oN (beq_iff_eq.mpr AO) (vB ((J r2 mL.toNat).Frame==0))<|G<|?_;exact λ_ r=>⟨(),((J r2 mL.toNat).Frame==0),gE H,r.fj h⟩
    refine cx (bN AO) [35,36,37,38,39,40]<|oC (bN AO) (vB false)<|G<|?_;exact λ_ r=>⟨(),false,gE H,r.fj h⟩
   clear h r;rintro _ a w ⟨g14,rfl,j,r,h⟩;replace H:=Ek RZ;refine qq r<|Em H (λs6 H=>?_) λs6 H=>?_
   ·refine aL [U]<|yb (oH #[be aO O.bS.length bt]) (cs:=[be aO O.bS.length bt]) ⟨h.cell 0 rfl,bP⟩<|?_;refine bR<|kL h 1<|ko dk<|kL h 6<|xB H λxo yf Nk H=>ko [Z ((O.dx.length:Nat):Int)]<|fh (Ds (Ep:=ey) (GC:=fm) (FL:=(bJ.up 2 oa)) (aV:=aO) (bu:=bt) (aQ:=(xO.up 2 cP)) (aF:=cK) Nk h :) λw h=>ko [.tuple #[vK xo,Z yf],U,U]<|kN h (C1) 57 λb23 w h=>kA h (aaV b23 xo) λw h=>bR<|G<|wq<|qI H (λvh H=>?_) λvh H=>?_
    ·refine qg H λyM H=>mP [(b23,0,[Z xo.V]),(dQ x6,mL.toNat*6+5,[Z (J r2 mL.toNat).V])] [1,3,7,8] 13 h (λh=>⟨⟨h.cell 0 rfl,bP⟩,⟨(h.pick 2).cG gy (f:=5) (bl yM) rfl,bP⟩,bP⟩) λw h hd =>lY hd 10 54 [([0],Z yf),([1,2],vB (yf==0))]<|λ_ r=>CS hd 9 3 rfl (mB r (beq_iff_eq.mpr vh)) r (pA b23 0)<|?_;refine λ_ r=>CS hd 8 5 rfl (mB r (beq_iff_eq.mpr vh)) r (be x6 r2.length x7)<|?_;refine λ_ r=>CS hd 7 6 rfl (mB r (beq_iff_eq.mpr vh)) r (Z mL)<|?_;refine λ_ r=>CS hd 6 7 rfl (mB r (beq_iff_eq.mpr vh)) r (mV x6 mL 6) (hrun:=λw=>ud 47 rfl (h.pick 2) yM)<|?_;refine λ_ r=>CS hd 5 8 rfl (mB r (beq_iff_eq.mpr vh)) r (ue x6 mL 6 5)<|?_;refine λ_ r=>W1 hd 0 4 4 r (mB r (beq_iff_eq.mpr vh)) rfl rfl<|?_;refine λ_ r=>W1 hd 1 3 9 r (mB r (beq_iff_eq.mpr vh)) rfl rfl<|?_;refine λ_ r=>CS hd 2 10 rfl (mB r (beq_iff_eq.mpr vh)) r (vB (xo.V==(J r2 mL.toNat).V))<|?_;refine ny hd 1 11 rfl (vB (xo.V==(J r2 mL.toNat).V)) (λw=>Fx (b:=(yf==0)) rfl aZ (beq_iff_eq.mpr vh) aZ)<|mz hd 0 [(12,2,vB (xo.V==(J r2 mL.toNat).V))]<|mT<|tn<|wr<|br<|tr<|tr<|br<|tr<|?_;cases H;exact gj (h.se 3 [])
    refine mP [] [] 13 h (λ_=>trivial) λw h hd =>lY hd 10 54 [([0],Z yf),([1,2],vB (yf==0))]<|λ_ r=>eof hd 9 3 rfl (mB r (bN vh)) r<|?_;refine λ_ r=>eof hd 8 5 rfl (mB r (bN vh)) r<|?_;refine λ_ r=>eof hd 7 6 rfl (mB r (bN vh)) r<|?_;refine λ_ r=>eof hd 6 7 rfl (mB r (bN vh)) r<|?_;refine λ_ r=>eof hd 5 8 rfl (mB r (bN vh)) r<|?_;refine λ_ r=>eof hd 4 4 rfl (mB r (bN vh)) r<|?_;refine λ_ r=>eof hd 3 9 rfl (mB r (bN vh)) r<|?_;refine λ_ r=>eof hd 2 10 rfl (mB r (bN vh)) r<|?_;refine ny hd 1 11 rfl (vB false) (λw=>GL (b:=(yf==0)) rfl aZ (bN vh) aZ)<|mz hd 0 [(12,2,vB false)]<|mT<|tn<|wr<|br<|tr<|tr<|br<|tr<|?_;cases H;exact gj (h.se 3 [])
   refine wk<|bn<|tn<|wl<|ko [U,Z (wi (mL+1)),Z (wi (mL+1))]<|G<|?_;exact λ_ r=>⟨_,⟨(wi (mL+1)),H,r.fj h⟩,iI _⟩
  refine wx<|te<|te<|bh<|tn<|ig<|wr<|?_;cases H;exact gj (h.se 2 [])
end
open Go SL GX
section
variable {K:Nat}
theorem Ji(x:Int):wi x=(if 9223372036854775808<=x%18446744073709551616 then x%18446744073709551616-18446744073709551616 else x%18446744073709551616):=by
 show IntKind.i64.wrap x=_;unfold IntKind.wrap;simp[IntKind.bits,IntKind.signed]
abbrev uW(x:Int):Prop:=-9223372036854775808<=x/\x<=9223372036854775807
theorem Hl(x:Int):uW (wi x):=by rw[Ji];unfold uW;split<;>omega
theorem xb{x:Int}(h:uW x):wi x=x:=by rw[Ji];unfold uW at h;split<;>omega
theorem adT{a b:Int}(h:a%18446744073709551616=b%18446744073709551616):wi a=wi b:=by rw[Ji,Ji,h]
def fb(f:Bool->Bool->Bool):Nat->Int->Int->Int
 | 0,_,_=>0
 | n+1,a,b=>(if f (decide (a%2=1)) (decide (b%2=1))then 1 else 0)+2*fb f n (a/2) (b/2)
theorem We(x:Int):((x.tmod (2:Int)) != 0)=decide (x%2=1):=by
 rw[Ke];by_cases h:x%2=1
 ·rw[tY h];by_cases h0:0<=x∨(2:Int)∣x
  ·rw[aP h0,h];rfl
  ·rw[cu h0,h];rfl
 ·rw[HI h];have h2:x%2=0:=by omega
  rw[aP (.inr (Int.dvd_of_emod_eq_zero h2)),h2];rfl
theorem Rw{x:Int}(h:uW x):(if x<0 then(if(x.tmod (2:Int))=0 then wi (x.tdiv (2:Int))else wi ((wi (x.tdiv (2:Int)))-1))else wi (x.tdiv (2:Int)))=x/2:=by
 unfold uW at h;have e:=Int.tdiv_eq_ediv (a:=x) (b:=2);have e2:=Ke (a:=x) (b:=2);by_cases h0:x<0
 ·rw[aP h0];by_cases h2:(2:Int)∣x
  ·rw[aP (.inr h2)]at e e2;have:=Int.emod_eq_zero_of_dvd h2;rw[aP (by rw[e2,this];rfl),e,Int.add_zero,xb (by unfold uW;omega)]
  ·rw[ef]at e e2;have:x%2=1:=by have:=λh=>h2 (Int.dvd_of_emod_eq_zero h);omega
   have e3:x.tdiv 2=x/2+1:=by rw[e];rfl
   rw[cu (by rw[e2,this];decide),e3,xb (x:=_+_) (by unfold uW;omega),xb (by unfold uW;omega)];omega
 ·rw[cu h0];rw[aP (.inl I)]at e;rw[e,Int.add_zero,xb (by unfold uW;omega)]
theorem P5{x:Int}(h:uW x):uW (x/2):=by unfold uW at h⊢;omega
theorem aa8(n:Nat)(a:Int):a%2 ^ (n+1)=2*(a/2%2 ^ n)+a%2:=by
 have p:(0:Int)<2 ^ n:=Int.pow_pos eC;have q:=B7 (a/2) (b:=2 ^ n) I;have q2:=Dx (a/2) p;have e:=Mu (a/2) (2 ^ n);have e0:=Mu a 2;have h:a=(2*(a/2%2 ^ n)+a%2)+2 ^ (n+1)*(a/2/2 ^ n):=by
  rw[Int.pow_succ,Gv (2 ^ n) 2,Int.mul_assoc];omega
 have r1:(2*(a/2%2 ^ n)+a%2)%2 ^ (n+1)=2*(a/2%2 ^ n)+a%2:=Int.emod_eq_of_lt I (by rw[Int.pow_succ];omega)
 calc a%2 ^ (n+1)=((2*(a/2%2 ^ n)+a%2)+2 ^ (n+1)*(a/2/2 ^ n))%2 ^ (n+1):=by rw[<-h]
  _=_:=by rw[Int.add_mul_emod_self_left,r1]
theorem Rx(n:Nat)(a:Int):(a%2 ^ (n+1)).toNat=2*(a/2%2 ^ n).toNat+(a%2).toNat:=by
 have h:=aa8 n a;have p:(0:Int)<2 ^ n:=Int.pow_pos eC;have q:=B7 (a/2) (b:=2 ^ n) I;omega
theorem L8(f:Bool->Bool->Bool)(o:Nat->Nat->Nat)(h0:o 0 0=0)(hs:∀u v x y,x<2->y<2->o (2*u+x) (2*v+y)=2*o u v+(if f (decide (x=1)) (decide (y=1))=true then 1 else 0)):∀(n:Nat) (a b:Int),fb f n a b=((o (a%2 ^ n).toNat (b%2 ^ n).toNat:Nat):Int)
 | 0,a,b=>by
  have e:∀x:Int,(x%2 ^ 0).toNat=0:=λx=>by simp[Int.emod_one]
  rw[e,e,h0];rfl
 | n+1,a,b=>by
  rw[fb,L8 f o h0 hs n,Rx n a,Rx n b,hs _ _ _ _ I I];have k:∀x:Int,decide ((x%2).toNat=1)=decide (x%2=1):=λx=>by simp only[decide_eq_decide];omega
  rw[k,k];split<;>omega
theorem sX(u x:Nat)(hx:x<2):(2*u+x)/2=u/\(2*u+x)%2=x:=by omega
theorem aa9(a b:Int):wi (fb (λp q=>p&&q) 64 a b)=iB a b:=by
 rw[L8 _ (· &&& ·) eC (λu v x y hx hy=>by
  have e:=Gu ((2*u+x) &&& (2*v+y)) 2;have e1:((2*u+x) &&& (2*v+y))%2=x &&& y:=by
   have:=Nat.and_mod_two_pow (a:=2*u+x) (b:=2*v+y) (n:=1);rw[Nat.pow_one,(sX u x hx).2,(sX v y hy).2]at this;exact this
  rw[Nat.and_div_two,(sX u x hx).1,(sX v y hy).1,e1]at e;rw[<-e];rcases(show x=0∨x=1 by omega)with rfl | rfl<;>rcases(show y=0∨y=1 by omega)with rfl | rfl<;>rfl)]
 unfold iB;rw[BitVec.toNat_and,HN,HN];rfl
theorem adU(a b:Int):wi (fb (λp q=>p||q) 64 a b)=OG a b:=by
 rw[L8 _ (· ||| ·) eC (λu v x y hx hy=>by
  have e:=Gu ((2*u+x) ||| (2*v+y)) 2;have e1:((2*u+x) ||| (2*v+y))%2=x ||| y:=by
   have:=Nat.or_mod_two_pow (a:=2*u+x) (b:=2*v+y) (n:=1);rw[Nat.pow_one,(sX u x hx).2,(sX v y hy).2]at this;exact this
  rw[Nat.or_div_two,(sX u x hx).1,(sX v y hy).1,e1]at e;rw[<-e];rcases(show x=0∨x=1 by omega)with rfl | rfl<;>rcases(show y=0∨y=1 by omega)with rfl | rfl<;>rfl)]
 unfold OG;rw[BitVec.toNat_or,HN,HN];rfl
theorem aba(a b:Int):wi (fb (λp q=>p != q) 64 a b)=OL a b:=by
 rw[L8 _ (· ^^^ ·) eC (λu v x y hx hy=>by
  have e:=Gu ((2*u+x) ^^^ (2*v+y)) 2;have e1:((2*u+x) ^^^ (2*v+y))%2=x ^^^ y:=by
   have:=Nat.xor_mod_two_pow (a:=2*u+x) (b:=2*v+y) (n:=1);rw[Nat.pow_one,(sX u x hx).2,(sX v y hy).2]at this;exact this
  rw[Nat.xor_div_two,(sX u x hx).1,(sX v y hy).1,e1]at e;rw[<-e];rcases(show x=0∨x=1 by omega)with rfl | rfl<;>rcases(show y=0∨y=1 by omega)with rfl | rfl<;>rfl)]
 unfold OL;rw[BitVec.toNat_xor,HN,HN];rfl
theorem Wf(y:Int):iB y 63=y%64:=by
 unfold iB;rw[BitVec.toNat_and,HN,show(BitVec.ofInt 64 63).toNat=2 ^ 6-1 from rfl,Nat.and_two_pow_sub_one_eq_mod];have e:((2 ^ 64:Nat):Int)=18446744073709551616:=by decide
 rw[e];show wi _=_;rw[xb I];omega
theorem Zz(z:Int) :∃c,wi z=z+18446744073709551616*c:=by
 rw[Ji];split
 ·exact⟨-(z/18446744073709551616)-1,I⟩
 ·exact⟨-(z/18446744073709551616),I⟩
theorem ZA(b t:Int):wi (b+18446744073709551616*t)=wi b:=adT (Int.add_mul_emod_self_left b _ t)
theorem P6(z f b:Int):wi (b+wi z*f)=wi (b+z*f):=by
 obtain⟨c,hc⟩:=Zz z;rw[hc,Int.add_mul,Int.mul_assoc,<-Int.add_assoc,ZA]
theorem adV(z b:Int):wi (wi z+b)=wi (z+b):=by
 obtain⟨c,hc⟩:=Zz z;rw[hc,show z+18446744073709551616*c+b=z+b+18446744073709551616*c by omega,ZA]
def bf(p2 p3 x y:Bool):Bool:=if x&&y then p2 else if x==y then false else p3
theorem Wg{p2 p3:Bool}:∀(n k j:Nat) (a b c e:Int),j+n=64->n<k->uW a->uW b->uW c->lI K p2 p3 k a b c e (j:Int)=some (wi (c+e*fb (bf p2 p3) n a b))
 | n,k,j,a,b,c,e,hj,hk,ha,hb,hc=>by
  obtain⟨k,rfl⟩ :∃m,k=m+1:=⟨k-1,I⟩;rw[lI];cases n with
  | zero=>rw[ef,fb,Int.mul_zero,Int.add_zero,xb hc]
  | succ n =>
   have hh:∀x,uW x->lu x=some (x/2):=λx hx=>by
    rw[<-Rw hx];unfold lu;split
    ·split<;>rfl
    ·rfl
   rw[p7];unfold sW;rw[We,We,au,au,hh a ha,hh b hb];have key:(if decide (a%2=1)=true then(if decide (b%2=1)=true then(if p2=true then some (wi (c+e))else(if decide (a%2=1)=decide (b%2=1)then some c else(if p3=true then some (wi (c+e))else some c)))else(if decide (a%2=1)=decide (b%2=1)then some c else(if p3=true then some (wi (c+e))else some c)))else(if decide (a%2=1)=decide (b%2=1)then some c else(if p3=true then some (wi (c+e))else some c))) =
    some (if bf p2 p3 (decide (a%2=1)) (decide (b%2=1))=true then wi (c+e)else c):=by
    generalize decide (a%2=1)=x;generalize decide (b%2=1)=y;cases x<;>cases y<;>cases p2<;>cases p3<;>rfl
   rw[key,au,au,au,show wi ((j:Int)+1)=((j+1:Nat):Int) by rw[xb (by unfold uW;omega)];omega];rw[Wg n k (j+1) _ _ _ _ I I (P5 ha) (P5 hb) (by split;exact Hl _;exact hc),fb,P6]
   congr 1
   split
   ·rw[adV];congr 1;rw[Int.mul_add,<-Int.mul_assoc,Gv e 2,Int.two_mul];omega
   ·congr 1;rw[Int.zero_add,<-Int.mul_assoc,Gv e 2,Int.two_mul]
theorem L9{p2 p3:Bool}{a b:Int}(hK:100<K)(ha:uW a)(hb:uW b):jO K a b p2 p3=some (wi (fb (bf p2 p3) 64 a b)):=by
 unfold jO;have:=Wg (K:=K) (p2:=p2) (p3:=p3) 64 K 0 a b 0 1 I I ha hb (by unfold uW;omega);rw[pL]at this;rw[this,Int.zero_add,Int.one_mul]
theorem Ry:∀(n k j s:Nat) (g:Int),j+n=s->n<k->s<=64->uW g->ie K (s:Int) true k g (j:Int)=some (wi (g*2 ^ n))
 | n,k,j,s,g,hj,hk,hs,hg=>by
  obtain⟨k,rfl⟩ :∃m,k=m+1:=⟨k-1,I⟩;rw[ie];cases n with
  | zero=>rw[ef,Int.pow_zero,Int.mul_one,xb hg]
  | succ n =>
   rw[p7,aP rfl,show wi ((j:Int)+1)=((j+1:Nat):Int) by rw[xb (by unfold uW;omega)];omega,Ry n k (j+1) s _ I I hs (Hl _)];have:=P6 (g+g) (2 ^ n) 0;rw[Int.zero_add,Int.zero_add]at this;rw[this];congr 2;rw[Int.pow_succ,Gv (2 ^ n) 2,<-Int.mul_assoc];congr 1;omega
theorem Rz:∀(n k j s:Nat) (g:Int),j+n=s->n<k->s<=64->uW g->ie K (s:Int) false k g (j:Int)=some (g/2 ^ n)
 | n,k,j,s,g,hj,hk,hs,hg=>by
  obtain⟨k,rfl⟩ :∃m,k=m+1:=⟨k-1,I⟩;have hh:∀x,uW x->lu x=some (x/2):=λx hx=>by
   rw[<-Rw hx];unfold lu;split
   ·split<;>rfl
   ·rfl
  rw[ie];cases n with
  | zero=>rw[ef,Int.pow_zero,Int.ediv_one]
  | succ n =>
   rw[p7,cu eC,hh g hg,au,show wi ((j:Int)+1)=((j+1:Nat):Int) by rw[xb (by unfold uW;omega)];omega,Rz n k (j+1) s _ I I hs (P5 hg)]
   congr 1
   rw[Int.ediv_ediv_of_nonneg eC,Int.pow_succ,Gv]
theorem Of(y:Int):lO y=some (y%64):=by
 unfold lO;have e:=Ke (a:=y) (b:=64);by_cases h:0<=y∨(64:Int)∣y
 ·rw[aP h]at e;rw[ef];congr 1;omega
 ·rw[cu h]at e;have e:y.tmod 64=y%64-64:=e;have:y%64≠0:=λh'=>h (.inr (Int.dvd_of_emod_eq_zero h'));rw[p7,xb (by unfold uW;omega)];congr 1;omega
theorem Wh{x:Int}(h0:0<=x)(h1:x<64):IntKind.u64.wrap x=x:=by
 simp only[IntKind.wrap,IntKind.min,IntKind.max,IntKind.signed,IntKind.bits];simp;omega
theorem P7{op x y:Int}(h0:0<=op)(h1:op<16)(hx:uW x)(hy:uW y)(hK:100<K):qW K op x y=rM op x y:=by
 unfold qW rM Al;rw[ef,ef,aP h0,au,aP (tY h1)];have tr:∀b,iP b=mI b:=λb=>rfl;have key:rT K op x y=uB op x y:=by
  unfold rT uB;rcases(show op=0∨op=1∨op=2∨op=3∨op=4∨op=5∨op=6∨op=7∨op=8∨op=9∨op=10∨op=11∨op=12∨op=13∨op=14∨op=15 by omega)with rfl | rfl | rfl | rfl | rfl | rfl | rfl | rfl | rfl | rfl | rfl | rfl | rfl | rfl | rfl | rfl
  ·rfl
  ·rfl
  ·rfl
  ·simp only[cu (show ¬((3:Int)=0) by decide),cu (show ¬((3:Int)=1) by decide),cu (show ¬((3:Int)=2) by decide),if_true];unfold pH oy;by_cases e0:y=0
   ·rw[aP e0,aP e0];rfl
   ·rw[cu e0,cu e0];by_cases e1:y=-1
    ·rw[aP e1,aP e1];rfl
    ·rw[cu e1,cu e1,aP e0,aP e0];rfl
  ·simp only[cu (show ¬((4:Int)=0) by decide),cu (show ¬((4:Int)=1) by decide),cu (show ¬((4:Int)=2) by decide),cu (show ¬((4:Int)=3) by decide),if_true];unfold pH oy;by_cases e0:y=0
   ·rw[aP e0,aP e0,au,eR,Int.zero_mul,show wi 0=0 from rfl,Int.sub_zero,xb hx]
   ·rw[cu e0,cu e0];by_cases e1:y=-1
    ·rw[aP e1,aP e1,au,eR];subst e1
     congr 1
     unfold uW at hx;by_cases hm:x=-9223372036854775808
     ·subst hm;rfl
     ·rw[xb (x:=0-x) (by unfold uW;omega),xb (x:=(0-x)*-1) (by unfold uW;omega),xb (by unfold uW;omega)];omega
    ·rw[cu e1,cu e1,aP e0,aP e0,au,eR]
     congr 1
     have e2:x.tmod y+y*x.tdiv y=x:=Int.tmod_add_mul_tdiv x y;have hq:uW (x.tdiv y):=by
      clear e2;unfold uW at hx⊢;by_cases y1:y=1
      ·rw[y1,Int.tdiv_one];exact hx
      have h4:=Int.natAbs_tdiv x y;have h2:2<=y.natAbs:=by omega
      have h5:x.natAbs/y.natAbs<=x.natAbs/2:=Nat.div_le_div_left h2 eC;have h6:x.natAbs<=9223372036854775808:=by omega
      generalize x.tdiv y=q at h4⊢;have h7:q.natAbs<=4611686018427387904:=Fu (Nat.le_of_eq h4) (Fu h5 I);omega
     have hm:uW (x.tmod y):=by
      unfold uW at hx hy⊢;have h4:=Int.natAbs_tmod x y;have h6:=Du x.natAbs (show 0<y.natAbs by omega);have h7:y.natAbs<=9223372036854775808:=by omega
      generalize x.tmod y=q at h4⊢;omega
     rw[xb hq,show x-wi (x.tdiv y*y)=x+wi (x.tdiv y*y)*(-1) by omega,P6,show x+x.tdiv y*y*(-1)=x.tmod y by rw[Gv (x.tdiv y) y];omega,xb hm]
  ·show ei (jO K x y true false) _=some (iB x y);rw[L9 hK hx hy,au,<-aa9];congr 3;funext a b;cases a<;>cases b<;>rfl
  ·show ei (jO K x y true true) _=some (OG x y);rw[L9 hK hx hy,au,<-adU];congr 3;funext a b;cases a<;>cases b<;>rfl
  ·show ei (jO K x y false true) _=some (OL x y);rw[L9 hK hx hy,au,<-aba];congr 3;funext a b;cases a<;>cases b<;>rfl
  ·show ei (lO y) (λr=>ei (lP K x r true) _)=some (RQ x (IntKind.u64.wrap (iB y 63)));obtain⟨s,hs⟩ :∃s:Nat,y%64=s:=⟨(y%64).toNat,I⟩;rw[Of,au,Wf,Wh I I,hs];unfold lP RQ;have:=Ry (K:=K) s K 0 s x I I I hx;rw[pL]at this;rw[this,au,cQ,yW I]
  ·show ei (lO y) (λr=>ei (lP K x r false) _)=some (MS x (IntKind.u64.wrap (iB y 63)));obtain⟨s,hs⟩ :∃s:Nat,y%64=s:=⟨(y%64).toNat,I⟩;rw[Of,au,Wf,Wh I I,hs];unfold lP MS;have:=Rz (K:=K) s K 0 s x I I I hx;rw[pL]at this;rw[this,au,cQ,yW I,Int.fdiv_eq_ediv_of_nonneg _ (Int.le_of_lt (Int.pow_pos eC))]
  ·show ei (if x<y then some x else some y) _=some (if y<x then y else x);by_cases h:x<y
   ·rw[aP h,ef];rfl
   ·rw[cu h];by_cases h':y<x
    ·rw[aP h'];rfl
    ·rw[cu h',show y=x by omega];rfl
  ·show ei (if x>y then some x else some y) _=some (if y>x then y else x);by_cases h:x>y
   ·rw[aP h,ef];rfl
   ·rw[cu h];by_cases h':y>x
    ·rw[aP h'];rfl
    ·rw[cu h',show y=x by omega];rfl
  ·show ei (ei (iP (decide (x<y))) _) _=ei (mI (decide (x<y))) _;rw[tr];cases h:mI (decide (x<y))<;>rfl
  ·show ei (ei (iP (decide (x<=y))) _) _=ei (mI (decide (x<=y))) _;rw[tr];cases h:mI (decide (x<=y))<;>rfl
  ·show ei (ei (iP (x==y)) _) _=ei (mI (x==y)) _;rw[tr];cases h:mI (x==y)<;>rfl
  ·show ei (ei (iP (x != y)) _) _=ei (mI (x != y)) _;rw[tr];cases h:mI (x != y)<;>rfl
 rw[key]
theorem adW{op x y:Int}(h0:0<=op)(h1:op<16)(hx:uW x)(hy:uW y):uW (Vk op x y):=by
 have e:=I4 h0 h1 x y;unfold rM Al at e;rw[aP h0,au,aP (tY h1)]at e;have tr:∀b v,mI b=some v->uW v:=λb v h=>by cases b<;>cases h<;>exact⟨eC,eC⟩
 have ob:∀{o:Option Int} {v:Int},ei o (λr=>some r)=some v->o=some v:=λ{o v} h=>by cases o<;>simp[ei]at h⊢;exact h
 generalize hv:Vk op x y=v at e⊢;have e:uB op x y=some v:=by
  cases h:uB op x y with
  | none=>rw[h]at e;cases e
  | some u=>rw[h,au]at e;cases e;rfl
 unfold uB at e;rcases(show op=0∨op=1∨op=2∨op=3∨op=4∨op=5∨op=6∨op=7∨op=8∨op=9∨op=10∨op=11∨op=12∨op=13∨op=14∨op=15 by omega)with rfl | rfl | rfl | rfl | rfl | rfl | rfl | rfl | rfl | rfl | rfl | rfl | rfl | rfl | rfl | rfl
 ·cases e;exact Hl _
 ·cases e;exact Hl _
 ·cases e;exact Hl _
 ·have e:tN (oy x y) (λr5 r6=>some r5)=some v:=e;unfold oy at e;by_cases e0:y=0
  ·rw[aP e0]at e;cases e;exact⟨eC,eC⟩
  ·rw[cu e0]at e;by_cases e1:y=-1
   ·rw[aP e1]at e;cases e;exact Hl _
   ·rw[cu e1,aP e0]at e;cases e;exact Hl _
 ·have e:tN (oy x y) (λr5 r6=>some r6)=some v:=e;unfold oy at e;by_cases e0:y=0
  ·rw[aP e0]at e;cases e;exact hx
  ·rw[cu e0]at e;by_cases e1:y=-1
   ·rw[aP e1]at e;cases e;exact⟨eC,eC⟩
   ·rw[cu e1,aP e0]at e;cases e;unfold uW at hx hy⊢;have h4:=Int.natAbs_tmod x y;have h6:=Du x.natAbs (show 0<y.natAbs by omega);have h7:y.natAbs<=9223372036854775808:=by omega
    generalize x.tmod y=q at h4⊢;omega
 ·cases e;exact Hl _
 ·cases e;exact Hl _
 ·cases e;exact Hl _
 ·cases e;exact Hl _
 ·have e:some (MS x (IntKind.u64.wrap (iB y 63)))=some v:=e;cases e;unfold MS;have p:(0:Int)<2 ^ (min (IntKind.u64.wrap (iB y 63)).toNat 64):=Int.pow_pos eC;rw[Int.fdiv_eq_ediv_of_nonneg _ (Int.le_of_lt p)];generalize (2:Int) ^ (min (IntKind.u64.wrap (iB y 63)).toNat 64)=q at p;unfold uW at hx⊢;have a1:=Mu x q;have a2:=B7 x (b:=q) I;have a3:=Dx x p;by_cases hz:0<=x
  ·have:=Int.ediv_le_self q hz;have:=Int.ediv_nonneg hz (Int.le_of_lt p);omega
  ·have h1:x/q<0:=Int.ediv_neg_of_neg_of_pos I p;have h2:x<=x/q:=by
    have:q*(x/q)<=1*(x/q):=Int.mul_le_mul_of_nonpos_right I I;rcases Int.lt_or_le (x/q) x with h | h
    ·exfalso
     have:(x/q)*q<=(x/q)*1:=Int.mul_le_mul_of_nonpos_left I I;have h4:x/q+1<=x:=by omega
     have h5:x<(x/q+1)*q:=by rw[Int.add_mul,Int.one_mul,Gv (x/q) q];omega
     have h6:(x/q+1)*q<=(x/q+1)*1:=Int.mul_le_mul_of_nonpos_left I I;omega
    ·exact h
   omega
 ·have e:some (if y<x then y else x)=some v:=e;cases e;split
  ·exact hy
  ·exact hx
 ·have e:some (if y>x then y else x)=some v:=e;cases e;split
  ·exact hy
  ·exact hx
 ·exact tr _ _ (ob e)
 ·exact tr _ _ (ob e)
 ·exact tr _ _ (ob e)
 ·exact tr _ _ (ob e)
end
end Mo
end
section
namespace Am
structure TS where
 J:Nat
 bD:Nat->Int
 sl:Nat->Int
 bC:Nat
def Mn(C:kY)(g:Nat)(pd:Int)(x:TS):Option TS:=
 match C.code g x.J with
 | .const a k=>some {x with J:=x.J+1,bD:=cI x.bD a k}
 | .move a b=>some {x with J:=x.J+1,bD:=cI x.bD a (x.bD b)}
 | .arith op a b c=>some {x with J:=x.J+1,bD:=cI x.bD a (C.ap op (x.bD b) (x.bD c))}
 | .jump a=>some {x with J:=a}
 | .branch a b=>some {x with J:=if x.bD a≠0 then b else x.J+1}
 | .lX a=>some {x with J:=x.J+1,bD:=cI x.bD a pd}
 | .load a s=>some {x with J:=x.J+1,bD:=cI x.bD a (x.sl s)}
 | .sync=>some {x with J:=x.J+1}
 | .spawn _ _ _=>none
 | .ret _=>none
def ent(a:Nat->Int):TS:=⟨0,a,λ_=>0,0⟩
def arg(C:kY)(x:Nat->Int)(g c:Nat):Nat->Int:=λr=>if r<C.params g then x (c+r)else 0
inductive Pre(C:kY):Nat->Int->Nat->TS->TS->Nat->Nat->Prop
 | nil (g:Nat) (pd:Int) (d:Nat) (x:TS):Pre C g pd d x x 0 0
 | Mn {g:Nat} {pd:Int} {d:Nat} {x y z:TS} {n t:Nat} (h:Pre C g pd d x y n t) (e:Mn C g pd y=some z):Pre C g pd d x z (n+1) t
 | spawn {g:Nat} {pd:Int} {d:Nat} {x y z:TS} {n t s f c n1 t1 a:Nat} (h:Pre C g pd d x y n t) (e:C.code g y.J= .spawn s f c) (hd:d<4096)
  (h1:Pre C f (C.pd pd y.bC) (d+1) (ent (arg C y.bD f c)) z n1 t1) (e1:C.code f z.J= .ret a) :
  Pre C g pd d x {y with J:=y.J+1,sl:=cI y.sl s (z.bD a),bC:=y.bC+1} (n+1+(n1+1)) (t+(t1+1))
structure Dsc where
 fn:Nat
 lX:Int
 dp:Nat
 a0:Nat->Int
def Dn(C:kY)(D:Dsc)(r:Int×Nat×Nat):Prop:=∃z a n t,Pre C D.fn D.lX D.dp (ent D.a0) z n t/\C.code D.fn z.J= .ret a/\r=(z.bD a,n+1,t+1)
structure SG where
 pn:Nat->Nat->Option Nat
 ds:Nat->Dsc
 wk:Nat->Nat
 tk:Nat->Nat
def Tj(p:Nat->Option Nat)(m:Nat->Int)(vs:Nat->Int×Nat×Nat)(x:Nat):Int:=match p x with
 | some c=>(vs c).1
 | none=>m x
def wn(p:Nat->Option Nat)(vs:Nat->Int×Nat×Nat)(x:Nat):Nat:=match p x with
 | some c=>(vs c).2.1
 | none=>0
def tn(p:Nat->Option Nat)(vs:Nat->Int×Nat×Nat)(x:Nat):Nat:=match p x with
 | some c=>(vs c).2.2
 | none=>0
def J6(s:St)(f:Nat):Nat->Int:=λx=>s.mem (.slot f x)
def Gl(C:kY)(s:St)(f:Nat):Prop:=∀i,i<C.N->s.pc i= .full->s.hold i≠some f
def AF(C:kY)(s:St)(γ:SG)(f:Nat):Prop:=∀vs:Nat->Int×Nat×Nat,(∀x c,γ.pn f x=some c->Dn C (γ.ds c) (vs c))->
 Pre C (γ.ds f).fn (γ.ds f).lX (γ.ds f).dp (ent (γ.ds f).a0) ⟨(s.fr f).J,(s.fr f).bD,Tj (γ.pn f) (J6 s f) vs,(s.fr f).bC⟩ (γ.wk f+sS (wn (γ.pn f) vs) 8) (γ.tk f+sS (tn (γ.pn f) vs) 8)
structure SI(C:kY)(D0:Dsc)(s:St)(γ:SG)(g:Nat):Prop where
 A:∀f,f<s.nf->live (s.loc f)=true->Gl C s f->AF C s γ f
 D:∀f,f<s.nf->(γ.ds f).fn=(s.fr f).fn/\(γ.ds f).lX=(s.fr f).lX/\(γ.ds f).dp<=f+1
 d0:γ.ds 0=D0
 pn:∀f x c,γ.pn f x=some c->c≠0/\c<s.nf/\(s.fr c).par=f/\(s.fr c).slot=x/\live (s.loc c)=true
 np:∀c,c≠0->c<s.nf->live (s.loc c)=true->γ.pn (s.fr c).par (s.fr c).slot=some c
 z:∀f,s.nf<=f->(∀x,s.mem (.slot f x)=0)/\γ.wk f=0/\γ.tk f=0/\∀x,γ.pn f x=none
 w:sS γ.wk s.nf<=g
theorem Ax{f:Nat->Nat}:∀{n:Nat},(∀j,j<n->f j=0)->sS f n=0
 | 0,_=>rfl
 | n+1,h=>by show sS f n+f n=0;rw[Ax (λj hj=>h j I),h n I]
theorem RA{f:Nat->Nat}{i:Nat}:∀{n:Nat},i<n->f i<=sS f n
 | 0,h=>by omega
 | n+1,h=>by
  show f i<=sS f n+f n;by_cases e:i=n
  ·subst e;omega
  ·have:=RA (f:=f) (i:=i) (n:=n) I;omega
section
variable {C:kY}{φ:P3 C}{s:St}{i:Nat}{σ:Nat->Nat->Nat}{D0:Dsc}{γ:SG}{g:Nat}
theorem SI.of{s':St}(h:SI C D0 s γ g)(h1:s'.fr=s.fr)(h2:s'.nf=s.nf)(hm:∀f x,s'.mem (.slot f x)=s.mem (.slot f x))(hl:∀f,live (s'.loc f)=live (s.loc f))
 (hp:∀j,s.pc j= .full->s'.pc j= .full/\s'.hold j=s.hold j):SI C D0 s' γ (g+1):=by
 refine⟨λf hf hlf hn => ?_,by rw[h1,h2];exact h.D,h.d0,λf x c e=>by rw[h1,h2,hl];exact h.pn f x c e,λc h0 hc hlc=>by rw[h1];exact h.np c h0 (h2▸ hc) (by rw[<-hl];exact hlc),λf hf => ?_,by rw[h2];have:=h.w;omega⟩
 ·have:=h.A f (h2▸ hf) (by rw[<-hl];exact hlf) (λj hj e=>by rw[<-(hp j e).2];exact hn j hj (hp j e).1);unfold AF at this⊢;rw[h1,show J6 s' f=J6 s f from funext (hm f)];exact this
 ·obtain⟨a,b⟩:=h.z f (h2▸ hf);exact⟨λx=>by rw[hm];exact a x,b⟩
theorem ZB(h:SI C D0 s γ g)(sl:SL C φ s σ)(hf:(view s).FI C.N C.F){f x c:Nat}(hw:s.loc f≠.waiting)(e:γ.pn f x=some c):σ f x=2:=by
 obtain⟨c0,cn,cp,cs,cl⟩:=h.pn f x c e;have hg:s.loc c≠.gone:=λe=>by rw[e]at cl;cases cl
 have pf:f<s.nf:=by rw[<-cp];exact hf.pr c cn
 rcases hf.un c c0 cn hg with u | u
 ·have:=(sl.b f pf hw c (by rw[<-cp];exact u)).2;rwa [cs]at this
 ·rw[I0]at u;have e':(view s).loc c=s.loc c:=rfl;rw[e']at u;split at u
  ·next j hj =>
   have hpc:s.pc j= .fork c:=by
    have:=u.2;change sig (s.pc j)= .fork c at this;cases hpj:s.pc j<;>rw[hpj]at this<;>simp only[sig]at this<;>first | (cases this;rfl) | cases this
   have:=(sl.k j c u.1 hpc).2;rwa [cp,cs]at this
  ·exact u.elim
theorem Ay{s':St}(hp:∀j,s.pc j= .full->s'.pc j= .full/\s'.hold j=s.hold j){f:Nat}(h:Gl C s' f):Gl C s f:=
 λj hj e=>by rw[<-(hp j e).2];exact h j hj (hp j e).1
theorem SI.data{s':St}{f:Nat}{y:Fr}(h:SI C D0 s γ g)(hn:f<s.nf)(hl:live (s.loc f)=true)(h1:s'.fr=cI s.fr f y)(h2:s'.nf=s.nf)(hm:∀f x,s'.mem (.slot f x)=s.mem (.slot f x))(hlv:∀f,live (s'.loc f)=live (s.loc f))
 (hp:∀j,s.pc j= .full->s'.pc j= .full/\s'.hold j=s.hold j) (hy:y.fn=(s.fr f).fn/\y.lX=(s.fr f).lX/\y.par=(s.fr f).par/\y.slot=(s.fr f).slot)
 (hs:∀vs,Mn C (s.fr f).fn (s.fr f).lX ⟨(s.fr f).J,(s.fr f).bD,Tj (γ.pn f) (J6 s f) vs,(s.fr f).bC⟩=some ⟨y.J,y.bD,Tj (γ.pn f) (J6 s f) vs,y.bC⟩) :
 SI C D0 s' {γ with wk:=cI γ.wk f (γ.wk f+1)} (g+1):=by
 have hk:∀k,(s'.fr k).fn=(s.fr k).fn/\(s'.fr k).lX=(s.fr k).lX/\(s'.fr k).par=(s.fr k).par/\(s'.fr k).slot=(s.fr k).slot:=λk=>by
  rw[h1,cS];split
  ·next e=>subst e;exact hy
  ·exact⟨rfl,rfl,rfl,rfl⟩
 refine⟨λk hk' hlk hnk => ?_,λk hk' => ?_,h.d0,λk x c e => ?_,λc h0 hc hlc => ?_,λk hk' => ?_,?_⟩
 ·have hA:=h.A k (h2▸ hk') (by rw[<-hlv];exact hlk) (Ay hp hnk);intro vs hv;have hA:=hA vs hv;have TQ:J6 s' k=J6 s k:=funext (hm k);show Pre C (γ.ds k).fn _ _ _ _ (cI γ.wk f (γ.wk f+1) k+_) _;rw[TQ,h1];by_cases e:k=f
  ·subst e;rw[aU,aU];have hd:=h.D k hn;have:=Pre.Mn hA (by rw[hd.1,hd.2.1];exact hs vs)
   rwa [Nat.add_right_comm]at this
  ·rw[aM e,aM e];exact hA
 ·rw[(hk k).1,(hk k).2.1];exact h.D k (h2▸ hk')
 ·rw[(hk c).2.2.1,(hk c).2.2.2,h2,hlv];exact h.pn k x c e
 ·rw[(hk c).2.2.1,(hk c).2.2.2];exact h.np c h0 (h2▸ hc) (by rw[<-hlv];exact hlc)
 ·obtain⟨a,b,c,d⟩:=h.z k (h2▸ hk');exact⟨λx=>by rw[hm];exact a x,by show cI γ.wk f _ k=0;rw[aM (by have:s.nf<=k:=h2▸ hk';omega)];exact b,c,d⟩
 ·rw[h2,uE (f:=γ.wk) (i:=f) (k:=1) hn (λj hj=>aM hj) (aU _ _ _)];have:=h.w;omega
theorem SI.spawn{s':St}{f:Nat}{y c0:Fr}{sl g0 c:Nat}(h:SI C D0 s γ g)(hs:SL C φ s σ)(hr:FR C s)(hf:(view s).FI C.N C.F)(hi:i<C.N)(hh:s.hold i=some f)(hp:s.pc i= .run)
 (hc:C.code (s.fr f).fn (s.fr f).J= .spawn sl g0 c) (h48:s.nf<4096) (h1:s'.fr=cI (cI s.fr f y) s.nf c0) (h2:s'.nf=s.nf+1) (h3:s'.loc=cI s.loc s.nf (.cr i)) (h4:∀f x,s'.mem (.slot f x)=s.mem (.slot f x))
 (h5:∀j,s.pc j= .full->s'.pc j= .full/\s'.hold j=s.hold j) (hy:y={s.fr f with J:=(s.fr f).J+1,bC:=(s.fr f).bC+1}) (hc0:c0=lq C (s.fr f) f sl g0 c) (h8:sl<8) :
 SI C D0 s' {pn:=cI γ.pn f (cI (γ.pn f) sl (some s.nf)),ds:=cI γ.ds s.nf ⟨g0,C.pd (s.fr f).lX (s.fr f).bC,(γ.ds f).dp+1,arg C (s.fr f).bD g0 c⟩,wk:=cI γ.wk f (γ.wk f+1),tk:=γ.tk} (g+1):=by
 obtain⟨hl,hlt⟩:=pZ hf hi hh;have hne:f≠s.nf:=by omega
 obtain⟨b1,b2,b3⟩:=hr f hlt;have hw:s.loc f≠.waiting:=by rcases hf.hold i f hi hh with a | a<;>(have:=a.2;change s.loc f=_ at this;rw[this];simp)
 have WJ:γ.pn f sl=none:=by
  cases e:γ.pn f sl with
  | none=>rfl
  | some k=>exact absurd ((ZB h hs hf hw e)▸ hs.a f hlt hl sl (φ.sp _ _ _ _ _ b1 (b3 hl) hc).1) (φ.sp _ _ _ _ _ b1 (b3 hl) hc).2
 have hk:∀k,k<s.nf->(s'.fr k).fn=(s.fr k).fn/\(s'.fr k).lX=(s.fr k).lX/\(s'.fr k).par=(s.fr k).par/\(s'.fr k).slot=(s.fr k).slot:=λk hk=>by
  rw[h1,aM I,cS];split
  ·next e=>subst e;subst hy;exact⟨rfl,rfl,rfl,rfl⟩
  ·exact⟨rfl,rfl,rfl,rfl⟩
 have WK:s'.fr s.nf=c0:=by rw[h1,aU]
 have hlk:∀k,k≠s.nf->s'.loc k=s.loc k:=λk hk=>by rw[h3,aM hk]
 have TQ:∀k,J6 s' k=J6 s k:=λk=>funext (h4 k);have hD:=h.D f hlt;have dsn:∀k,k≠s.nf->cI γ.ds s.nf ⟨g0,C.pd (s.fr f).lX (s.fr f).bC,(γ.ds f).dp+1,arg C (s.fr f).bD g0 c⟩ k=γ.ds k:=λk hk=>aM hk;have adX:∀k x q,γ.pn k x=some q->q≠s.nf:=λk x q e=>by have:=(h.pn k x q e).2.1;omega
 refine⟨λk hk' Wi hnk => ?_,λk hk' => ?_,?_,λk x q e => ?_,λq q0 hq hlq => ?_,λk hk' => ?_,?_⟩
 ·intro vs hv;simp only at hv⊢;by_cases e:k=s.nf
  ·subst e;obtain⟨z1,z2,z3,z4⟩:=h.z s.nf (jU _);have pz:cI γ.pn f (cI (γ.pn f) sl (some s.nf)) s.nf=γ.pn s.nf:=aM (Ne.symm hne);rw[aU,pz,WK,aM (Ne.symm hne),z2,z3,TQ,Ax (λj _=>by unfold wn;rw[z4]),Ax (λj _=>by unfold tn;rw[z4])];have e1:Tj (γ.pn s.nf) (J6 s s.nf) vs=λ_=>0:=funext λx=>by unfold Tj;rw[z4];exact z1 x
   rw[e1,hc0];exact Pre.nil _ _ _ _
  ·have hk2:k<s.nf:=by rw[h2]at hk';omega
   have hA:=h.A k hk2 (by rw[<-hlk k e];exact Wi) (Ay h5 hnk);rw[dsn k e,TQ];by_cases e2:k=f
   ·subst e2;rw[aU]at hv⊢;have hfr:s'.fr k=y:=by rw[h1,aM e,aU]
    rw[hfr,aU];have hA:=hA vs (λx q hq=>by
     have:=hv x q (by rw[aM (λe=>by subst e;rw[WJ]at hq;cases hq)];exact hq)
     rwa [dsn q (adX _ _ _ hq)]at this)
    have To:=hv sl s.nf (by rw[aU]);rw[aU]at To;obtain⟨z,a,n1,t1,Y,p2,p3⟩:=To;have ed:=h.D k hlt;have:=Pre.spawn hA (by rw[ed.1];exact hc) (by have:=ed.2.2;omega) (z:=z) (n1:=n1) (t1:=t1) (a:=a) (by rw[ed.2.1];exact Y) p2;have f1:Tj (cI (γ.pn k) sl (some s.nf)) (J6 s k) vs=cI (Tj (γ.pn k) (J6 s k) vs) sl (z.bD a):=funext λx=>by
     unfold Tj;by_cases ex:x=sl
     ·subst ex;rw[aU,aU];simp only[p3]
     ·rw[aM ex,aM ex]
    have s1:sS (wn (cI (γ.pn k) sl (some s.nf)) vs) 8=sS (wn (γ.pn k) vs) 8+(n1+1):=uE h8 (λj hj=>by unfold wn;rw[aM hj]) (by unfold wn;rw[aU,WJ];simp only[p3];omega);have s2:sS (tn (cI (γ.pn k) sl (some s.nf)) vs) 8=sS (tn (γ.pn k) vs) 8+(t1+1):=uE h8 (λj hj=>by unfold tn;rw[aM hj]) (by unfold tn;rw[aU,WJ];simp only[p3];omega);rw[f1,s1,s2,hy];rw[show γ.wk k+1+(sS (wn (γ.pn k) vs) 8+(n1+1))=γ.wk k+sS (wn (γ.pn k) vs) 8+1+(n1+1) by omega,show γ.tk k+(sS (tn (γ.pn k) vs) 8+(t1+1))=γ.tk k+sS (tn (γ.pn k) vs) 8+(t1+1) by omega];exact this
   ·rw[aM e2]at hv⊢;have hfr:s'.fr k=s.fr k:=by rw[h1,aM e,aM e2]
    rw[hfr,aM e2];exact hA vs (λx q hq=>by have:=hv x q hq;rwa [dsn q (adX _ _ _ hq)]at this)
 ·show(cI γ.ds s.nf _ k).fn=_/\(cI γ.ds s.nf _ k).lX=_/\(cI γ.ds s.nf _ k).dp<=_;by_cases e:k=s.nf
  ·subst e;rw[aU,WK,hc0];exact⟨rfl,rfl,by show(γ.ds f).dp+1<=_;have:=hD.2.2;omega⟩
  ·have hk2:k<s.nf:=by rw[h2]at hk';omega
   rw[dsn k e,(hk k hk2).1,(hk k hk2).2.1];exact h.D k hk2
 ·show cI γ.ds s.nf _ 0=D0;rw[dsn 0 I];exact h.d0
 ·have e:cI γ.pn f (cI (γ.pn f) sl (some s.nf)) k x=some q:=e;have old:γ.pn k x=some q->q≠0/\q<s'.nf/\(s'.fr q).par=k/\(s'.fr q).slot=x/\live (s'.loc q)=true:=λe=>by
   obtain⟨a,b,c,d,e⟩:=h.pn k x q e;exact⟨a,I,by rw[(hk q b).2.2.1];exact c,by rw[(hk q b).2.2.2];exact d,by rw[hlk q I];exact e⟩
  by_cases e1:k=f
  ·subst e1;rw[aU]at e;by_cases e2:x=sl
   ·subst e2;rw[aU]at e;cases e;exact⟨I,I,by rw[WK,hc0];rfl,by rw[WK,hc0];rfl,by rw[h3,aU];rfl⟩
   ·rw[aM e2]at e;exact old e
  ·rw[aM e1]at e;exact old e
 ·show cI γ.pn f (cI (γ.pn f) sl (some s.nf)) _ _=some q;by_cases e:q=s.nf
  ·subst e;rw[WK,hc0];show cI γ.pn f (cI (γ.pn f) sl (some s.nf)) f sl=_;rw[aU,aU]
  ·have hq2:q<s.nf:=by rw[h2]at hq;omega
   rw[(hk q hq2).2.2.1,(hk q hq2).2.2.2];have:=h.np q q0 hq2 (by rw[<-hlk q e];exact hlq);rw[cS];split
   ·next e1 =>
    rw[cS];split
    ·next e2=>rw[e1,e2,WJ]at this;cases this
    ·rw[<-e1];exact this
   ·exact this
 ·obtain⟨a,b,c',d⟩:=h.z k I;refine⟨λx=>by rw[h4];exact a x,by show cI γ.wk f _ k=0;rw[aM I];exact b,c',λx => ?_⟩;show cI γ.pn f _ k x=none;rw[aM I];exact d x
 ·rw[h2];show sS (cI γ.wk f (γ.wk f+1)) s.nf+cI γ.wk f (γ.wk f+1) s.nf<=g+1;rw[uE (f:=γ.wk) (i:=f) (k:=1) hlt (λj hj=>aM hj) (aU _ _ _),aM (Ne.symm hne),(h.z s.nf (jU _)).2.1];have:=h.w;omega
theorem SI.done(h:SI C D0 s γ g){f a:Nat}(hn:f<s.nf)(hl:live (s.loc f)=true)(VO:Gl C s f)(hk:∀x,γ.pn f x=none)(hc:C.code (s.fr f).fn (s.fr f).J= .ret a):Dn C (γ.ds f) ((s.fr f).bD a,γ.wk f+1,γ.tk f+1):=by
 have:=h.A f hn hl VO (λ_=>(0,0,0)) (λx c e=>by rw[hk]at e;cases e);rw[Ax (λj _=>by unfold wn;rw[hk]),Ax (λj _=>by unfold tn;rw[hk])]at this;exact⟨_,a,_,_,this,by rw[(h.D f hn).1];exact hc,rfl⟩
theorem Tk(h:SI C D0 s γ g)(hf:(view s).FI C.N C.F){f:Nat}(hk:s.bC f=[])(hl:∀j c,j<C.N->s.pc j= .fork c->(s.fr c).par≠f)(x:Nat):γ.pn f x=none:=by
 cases e:γ.pn f x with
 | none=>rfl
 | some c =>
  exfalso
  obtain⟨c0,cn,cp,cs,cl⟩:=h.pn f x c e;have hg:s.loc c≠.gone:=λe=>by rw[e]at cl;cases cl
  rcases hf.un c c0 cn hg with u | u
  ·have u:c∈s.bC (s.fr c).par:=u;rw[cp,hk]at u;cases u
  ·rw[I0]at u;have e':(view s).loc c=s.loc c:=rfl;rw[e']at u;split at u
   ·next j hj =>
    have hpc:s.pc j= .fork c:=by
     have:=u.2;change sig (s.pc j)= .fork c at this;cases hpj:s.pc j<;>rw[hpj]at this<;>simp only[sig]at this<;>first | (cases this;rfl) | cases this
    exact hl j c u.1 hpc cp
   ·exact u.elim
theorem SI.ret{s':St}{f a:Nat}{y:Fr}(h:SI C D0 s γ g)(hr:FR C s)(hf:(view s).FI C.N C.F)(hn:f<s.nf)(h0:f≠0)(hl:live (s.loc f)=true)(VO:Gl C s f)(hk:∀x,γ.pn f x=none)
 (hc:C.code (s.fr f).fn (s.fr f).J= .ret a) (h1:s'.fr=cI s.fr f y) (h2:s'.nf=s.nf) (h3:s'.loc=cI s.loc f (.fin i)) (h4:∀k x,s'.mem (.slot k x)=if k=(s.fr f).par/\x=(s.fr f).slot then(s.fr f).bD a else s.mem (.slot k x))
 (h5:∀j,s.pc j= .full->s'.pc j= .full/\s'.hold j=s.hold j) (hy:y={s.fr f with J:=(s.fr f).J+1}) :
 SI C D0 s' {pn:=cI γ.pn (s.fr f).par (cI (γ.pn (s.fr f).par) (s.fr f).slot none),ds:=γ.ds,wk:=cI (cI γ.wk (s.fr f).par (γ.wk (s.fr f).par+(γ.wk f+1))) f 0,tk:=cI (cI γ.tk (s.fr f).par (γ.tk (s.fr f).par+(γ.tk f+1))) f 0} (g+1):=by
 have hpf:=h.np f h0 hn hl;have hdn:=h.done hn hl VO hk hc;generalize hp:(s.fr f).par=p at *;generalize hx:(s.fr f).slot=x0 at *;have WJ:p<s.nf:=by rw[<-hp];exact hf.pr f hn
 have hne:p≠f:=λe=>by rw[e,hk]at hpf;cases hpf
 have h8:x0<8:=by rw[<-hx];exact(hr f hn).2.1
 have hfr:∀k,(s'.fr k).fn=(s.fr k).fn/\(s'.fr k).lX=(s.fr k).lX/\(s'.fr k).par=(s.fr k).par/\(s'.fr k).slot=(s.fr k).slot:=λk=>by
  rw[h1,cS];split
  ·next e=>subst e;subst hy;exact⟨rfl,rfl,rfl,rfl⟩
  ·exact⟨rfl,rfl,rfl,rfl⟩
 have hlv:∀k,k≠f->s'.loc k=s.loc k:=λk e=>by rw[h3,aM e]
 have YX:live (s'.loc f)=false:=by rw[h3,aU];rfl
 have pnq:∀k x c,cI γ.pn p (cI (γ.pn p) x0 none) k x=some c->γ.pn k x=some c/\¬(k=p/\x=x0):=λk x c e=>by
  rw[cS]at e;split at e
  ·next e1 =>
   subst e1;rw[cS]at e;split at e
   ·cases e
   ·next e2=>exact⟨e,λe'=>e2 e'.2⟩
  ·next e1=>exact⟨e,λe'=>e1 e'.1⟩
 have nf_:∀k x c,γ.pn k x=some c->¬(k=p/\x=x0)->c≠f:=λk x c e hxx e'=>by
  obtain⟨_,_,a,b,_⟩:=h.pn k x c e;exact hxx ⟨by rw[<-a,e',hp],by rw[<-b,e',hx]⟩
 refine⟨λk hk' Wi hnk => ?_,λk hk' => ?_,h.d0,λk x c e => ?_,λq q0 hq hlq => ?_,λk hk' => ?_,?_⟩
 ·have ekf:k≠f:=λe=>by rw[e,YX]at Wi;cases Wi
  have hA:=h.A k (h2▸ hk') (by rw[<-hlv k ekf];exact Wi) (Ay h5 hnk);intro vs hv;simp only at hv⊢;have hfk:s'.fr k=s.fr k:=by rw[h1,aM ekf]
  rw[hfk,aM ekf,aM ekf];by_cases e:k=p
  ·subst e;rw[aU]at hv⊢;rw[aU,aU];have hA:=hA (cI vs f ((s.fr f).bD a,γ.wk f+1,γ.tk f+1)) (λx q hq=>by
    by_cases e:x=x0
    ·subst e;rw[hpf]at hq;cases hq;rw[aU];exact hdn
    ·have:=nf_ k x q hq (λe'=>e e'.2);rw[aM this];exact hv x q (by rw[aM e];exact hq))
   have vq:∀x q,x≠x0->γ.pn k x=some q->cI vs f ((s.fr f).bD a,γ.wk f+1,γ.tk f+1) q=vs q:=λx q e hq=>aM (nf_ k x q hq (λe'=>e e'.2));have f1:Tj (cI (γ.pn k) x0 none) (J6 s' k) vs=Tj (γ.pn k) (J6 s k) (cI vs f ((s.fr f).bD a,γ.wk f+1,γ.tk f+1)):=funext λx=>by
    unfold Tj J6;by_cases e:x=x0
    ·subst e;rw[aU,hpf,h4,aP ⟨rfl,rfl⟩];simp only[aU]
    ·rw[aM e,h4,cu (λe'=>e e'.2)];cases hq:γ.pn k x with
     | none=>rfl
     | some q=>simp only;rw[vq x q e hq]
   have s1:sS (wn (γ.pn k) (cI vs f ((s.fr f).bD a,γ.wk f+1,γ.tk f+1))) 8=sS (wn (cI (γ.pn k) x0 none) vs) 8+(γ.wk f+1):=uE h8 (λj hj=>by
    unfold wn;rw[aM hj];cases hq:γ.pn k j with
    | none=>rfl
    | some q=>simp only;rw[vq j q hj hq]) (by unfold wn;rw[aU,hpf];simp only[aU];omega)
   have s2:sS (tn (γ.pn k) (cI vs f ((s.fr f).bD a,γ.wk f+1,γ.tk f+1))) 8=sS (tn (cI (γ.pn k) x0 none) vs) 8+(γ.tk f+1):=uE h8 (λj hj=>by
    unfold tn;rw[aM hj];cases hq:γ.pn k j with
    | none=>rfl
    | some q=>simp only;rw[vq j q hj hq]) (by unfold tn;rw[aU,hpf];simp only[aU];omega)
   rw[s1,s2,<-f1]at hA;rw[show γ.wk k+(γ.wk f+1)+sS (wn (cI (γ.pn k) x0 none) vs) 8=γ.wk k+(sS (wn (cI (γ.pn k) x0 none) vs) 8+(γ.wk f+1)) by omega,show γ.tk k+(γ.tk f+1)+sS (tn (cI (γ.pn k) x0 none) vs) 8=γ.tk k+(sS (tn (cI (γ.pn k) x0 none) vs) 8+(γ.tk f+1)) by omega];exact hA
  ·rw[aM e]at hv⊢;rw[aM e,aM e];have hA:=hA vs hv;have:J6 s' k=J6 s k:=funext λx=>by unfold J6;rw[h4,cu (λe'=>e e'.1)]
   rw[this];exact hA
 ·rw[(hfr k).1,(hfr k).2.1];exact h.D k (h2▸ hk')
 ·obtain⟨e1,e2⟩:=pnq k x c e;have:=nf_ k x c e1 e2;rw[(hfr c).2.2.1,(hfr c).2.2.2,h2,hlv c this];exact h.pn k x c e1
 ·have eqf:q≠f:=λe=>by rw[e,YX]at hlq;cases hlq
  have:=h.np q q0 (h2▸ hq) (by rw[<-hlv q eqf];exact hlq);rw[(hfr q).2.2.1,(hfr q).2.2.2];show cI γ.pn p (cI (γ.pn p) x0 none) _ _=some q;rw[cS];split
  ·next e1 =>
   rw[cS];split
   ·next e2=>rw[e1,e2,hpf]at this;exact absurd (Option.some.inj this).symm eqf
   ·rw[<-e1];exact this
  ·exact this
 ·have hk2:s.nf<=k:=h2▸ hk';obtain⟨a',b,c',d⟩:=h.z k hk2;refine⟨λx=>by rw[h4,cu (λe=>I)];exact a' x,?_,?_,λx => ?_⟩
  ·show cI (cI γ.wk p _) f 0 k=0;rw[aM I,aM I];exact b
  ·show cI (cI γ.tk p _) f 0 k=0;rw[aM I,aM I];exact c'
  ·show cI γ.pn p _ k x=none;rw[aM I];exact d x
 ·rw[h2];show sS (cI (cI γ.wk p (γ.wk p+(γ.wk f+1))) f 0) s.nf<=g+1;have a1:=uE (f:=cI (cI γ.wk p (γ.wk p+(γ.wk f+1))) f 0) (g:=cI γ.wk p (γ.wk p+(γ.wk f+1))) (i:=f) (k:=γ.wk f) hn (λj hj=>(aM hj).symm) (by rw[aM (Ne.symm hne),aU];omega);have a2:=uE (f:=γ.wk) (g:=cI γ.wk p (γ.wk p+(γ.wk f+1))) (i:=p) (k:=γ.wk f+1) WJ (λj hj=>aM hj) (aU _ _ _);have:=h.w;omega
end
section
variable {C:kY}{φ:P3 C}{s:St}{i:Nat}{σ:Nat->Nat->Nat}{D0:Dsc}{γ:SG}{g:Nat}
theorem tv{s':St}{p:Pc}(hi:s.pc i≠.full)(h1:s'.pc=cI s.pc i p)(h2:s'.hold=s.hold∨∃x,s'.hold=cI s.hold i x):∀j,s.pc j= .full->s'.pc j= .full/\s'.hold j=s.hold j:=λj hj=>by
 have e:j≠i:=λe=>hi (e▸ hj);refine⟨by rw[h1,aM e,hj],?_⟩;rcases h2 with h2 | ⟨x,h2⟩
 ·rw[h2]
 ·rw[h2,aM e]
theorem BF{f:Nat}{l:Loc}(h:live l=live (s.loc f))(k:Nat):live (cI s.loc f l k)=live (s.loc k):=by
 rw[cS];split
 ·next e=>subst e;exact h
 ·rfl
def Rt(C:kY)(D0:Dsc)(g:Nat)(o:Option Ev):Prop:=∀e,o=some e->e.kind=6->e.ay=0->∃n t,Dn C D0 (e.v,n,t)/\n<=g+1
theorem SI.Tm{s':St}{f:Nat}{y:Fr}(h:SI C D0 s γ g)(hi:i<C.N)(hp':s.pc i≠.full)(hh:s'.hold i=some f)(hp:s'.pc i= .full)(h1:s'.fr=cI s.fr f y)(h2:s'.nf=s.nf)(hm:∀f x,s'.mem (.slot f x)=s.mem (.slot f x))(h3:s'.loc=s.loc)
 (h5:∀j,s.pc j= .full->s'.pc j= .full/\s'.hold j=s.hold j) (hy:y.fn=(s.fr f).fn/\y.lX=(s.fr f).lX/\y.par=(s.fr f).par/\y.slot=(s.fr f).slot):SI C D0 s' γ (g+1):=by
 have hk:∀k,(s'.fr k).fn=(s.fr k).fn/\(s'.fr k).lX=(s.fr k).lX/\(s'.fr k).par=(s.fr k).par/\(s'.fr k).slot=(s.fr k).slot:=λk=>by
  rw[h1,cS];split
  ·next e=>subst e;exact hy
  ·exact⟨rfl,rfl,rfl,rfl⟩
 refine⟨λk hk' hlk hnk => ?_,λk hk' => ?_,h.d0,λk x c e => ?_,λc h0 hc hlc => ?_,λk hk' => ?_,by rw[h2];have:=h.w;omega⟩
 ·have ekf:k≠f:=λe=>hnk i hi hp (e▸ hh);have hA:=h.A k (h2▸ hk') (by rw[<-h3];exact hlk) (Ay h5 hnk);intro vs hv;rw[h1,aM ekf,show J6 s' k=J6 s k from funext (hm k)];exact hA vs hv
 ·rw[(hk k).1,(hk k).2.1];exact h.D k (h2▸ hk')
 ·rw[(hk c).2.2.1,(hk c).2.2.2,h2,h3];exact h.pn k x c e
 ·rw[(hk c).2.2.1,(hk c).2.2.2];exact h.np c h0 (h2▸ hc) (by rw[<-h3];exact hlc)
 ·obtain⟨a,b⟩:=h.z k (h2▸ hk');exact⟨λx=>by rw[hm];exact a x,b⟩
theorem SI.instr(hC:C.OK)(h:SI C D0 s γ g)(hs:SL C φ s σ)(hr:FR C s)(hf:(view s).FI C.N C.F)(hi:i<C.N)(hp:s.pc i= .run) :
 (∃γ',SI C D0 (instr C s i).s γ' (g+1))/\Rt C D0 g (instr C s i).ev:=by
 obtain⟨f,hh⟩:=sG hf hi (by rw[hp];rfl);obtain⟨hl,hn⟩:=pZ hf hi hh;obtain⟨a1,a2,a3⟩:=hr f hn;have a3:=a3 hl;have ok:=hC.ins _ a1 _ a3;have VO:Gl C s f:=λj hj e e'=>by
  have:=yH hf hj hi e' hh;subst this;rw[hp]at e;cases e
 have hw:s.loc f≠.waiting:=by rcases hf.hold i f hi hh with a | a<;>(have:=a.2;change s.loc f=_ at this;rw[this];simp)
 have nfp:s.pc i≠.full:=by rw[hp];simp
 have same:∀j,s.pc j= .full->s.pc j= .full/\s.hold j=s.hold j:=λj hj=>⟨hj,rfl⟩;have ZC:∀{k:Nat} {a b c:Int},k≠6->Rt C D0 g (ev k a b c):=λhk e he=>by cases he;exact λh=>absurd h hk
 have Gm:Rt C D0 g none:=λe he=>by cases he
 have held:s.loc f= .held i:=by
  rcases hf.hold i f hi hh with a | a
  ·have:sig (s.pc i)= .one:=a.1;rw[hp]at this;cases this
  ·exact a.2
 unfold NN at ok;unfold Am.instr;simp only[hh,pK];split<;>rename_i hc<;>rw[hc]at ok<;>simp only at ok
 ·exact⟨⟨_,h.data hn hl rfl rfl (λ_ _=>rfl) (λ_=>rfl) same ⟨rfl,rfl,rfl,rfl⟩ (λvs=>by unfold Mn;simp only[hc])⟩,Gm⟩
 ·exact⟨⟨_,h.data hn hl rfl rfl (λ_ _=>rfl) (λ_=>rfl) same ⟨rfl,rfl,rfl,rfl⟩ (λvs=>by unfold Mn;simp only[hc])⟩,Gm⟩
 ·exact⟨⟨_,h.data hn hl rfl rfl (λ_ _=>rfl) (λ_=>rfl) same ⟨rfl,rfl,rfl,rfl⟩ (λvs=>by unfold Mn;simp only[hc])⟩,Gm⟩
 ·exact⟨⟨_,h.data hn hl rfl rfl (λ_ _=>rfl) (λ_=>rfl) same ⟨rfl,rfl,rfl,rfl⟩ (λvs=>by unfold Mn;simp only[hc])⟩,Gm⟩
 ·exact⟨⟨_,h.data hn hl rfl rfl (λ_ _=>rfl) (λ_=>rfl) same (by split<;>exact⟨rfl,rfl,rfl,rfl⟩) (λvs=>by unfold Mn;simp only[hc];split<;>rfl)⟩,Gm⟩
 ·exact⟨⟨_,h.data hn hl rfl rfl (λ_ _=>rfl) (λ_=>rfl) same ⟨rfl,rfl,rfl,rfl⟩ (λvs=>by unfold Mn;simp only[hc])⟩,Gm⟩
 ·rename_i a sl;have WJ:γ.pn f sl=none:=by
   obtain⟨l1,l2,l3⟩:=φ.ld _ _ _ _ a1 a3 hc;cases e:γ.pn f sl with
   | none=>rfl
   | some k=>exact absurd ((ZB h hs hf hw e)▸ hs.a f hn hl sl l1) l3
  exact⟨⟨_,h.data hn hl rfl rfl (λ_ _=>rfl) (λ_=>rfl) same ⟨rfl,rfl,rfl,rfl⟩ (λvs=>by
   unfold Mn;simp only[hc];have:Tj (γ.pn f) (J6 s f) vs sl=s.mem (.slot f sl):=by unfold Tj;rw[WJ];rfl
   rw[this])⟩,Gm⟩
 ·rename_i sl g0 c;split
  ·exact⟨⟨_,h.Tm (f:=f) (y:={s.fr f with J:=(s.fr f).J+1}) hi nfp hh (aU _ _ _) rfl rfl (λ_ _=>rfl) rfl (tv (p:=.full) nfp rfl (.inl rfl)) ⟨rfl,rfl,rfl,rfl⟩⟩,ZC eC⟩
  ·rename_i hx;have hF:=hC.f4;have hnx:=hf.nx;have hnx:s.mem .next=s.nf∨(s.nf=C.F/\(C.F:Int)<=s.mem .next):=hnx;have hnF:s.nf<=C.F:=hf.yj;have h48:s.nf<4096:=by rcases hnx with e | e<;>omega
   refine⟨⟨_,h.spawn (f:=f) (y:={s.fr f with J:=(s.fr f).J+1,bC:=(s.fr f).bC+1}) (c0:=lq C (s.fr f) f sl g0 c) hs hr hf hi hh hp hc h48 ?_ rfl rfl (λ_ _=>rfl) (tv (p:=.fork s.nf) nfp rfl (.inl rfl)) rfl rfl ok.1⟩,Gm⟩;show cI (cI (cI s.fr f _) f _) s.nf _=_;rw[Ru]
 ·split
  ·exact⟨⟨_,h.data hn hl rfl rfl (λ_ _=>rfl) (BF (s:=s) (f:=f) (by rw[held];rfl)) (tv (p:=.E3) nfp rfl (.inr ⟨none,rfl⟩)) ⟨rfl,rfl,rfl,rfl⟩ (λvs=>by unfold Mn;simp only[hc])⟩,ZC eC⟩
  ·exact⟨⟨_,h.data hn hl rfl rfl (λ_ _=>rfl) (BF (s:=s) (f:=f) (by rw[held];rfl)) (tv (p:=.ru) nfp rfl (.inl rfl)) ⟨rfl,rfl,rfl,rfl⟩ (λvs=>by unfold Mn;simp only[hc])⟩,Gm⟩
 ·rename_i a;have hk:=hs.Oe hr hf hi hh hc;have hkn:=Tk h hf hk (λj c hj e e'=>by
   have q:=(hf.fk j c hj (by show sig (s.pc j)=_;rw[e];rfl)).2.2.1;have q:s.hold j=some (s.fr c).par:=q;rw[e']at q;have:=yH hf hj hi q hh;subst this;rw[hp]at e;cases e)
  split
  ·next e0 =>
   subst e0;have hd:=h.done hn hl VO hkn hc;rw[h.d0]at hd;have hwk:γ.wk 0<=g:=Fu (RA hn) h.w;refine⟨⟨γ,?_⟩,λe he _ _ => ?_⟩
   rotate_left
   ·cases he;exact⟨_,_,hd,I⟩
   ·have hno:∀x,γ.pn 0 x=none:=hkn;refine⟨λk hk' hlk hnk => ?_,λk hk' => ?_,h.d0,λk x c e => ?_,λc h0 FV hlc => ?_,λk hk' => ?_,by have:=h.w;exact Nat.le_succ_of_le this⟩
    ·have ek:k≠0:=λe=>by subst e;have hlk:live (cI s.loc 0 (.fin i) 0)=true:=hlk;rw[aU]at hlk;cases hlk
     have hlk:live (cI s.loc 0 (.fin i) k)=true:=hlk;rw[aM ek]at hlk;have hA:=h.A k hk' hlk (Ay (tv (p:=.done) nfp rfl (.inr ⟨none,rfl⟩)) hnk);intro vs hv;show Pre C _ _ _ _ ⟨(cI s.fr 0 _ k).J,(cI s.fr 0 _ k).bD,_,(cI s.fr 0 _ k).bC⟩ _ _;rw[aM ek];exact hA vs hv
    ·show(γ.ds k).fn=(cI s.fr 0 _ k).fn/\(γ.ds k).lX=(cI s.fr 0 _ k).lX/\_;have:=h.D k hk';rw[cS];split
     ·next e=>subst e;exact this
     ·exact this
    ·obtain⟨b1,b2,b3,b4,b5⟩:=h.pn k x c e;show c≠0/\c<s.nf/\(cI s.fr 0 _ c).par=k/\(cI s.fr 0 _ c).slot=x/\live (cI s.loc 0 _ c)=true;rw[aM b1,aM b1];exact⟨b1,b2,b3,b4,b5⟩
    ·have hlc:live (cI s.loc 0 (.fin i) c)=true:=hlc;rw[aM h0]at hlc;show γ.pn (cI s.fr 0 _ c).par (cI s.fr 0 _ c).slot=some c;rw[aM h0];exact h.np c h0 FV hlc
    ·exact h.z k hk'
  ·next e0 =>
   refine⟨⟨_,h.ret (i:=i) (f:=f) (a:=a) (y:={s.fr f with J:=(s.fr f).J+1}) hr hf hn e0 hl VO hkn hc rfl rfl rfl (λk x => ?_) (tv (p:=.out (s.fr f).par f) nfp rfl (.inr ⟨none,rfl⟩)) rfl⟩,λe he h1 h2 => ?_⟩
   ·show cI s.mem (.slot (s.fr f).par (s.fr f).slot) ((s.fr f).bD a) (.slot k x)=_;rw[cS];simp only[vN.slot.injEq]
   ·cases he;exact absurd h2 (by show ¬(f:Int)=0;omega)
theorem SI.aJ(hC:C.OK)(h:SI C D0 s γ g)(hs:SL C φ s σ)(hr:FR C s)(hf:(view s).FI C.N C.F)(hd:DT C s)(hi:i<C.N)(d:Int) :
 (∃γ',SI C D0 (aJ C s i d).s γ' (g+1))/\Rt C D0 g (aJ C s i d).ev:=by
 have ZC:∀{k:Nat} {a b c:Int},k≠6->Rt C D0 g (ev k a b c):=λhk e he=>by cases he;exact λh=>absurd h hk
 have Gm:Rt C D0 g none:=λe he=>by cases he
 cases hp:s.pc i with
 | run=>unfold Am.aJ;rw[hp];exact SI.instr hC h hs hr hf hi hp
 | halted=>unfold Am.aJ;rw[hp];exact⟨⟨γ,h.of rfl rfl (λ_ _=>rfl) (λ_=>rfl) (λj hj=>⟨hj,rfl⟩)⟩,Gm⟩
 | full=>unfold Am.aJ;rw[hp];exact⟨⟨γ,h.of rfl rfl (λ_ _=>rfl) (λ_=>rfl) (λj hj=>⟨hj,rfl⟩)⟩,Gm⟩
 | ru =>
  obtain⟨f,hh⟩:=sG hf hi (by rw[hp];rfl);unfold Am.aJ;rw[hp];simp only[hh,pK];exact⟨⟨γ,h.of rfl rfl (λ_ _=>rfl) (BF (s:=s) (f:=f) (by rw[(pZ hf hi hh).1];rfl)) (tv (i:=i) (p:=.run) (by rw[hp];simp) rfl (.inl rfl))⟩,ZC eC⟩
 | out p c =>
  have hg:(view s).g i= .out p c:=by show sig (s.pc i)=_;rw[hp];rfl
  have hc:s.loc c= .fin i:=(hf.out i p c hi hg).2.1;unfold Am.aJ;rw[hp];simp only;split
  ·rename_i hn;have hw:s.loc p= .waiting:=(hf.iV hi hg hn).1;refine⟨⟨γ,h.of rfl rfl (λ_ _=>rfl) (λk => ?_) (tv (i:=i) (p:=.take p c) (by rw[hp];simp) rfl (.inl rfl))⟩,Gm⟩;show live (cI (cI s.loc c .gone) p (.uU i) k)=live (s.loc k);rw[cS];split
   ·next e=>subst e;rw[hw];rfl
   ·exact BF (s:=s) (f:=c) (by rw[hc];rfl) k
  ·exact⟨⟨γ,h.of rfl rfl (λ_ _=>rfl) (BF (s:=s) (f:=c) (by rw[hc];rfl)) (tv (i:=i) (p:=.E3) (by rw[hp];simp) rfl (.inl rfl))⟩,Gm⟩
 | take p c =>
  have hg:(view s).g i= .take p c:=by show sig (s.pc i)=_;rw[hp];rfl
  unfold Am.aJ;rw[hp];simp only;exact⟨⟨γ,h.of rfl rfl (λ_ _=>rfl) (BF (s:=s) (f:=p) (by rw[show s.loc p= .uU i from hf.tk i p c hi hg];rfl)) (tv (i:=i) (p:=.run) (by rw[hp];simp) rfl (.inr ⟨some p,rfl⟩))⟩,ZC eC⟩
 | ry c b =>
  have hg:(view s).g i= .push c:=by show sig (s.pc i)=_;rw[hp];rfl
  unfold Am.aJ;rw[hp];simp only;exact⟨⟨γ,h.of rfl rfl (λ_ _=>rfl) (BF (s:=s) (f:=c) (by rw[show s.loc c= .cr i from(hf.ps i c hi hg).2.1];rfl)) (tv (i:=i) (p:=.IY) (by rw[hp];simp) rfl (.inl rfl))⟩,ZC eC⟩
 | Eb b =>
  have P:=(hd.1 i hi).ph;unfold rz at P;rw[hp]at P;simp only at P;unfold Am.aJ;rw[hp];simp only;split
  ·rename_i hlt;have hne:s.q i≠[]:=by
    intro e;simp only[St.L,St.T,e,yX]at P;omega
   have hm:(s.q i).getLastD 0∈s.q i:=by
    rw[Mv,List.getLast?_eq_some_getLast hne];exact List.getLast_mem hne
   have e:s.loc ((s.q i).getLastD 0)= .Ow i:=(hf.q i _ hi hm).2;exact⟨⟨γ,h.of rfl rfl (λ_ _=>rfl) (BF (s:=s) (f:=(s.q i).getLastD 0) (by rw[e];rfl)) (tv (i:=i) (p:=.wo b (s.mem (.top i))) (by rw[hp];simp) rfl (.inl rfl))⟩,Gm⟩
  ·split<;>exact⟨⟨γ,h.of rfl rfl (λ_ _=>rfl) (λ_=>rfl) (tv (i:=i) (by rw[hp];simp) rfl (.inl rfl))⟩,Gm⟩
 | sF b t cc =>
  have P:=(hd.1 i hi).ph;unfold rz at P;rw[hp]at P;simp only at P;unfold Am.aJ;rw[hp];simp only;split
  ·rename_i hlt;obtain⟨x,hx,he⟩:=(P.1.2.2.2.1 hlt).2.2;rw[<-P.2]at he;rw[he];have e:s.loc x= .pop i:=(hf.pop i x hi hx).2;refine⟨⟨γ,h.of rfl rfl (λ_ _=>rfl) (BF (s:=s) (f:=x) (l:=.held i) (by rw[e];rfl)) (tv (i:=i) (p:=.start (-1)) (by rw[hp];simp) rfl (.inr ⟨some x,rfl⟩))⟩,Gm⟩
  ·exact⟨⟨γ,h.of rfl rfl (λ_ _=>rfl) (λ_=>rfl) (tv (i:=i) (by rw[hp];simp) rfl (.inl rfl))⟩,Gm⟩
 | uT b t x =>
  have P:=(hd.1 i hi).ph;unfold rz at P;rw[hp]at P;simp only at P;unfold Am.aJ;rw[hp];simp only;split
  ·rename_i ht;have hq:=(P.2.2.2.2.1 ht).1;have e:s.loc x.toNat= .Ow i:=(hf.q i _ hi (by show x.toNat∈s.q i;rw[hq];simp)).2;exact⟨⟨γ,h.of rfl rfl (λ_ _=>rfl) (BF (s:=s) (f:=x.toNat) (by rw[e];rfl)) (tv (i:=i) (p:=.tc t x true) (by rw[hp];simp) rfl (.inl rfl))⟩,Gm⟩
  ·exact⟨⟨γ,h.of rfl rfl (λ_ _=>rfl) (λ_=>rfl) (tv (i:=i) (by rw[hp];simp) rfl (.inl rfl))⟩,Gm⟩
 | tc t x BI =>
  have P:=(hd.1 i hi).ph;unfold rz at P;rw[hp]at P;simp only at P;unfold Am.aJ;rw[hp];simp only;split
  ·rename_i hw;have e:s.loc x.toNat= .pop i:=(hf.pop i _ hi (P.2.2.2 hw).1).2;exact⟨⟨γ,h.of rfl rfl (λ_ _=>rfl) (BF (s:=s) (f:=x.toNat) (l:=.held i) (by rw[e];rfl)) (tv (i:=i) (p:=.start (-1)) (by rw[hp];simp) rfl (.inr ⟨some x.toNat,rfl⟩))⟩,Gm⟩
  ·exact⟨⟨γ,h.of rfl rfl (λ_ _=>rfl) (λ_=>rfl) (tv (i:=i) (p:=if C.N=1 then .flag else .oB) (by rw[hp];simp) rfl (.inl rfl))⟩,Gm⟩
 | oK v t x =>
  have HT:=hd.2 i hi;unfold Th at HT;rw[hp]at HT;simp only at HT;unfold Am.aJ;rw[hp];simp only;split
  ·rename_i ht;obtain⟨y,l,hq,hx⟩:=HT.2.2.2 ht.symm;have e:s.loc x.toNat= .Ow v:=(hf.q v _ HT.1 (by show x.toNat∈s.q v;rw[hq,hx];simp)).2;exact⟨⟨γ,h.of rfl rfl (λ_ _=>rfl) (BF (s:=s) (f:=x.toNat) (l:=.held i) (by rw[e];rfl)) (tv (i:=i) (p:=.start v) (by rw[hp];simp) rfl (.inr ⟨some x.toNat,rfl⟩))⟩,ZC eC⟩
  ·exact⟨⟨γ,h.of rfl rfl (λ_ _=>rfl) (λ_=>rfl) (tv (i:=i) (by rw[hp];simp) rfl (.inl rfl))⟩,Gm⟩
 | parked =>
  unfold Am.aJ;rw[hp];simp only;split
  ·exact⟨⟨γ,h.of rfl rfl (λ_ _=>rfl) (λ_=>rfl) (λj hj=>⟨hj,rfl⟩)⟩,Gm⟩
  ·exact⟨⟨γ,h.of rfl rfl (λ_ _=>rfl) (λ_=>rfl) (tv (i:=i) (p:=if C.N=1 then .flag else .oB) (by rw[hp];simp) rfl (.inl rfl))⟩,Gm⟩
 | grow c b t cc =>
  unfold Am.aJ;rw[hp];simp only;exact⟨⟨γ,h.of rfl rfl (λ_ _=>rfl) (λ_=>rfl) (tv (i:=i) (p:=.p9 c b t cc) (by rw[hp];simp) rfl (.inl rfl))⟩,Gm⟩
 | _ =>
  unfold Am.aJ;rw[hp];simp only[oX,looking,Dl,Hg]
  repeat' split
  all_goals exact⟨⟨γ,h.of rfl rfl (λ_ _=>rfl) (λ_=>rfl) (tv (i:=i) (by rw[hp];simp) rfl (.inl rfl))⟩,by first | exact Gm | exact ZC eC⟩
end
end Am
end
end Go.Proofs.YtpikpffbcjpmcaaGreatDoor
