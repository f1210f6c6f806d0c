/- A part of the proof of what V5 states. Conditions: none. -/
import Derived.Test.YtpikpffbcjpmcaaGreatDoorV3
set_option linter.unusedVariables false
set_option linter.unusedSimpArgs false
set_option linter.unusedSectionVars false
set_option maxRecDepth 100000
set_option maxHeartbeats 4000000
set_option autoImplicit true
set_option relaxedAutoImplicit true
namespace Go.Proofs.YtpikpffbcjpmcaaGreatDoor
open Proofs.Tryz
section
namespace Mo
open Go SL GX
abbrev E0:aj:=⟨0,0,0,0,0,0⟩
section
variable {K:Nat}{C:Am.kH}{p:aJ}{s:Am.St}{S:ag}{M M':ae}{sz n i f:Nat}{D:aM}{d:Int}{T:List aR}{a:bz}
theorem js.VH{o:Am.Out}{q:Am.Pc}{x:Int}{l:Bool}{r:Option (aj×ag×ae)}(b:vF C p s S M sz n)(hi:i<C.N)(hr:r=some (BP o.ev,{gA (kB S T) i a with value:=x,left:=l},M'))
 (FK:a.bg=i) (hfr:a.au=fi (o.s.hold i)) (hq:o.s.pc=Am.cY s.pc i q) (hph:ph C i q (o.s.fX i) (o.s.cur i) o.s.base a) (har:AR C o.s M' sz (n+1)) (NB:Lg C o.s M M' o.acc) (L7:Td o.ev)
 (hT:T.length=C.F) (Zi:∀g,g<o.s.nf->Qs (o.s.fr g) g (GX.J T g)) (hl:l=o.s.val.isSome) (hx:x=o.s.val.getD 0)
 (hh:∀j,j≠i->o.s.hold j=s.hold j:=by intros;rfl) (Qt:o.s.fX=s.fX:=by rfl) (hc:o.s.cur=s.cur:=by rfl) (hb:o.s.base=s.base:=by rfl):js C p sz n M o r:=by
 refine⟨_,_,hr,?_,har,NB,L7⟩;have h:=b.jN;have hwl:=h.wl;refine⟨h.code,h.res,h.tb,h.tf,h.lb,h.lw,h.dl,h.dq,hT,Zi,by show(gA (kB S T) i a).ai.length=_;rw[jI];exact h.wl,λj hj => ?_,hl,hx⟩;show aOK C o.s j (GX.J (S.ai.set i a) j);by_cases e:j=i
 ·subst e;rw[pV I,aP rfl];exact⟨FK,hfr,by rw[hq,Am.bA];exact hph⟩
 ·rw[pV I,ct e];obtain⟨w1,w2,w3⟩:=h.wk j hj;have ep:o.s.pc j=s.pc j:=by rw[hq];exact Am.be e
  exact⟨w1,by rw[hh j e];exact w2,by rw[ep,Qt,hc,hb];exact w3⟩
theorem Cz(b:vF C p s S M sz n)(hf:f<s.nf){t:aR}{y:Am.Fr}(ht:Qs y f t):∀g,g<s.nf->Qs (Am.cY s.fr f y g) g (GX.J (S.aG.set f t) g):=λg hg=>by
 have hl:=b.jN.tl;have hn:s.nf<=C.F:=b.fi.wj;rw[pV I,Am.cC];by_cases e:g=f
 ·subst e;rw[aP rfl,aP rfl];exact ht
 ·rw[ct e,ct e];exact b.jN.tk g hg
def vG(S:ag)(M:ae)(i:Nat)(D:aM)(f:Nat)(ci:bZ)(t:aR):Option (aj×ag×ae):=
 let fr:Int:=f
 if ci.aE=0 then if bG ci.A 16 then some (E0,kB S ((S.aG.set f t).set f ({t with cU:=qz 16 t.cU ci.A.toNat ci.K})),M)else none
 else if ci.aE=1 then if bG ci.B 16 then if bG ci.A 16 then some (E0,kB S ((S.aG.set f t).set f ({t with cU:=qz 16 t.cU ci.A.toNat (GX.J t.cU ci.B.toNat)})),M)else none else none
 else if ci.aE=2 then if bG ci.B 16 then if bG ci.C 16 then sQ (tE ci.K (GX.J t.cU ci.B.toNat) (GX.J t.cU ci.C.toNat)) (λsk CD=>if bG ci.A 16 then some (E0,kB S ((S.aG.set f t).set f ({t with cU:=qz 16 t.cU ci.A.toNat sk})),M)else none)else none else none
 else if ci.aE=3 then some (E0,kB S ((S.aG.set f t).set f ({t with J:=ci.A})),M)
 else if ci.aE=4 then if bG ci.A 16 then(if(GX.J t.cU ci.A.toNat)=0 then some (E0,kB S (S.aG.set f t),M)else some (E0,kB S ((S.aG.set f t).set f ({t with J:=ci.B})),M))else none
 else if ci.aE=8 then if bG ci.A 16 then some (E0,kB S ((S.aG.set f t).set f ({t with cU:=qz 16 t.cU ci.A.toNat t.nA})),M)else none
 else if ci.aE=7 then eV (uc (⟨S.dA,S.cJ⟩:aY) fr ci.B) (λZI=>G0 (eR (gA (kB S (S.aG.set f t)) i {act S i with dK:=ZI}) M (i:Int)) (λZJ Li DE WH=>(if ZJ=15 then if bG fr DE.aG.length then if bG ci.A 16 then some (E0,{DE with aG:=DE.aG.set f ({GX.J DE.aG f with cU:=qz 16 (GX.J DE.aG f).cU ci.A.toNat Li})},WH)else none else none else if bG (i:Int) DE.ai.length then sQ (dN DE WH (i:Int)) (λUf Ug=>some (Uf,Ug,WH))else none)))
 else if ci.aE=5 then pL (lu (kB S (S.aG.set f t)) M (i:Int) ci) (λP9 Hy U2=>some (P9,Hy,U2))
 else if ci.aE=6 then eV (vl (⟨S.dA,S.cJ⟩:aY) fr) (λUh=>pL (dg ({S with aG:=S.aG.set f t,ai:=(S.ai.set i ({act S i with dK:=Uh})).set i ({({act S i with dK:=Uh}:bz)with aD:=5})}) M (i:Int) D) (λWI SH Qd=>some (WI,SH,Qd)))
 else if bG ci.A 16 then pL (lz (kB S (S.aG.set f t)) M (i:Int) (GX.J t.cU ci.A.toNat)) (λr96 S97 S98=>some (r96,S97,S98))else none
variable (b:vF C p s S M sz n)(hi:i<C.N)
include b hi
structure Yu(p:aJ)(C:Am.kH)(s:Am.St)(S:ag)(i f:Nat)(ci:bZ)(t:aR):Prop where
 hh:s.hold i=some f
 hn:f<s.nf
 hF:f<C.F
 fr:(act S i).au=f
 fn:(s.fr f).fn<p.ah.length
 J:(s.fr f).J<512
 ok:OR p (GX.J p.ah (s.fr f).fn) ci
 Jx:Ki (GX.J p.ah (s.fr f).fn)
 kd:0<=ci.aE/\ci.aE<10
 code:C.code (s.fr f).fn (s.fr f).J=qW ci
 t:Qs {s.fr f with J:=(s.fr f).J+1} f t
theorem VI(hp:s.pc i= .run) :∃f ci t,Yu p C s S i f ci t/\j9 S M (i:Int) D=vG S M i D f ci t:=by
 obtain⟨f,hh,hn,hF,hfr⟩:=FD b hi (by rw[hp];rfl);obtain⟨r1,r2,r3⟩:=b.fr f hn;have r3:=r3 (Am.rF b.fi hi hh).1;have cf:=b.cf;have e1:C.O5=p.ah.length:=by rw[cf];rfl
 have e2:C.len (s.fr f).fn=(GX.J p.ah (s.fr f).fn).aq.length:=by rw[cf];rfl
 have e3:C.code (s.fr f).fn (s.fr f).J=qW (GX.J (GX.J p.ah (s.fr f).fn).aq (s.fr f).J):=by rw[cf];rfl
 rw[e1]at r1;rw[e2]at r3;have hs:=b.vd.Jx _ r1;have hc:=b.vd.code _ r1;have c5:=hs.Jv;have hk:=(Code.snd hs hc).kind ((s.fr f).J:Int) I I;rw[cO]at hk;have ht:=b.jN.tk f hn;have h1:bG (act S i).au S.aG.length:=by rw[hfr];exact b.task hn
 have h2:bG (GX.J S.aG (act S i).au.toNat).fn S.code.length:=by rw[hfr,cO,ht.fn,b.jN.code];exact⟨I,I⟩
 have h3:bG (GX.J S.aG (act S i).au.toNat).J (GX.J S.code (GX.J S.aG (act S i).au.toNat).fn.toNat).aq.length:=by rw[hfr,cO,ht.fn,ht.J,b.jN.code,cO];exact⟨I,I⟩
 refine⟨f,GX.J (GX.J p.ah (s.fr f).fn).aq (s.fr f).J,{GX.J S.aG f with J:=wi ((GX.J S.aG f).J+1)},⟨hh,hn,hF,hfr,r1,I,hc.ins _ r3,hs,hk,e3,⟨ht.fn,by show wi ((GX.J S.aG f).J+1)=_;rw[ht.J,eI I];rfl,ht.par,ht.slot,ht.bt,ht.nA,ht.cU⟩⟩,?_⟩;have Iq:GX.J (GX.J S.code (GX.J S.aG f).fn.toNat).aq (GX.J S.aG f).J.toNat=GX.J (GX.J p.ah (s.fr f).fn).aq (s.fr f).J:=by rw[ht.fn,ht.J,b.jN.code,cO,cO]
 unfold j9 dY CZ fA Co er jH pO an;rw[cO,aP h1,je,aP h1,aP h2,aP h3];have ad3:(GX.J S.ai i).au=(f:Int):=hfr;rw[ad3,cO,Iq]
 rfl
end
theorem GO(r:Nat):J (List.replicate 16 (0:Int)) r=0:=by
 unfold J;rw[List.getD_eq_getElem?_getD,List.getElem?_replicate];split<;>rfl
theorem Qs.JY{x:Am.Fr}{f A:Nat}{t:aR}(h:Qs x f t)(v:Int):Qs {x with cU:=Am.cY x.cU A v} f {t with cU:=qz 16 t.cU A v}:=
 ⟨h.fn,h.J,h.par,h.slot,h.bt,h.nA,λr hr=>by show GX.J (qz 16 t.cU A v) r=Am.cY x.cU A v r;rw[Pg hr,Am.cC,h.cU r hr]⟩
section
variable {K:Nat}{C:Am.kH}{p:aJ}{s:Am.St}{S:ag}{M M':ae}{sz n i f:Nat}{D:aM}{d:Int}{T:List aR}{a:bz}{ci:bZ}{t:aR}
theorem QN(b:vF C p s S M sz n)(hi:i<C.N):gA (kB S T) i (act S i)=kB S T:=by
 have:=jL b hi;show({S with aG:=T,ai:=S.ai.set i (act S i)}:ag)=_;have e:S.ai.set i (act S i)=S.ai:=mX (·.ai) this;rw[e];rfl
variable (b:vF C p s S M sz n)(hi:i<C.N)(afv:Yu p C s S i f ci t)(hp:s.pc i= .run)
include b hi afv hp
theorem zC{y:Am.Fr}{t2:aR}{o:Am.Out}{r:Option (aj×ag×ae)}(hr:r=some (E0,kB S (S.aG.set f t2),M))(ho:o=⟨s.lay f y,none,none⟩)(ht:Qs y f t2):js C p sz n M o r:=by
 subst ho;obtain⟨w1,w2,w3⟩:=b.jN.wk i hi;rw[hp]at w3;refine js.VH (T:=S.aG.set f t2) (a:=act S i) (x:=S.value) (l:=S.left) (q:=.run) b hi (by rw[hr,QN b hi];rfl) w1 w2 (by rw[<-hp,Am.qv];rfl) w3 (b.ar.keep rfl rfl rfl rfl) Lg.none_ trivial (by rw[gY];exact b.jN.tl) (Cz b afv.hn ht) b.jN.left b.jN.val
theorem si:Am.aH C s i d=Am.instr C s i:=by unfold Am.aH;rw[hp]
theorem xZ{A:Int}(h:uu A (GX.J p.ah (s.fr f).fn).dc=true):bG A 16/\A.toNat<16:=by
 have h1:=Cw h;have h2:=afv.Jx.r16;exact⟨⟨I,I⟩,I⟩
theorem NT{t2:aR}:(S.aG.set f t).set f t2=S.aG.set f t2:=iB ..
theorem abG(k:ci.aE=0):js C p sz n M (Am.aH C s i d) (vG S M i D f ci t):=by
 have ok:=afv.ok.1;unfold ot at ok;rw[aP (.inl k)]at ok;obtain⟨r1,r2⟩:=xZ b hi afv hp ok;refine zC b hi afv hp (t2:={t with cU:=qz 16 t.cU ci.A.toNat ci.K}) ?_ ?_ (afv.t.JY ci.K)
 ·unfold vG;simp only;rw[aP k,aP r1,NT b hi afv hp]
 ·rw[si b hi afv hp];unfold Am.instr;simp only[afv.hh,oJ];rw[afv.code];unfold qW;rw[aP k]
theorem abH(k:ci.aE=1):js C p sz n M (Am.aH C s i d) (vG S M i D f ci t):=by
 have ok:=afv.ok.1;unfold ot at ok;rw[ez,aP k,lP]at ok;obtain⟨r1,r2⟩:=xZ b hi afv hp ok.1;obtain⟨q1,q2⟩:=xZ b hi afv hp ok.2;refine zC b hi afv hp (t2:={t with cU:=qz 16 t.cU ci.A.toNat (GX.J t.cU ci.B.toNat)}) ?_ ?_ (afv.t.JY _)
 ·unfold vG;simp only;rw[ez,aP k,aP q1,aP r1,NT b hi afv hp]
 ·rw[si b hi afv hp];unfold Am.instr;simp only[afv.hh,oJ];rw[afv.code];unfold qW;rw[ez,aP k,afv.t.cU _ q2]
theorem abI(k:ci.aE=2):js C p sz n M (Am.aH C s i d) (vG S M i D f ci t):=by
 have ok:=afv.ok.1;unfold ot at ok;rw[ez,ez,aP k,lP,lP,lP]at ok;obtain⟨r1,r2⟩:=xZ b hi afv hp ok.1.1.1;obtain⟨q1,q2⟩:=xZ b hi afv hp ok.1.1.2;obtain⟨u1,u2⟩:=xZ b hi afv hp ok.1.2;have ko:=Cw ok.2;have hap:C.ap=apv:=by rw[b.cf];rfl
 refine zC b hi afv hp (t2:={t with cU:=qz 16 t.cU ci.A.toNat (apv ci.K (GX.J t.cU ci.B.toNat) (GX.J t.cU ci.C.toNat))}) ?_ ?_ (afv.t.JY _)
 ·unfold vG;simp only;rw[ez,ez,aP k,aP q1,aP u1,S2 ko.1 ko.2,fc,aP r1,NT b hi afv hp]
 ·rw[si b hi afv hp];unfold Am.instr;simp only[afv.hh,oJ];rw[afv.code];unfold qW;rw[ez,ez,aP k,afv.t.cU _ q2,afv.t.cU _ u2,hap]
theorem abJ(k:ci.aE=3):js C p sz n M (Am.aH C s i d) (vG S M i D f ci t):=by
 have ok:=afv.ok.1;unfold ot at ok;rw[ez,ez,ez,aP k]at ok;have h1:=Cw ok;refine zC b hi afv hp (y:={s.fr f with J:=ci.A.toNat}) (t2:={t with J:=ci.A}) ?_ ?_ ⟨afv.t.fn,by show ci.A=((ci.A.toNat:Nat):Int);omega,afv.t.par,afv.t.slot,afv.t.bt,afv.t.nA,afv.t.cU⟩
 ·unfold vG;simp only;rw[ez,ez,ez,aP k,NT b hi afv hp]
 ·rw[si b hi afv hp];unfold Am.instr;simp only[afv.hh,oJ];rw[afv.code];unfold qW;rw[ez,ez,ez,aP k]
theorem abK(k:ci.aE=4):js C p sz n M (Am.aH C s i d) (vG S M i D f ci t):=by
 have ok:=afv.ok.1;unfold ot at ok;rw[ez,ez,ez,ez,aP k,lP]at ok;obtain⟨r1,r2⟩:=xZ b hi afv hp ok.1;have h1:=Cw ok.2;by_cases e:(s.fr f).cU ci.A.toNat=0
 ·refine zC b hi afv hp (y:={s.fr f with J:=(s.fr f).J+1}) (t2:=t) ?_ ?_ afv.t
  ·unfold vG;simp only;rw[ez,ez,ez,ez,aP k,aP r1,aP (by rw[afv.t.cU _ r2];exact e)]
  ·rw[si b hi afv hp];unfold Am.instr;simp only[afv.hh,oJ];rw[afv.code];unfold qW;rw[ez,ez,ez,ez,aP k];simp only;rw[ct (by simpa using e)]
 ·refine zC b hi afv hp (y:={s.fr f with J:=ci.B.toNat}) (t2:={t with J:=ci.B}) ?_ ?_ ⟨afv.t.fn,by show ci.B=((ci.B.toNat:Nat):Int);omega,afv.t.par,afv.t.slot,afv.t.bt,afv.t.nA,afv.t.cU⟩
  ·unfold vG;simp only;rw[ez,ez,ez,ez,aP k,aP r1,ct (by rw[afv.t.cU _ r2];exact e),NT b hi afv hp]
  ·rw[si b hi afv hp];unfold Am.instr;simp only[afv.hh,oJ];rw[afv.code];unfold qW;rw[ez,ez,ez,ez,aP k];simp only;rw[aP e]
theorem abL(k:ci.aE=8):js C p sz n M (Am.aH C s i d) (vG S M i D f ci t):=by
 have ok:=afv.ok.1;unfold ot at ok;rw[aP (.inr (.inl k))]at ok;obtain⟨r1,r2⟩:=xZ b hi afv hp ok;refine zC b hi afv hp (t2:={t with cU:=qz 16 t.cU ci.A.toNat t.nA}) ?_ ?_ (afv.t.JY _)
 ·unfold vG;simp only;rw[ez,ez,ez,ez,ez,aP k,aP r1,NT b hi afv hp]
 ·rw[si b hi afv hp];unfold Am.instr;simp only[afv.hh,oJ];rw[afv.code];unfold qW;rw[ez,ez,ez,ez,ez,ez,ez,ez,aP k,afv.t.nA]
theorem TC:GX.J (S.aG.set f t) f=t:=by
 have h:=b.jN.tl;have hF:=afv.hF;rw[pV I,aP rfl]
theorem abM:bG (f:Int) (S.aG.set f t).length:=by rw[gY];exact b.task afv.hn
theorem abN(k:ci.aE=7):js C p sz n M (Am.aH C s i d) (vG S M i D f ci t):=by
 obtain⟨w1,w2,w3⟩:=b.jN.wk i hi;rw[hp]at w3;have ok:=afv.ok.1;unfold ot at ok;rw[ez,ez,ez,ez,ez,ez,ez,aP k,lP]at ok;obtain⟨r1,r2⟩:=xZ b hi afv hp ok.1;have h1:=Cw ok.2;have s8:=afv.Jx.s8;obtain⟨B,hB⟩ :∃B:Nat,ci.B=B:=⟨ci.B.toNat,I⟩;have hB8:B<8:=by omega
 have hs:=VC b.ar b.z b.cN afv.hF hB8;have h:=wP (T:=S.aG.set f t) b hi (a:={act S i with dK:=jJ C 5 f B 0}) hs (Ka rfl rfl);have hst:Am.aH C s i d=⟨s.lay f {s.fr f with J:=(s.fr f).J+1,cU:=Am.cY (s.fr f).cU ci.A.toNat (s.mem (.slot f B))},none,Am.pW (.slot f B) (s.mem (.slot f B))⟩:=by
  rw[si b hi afv hp];unfold Am.instr;simp only[afv.hh,oJ];rw[afv.code];unfold qW;rw[ez,ez,ez,ez,ez,ez,ez,aP k,hB,cO]
 rw[hst];refine js.VH (M':=nt M M.cell 0 (Am.cy C s (.slot f B)) (s.mem (.slot f B)) 0 true) (T:=S.aG.set f {t with cU:=qz 16 t.cU ci.A.toNat (s.mem (.slot f B))}) (a:={act S i with dK:={jJ C 5 f B 0 with az:=0,fg:=15,lN:=s.mem (.slot f B)}}) (x:=S.value) (l:=S.left) (q:=.run) b hi ?_ w1 w2 (by show s.pc=_;rw[<-hp,Am.qv]) w3 (b.ar.same (s':=s.lay f {s.fr f with J:=(s.fr f).J+1,cU:=Am.cY (s.fr f).cU ci.A.toNat (s.mem (.slot f B))}) rfl rfl rfl rfl _ _ _ _ _) (Lg.nt rfl) trivial (by rw[gY];exact b.jN.tl) (Cz b afv.hn (afv.t.JY _)) b.jN.left b.jN.val;unfold vG uc;simp only;rw[ez,ez,ez,ez,ez,ez,aP k,QI b hi,hB,NQ b.ok afv.hF hB8,ax,ax,h,gj,aP rfl];rw[aP (by exact abM b hi afv hp),aP r1];rw[show(gA (kB S (S.aG.set f t)) i _).aG=S.aG.set f t from rfl,TC b hi afv hp,NT b hi afv hp];rfl
theorem abO(k:ci.aE=6):js C p sz n M (Am.aH C s i d) (vG S M i D f ci t):=by
 obtain⟨w1,w2,w3⟩:=b.jN.wk i hi;have afq:=b.fi.jn f afv.hn;have hl:s.loc f= .rj i∨s.loc f= .held i:=(b.fi.hold i f hi afv.hh).elim (λa=>.inl a.2) (λa=>.inr a.2);have hjn:0<=s.mem (.join f)-1:=by
  have hg:(Am.view s).g i= .run:=by show Am.sig (s.pc i)=_;rw[hp];rfl
  rcases b.fi.hold i f hi afv.hh with h | h
  ·rw[hg]at h;exact absurd h.1 (by simp)
  ·rw[h.2]at afq;change s.mem (.join f)=1+(((s.bt f).length:Nat):Int)at afq;omega
 have hs:=VB b.ar b.z b.cN afv.hF (b.LZ rfl);have hst:Am.aH C s i d=(if 0<s.mem (.join f)-1 then⟨((((s.wr (.join f) (s.mem (.join f)-1)).lay f {s.fr f with J:=(s.fr f).J+1}).holds i none).to i .Fg).put f .waiting,Am.ev 4 f 0 0,Am.BO (.join f) (-1) (s.mem (.join f)-1)⟩
  else ⟨((((s.wr (.join f) (s.mem (.join f)-1)).lay f {s.fr f with J:=(s.fr f).J+1}).to i .rR).put f (.rj i)),none,Am.BO (.join f) (-1) (s.mem (.join f)-1)⟩):=by
  rw[si b hi afv hp];unfold Am.instr;simp only[afv.hh,oJ];rw[afv.code];unfold qW;rw[ez,ez,ez,ez,ez,ez,aP k]
 have hr:vG S M i D f ci t=dg (gA (kB S (S.aG.set f t)) i {act S i with dK:=jJ C 3 f 0 0,aD:=5}) M (i:Int) D:=by
  unfold vG vl;simp only;rw[ez,ez,ez,ez,ez,ez,ez,ez,aP k,QI b hi,FC b.ok afv.hF,ax,ax,iB];show pL (dg (gA (kB S (S.aG.set f t)) i {act S i with dK:=jJ C 3 f 0 0,aD:=5}) M (i:Int) D) _=_;cases dg (gA (kB S (S.aG.set f t)) i {act S i with dK:=jJ C 3 f 0 0,aD:=5}) M (i:Int) D<;>rfl
 rw[hr,hst];by_cases h0:0<s.mem (.join f)-1
 ·rw[aP h0];rw[ez]at hs;refine js.VH (T:=S.aG.set f t) (x:=S.value) (l:=S.left) (q:=.Fg) b hi (QL b hi (a:={act S i with dK:=jJ C 3 f 0 0,aD:=5}) w1 hs rfl rfl rfl afv.fr) w1 (by show(-1:Int)=fi (Am.cY s.hold i none i);rw[Am.bA];rfl) rfl ⟨rfl,⟨rfl,rfl,rfl,rfl⟩,rfl,rfl⟩ (b.Ac (c:=.join f) rfl (by rw[hp];rfl) afv.hF _ _ _ _ _) (Lg.nt rfl) (by show(4:Nat)≠0;decide) (by rw[gY];exact b.jN.tl) (Cz b afv.hn afv.t) b.jN.left b.jN.val (hh:=λj hj=>Am.be hj)
 ·rw[ct h0];rw[pR]at hs;refine js.VH (T:=S.aG.set f t) (x:=S.value) (l:=S.left) (q:=.rR) b hi (Tz b hi (a:={act S i with dK:=jJ C 3 f 0 0,aD:=5}) hs rfl (by show(2:Int)>0;decide)) w1 w2 rfl ⟨rfl,rfl,rfl,?_,rfl,rfl⟩ (b.Ac (c:=.join f) rfl (by rw[hp];rfl) afv.hF _ _ _ _ _) (Lg.nt rfl) trivial (by rw[gY];exact b.jN.tl) (Cz b afv.hn afv.t) b.jN.left b.jN.val;show(f:Int)=(((act S i).au.toNat:Nat):Int);rw[afv.fr];rfl
end
def YR(C:Am.kH)(i:Nat):bR:=⟨2+10*(C.F:Int),C.N,i,4,10,1,0,0,0,List.replicate 64 ⟨0,0⟩,⟨0,0,0,0,0,0,0,0,0,0,0,0,0,false,0,0⟩⟩
section
variable {K:Nat}{C:Am.kH}{p:aJ}{s:Am.St}{S:ag}{M M':ae}{sz n i f:Nat}{D:aM}{d:Int}{T:List aR}{a:bz}{ci:bZ}{t:aR}
theorem QO(b:vF C p s S M sz n)(hi:i<C.N):rY (⟨S.fl,S.cH⟩:eZ) (i:Int)=some (YR C i):=by
 have h1:=b.ok.n1;have h2:=b.ok.n64;unfold rY mw mH cw bB;rw[b.jN.lb,b.jN.lw];simp only;rw[ez,ez,ax,eI (x:=2+(C.N:Int)) I,pR,pR,tP I,ax,aP rfl];rfl
variable (b:vF C p s S M sz n)(hi:i<C.N)(afv:Yu p C s S i f ci t)(hp:s.pc i= .run)
include b hi afv hp
theorem Mm:bG (act S i).au (S.aG.set f t).length:=by rw[afv.fr];exact abM b hi afv hp
theorem abP(k:ci.aE=9):js C p sz n M (Am.aH C s i d) (vG S M i D f ci t):=by
 obtain⟨w1,w2,w3⟩:=b.jN.wk i hi;have ok:=afv.ok.1;unfold ot at ok;rw[aP (.inr (.inr k))]at ok;obtain⟨r1,r2⟩:=xZ b hi afv hp ok;obtain⟨v,hv⟩ :∃v,v=(s.fr f).cU ci.A.toNat:=⟨_,rfl⟩;have hst:Am.aH C s i d=(if f=0 then⟨{((((s.lay f {s.fr f with J:=(s.fr f).J+1}).wr .result v).holds i none).to i .done).put 0 (.fin i)with val:=some v},Am.ev 6 0 (-1) v,Am.sN .result v⟩
  else ⟨((((s.lay f {s.fr f with J:=(s.fr f).J+1}).wr (.slot (s.fr f).par (s.fr f).slot) v).holds i none).to i (.out (s.fr f).par f)).put f (.fin i),Am.ev 6 f (s.fr f).par v,Am.sN (.slot (s.fr f).par (s.fr f).slot) v⟩):=by
  rw[si b hi afv hp];unfold Am.instr;simp only[afv.hh,oJ];rw[afv.code];unfold qW;rw[ez,ez,ez,ez,ez,ez,ez,ez,ez,hv]
 have hin:=Mm b hi afv hp;have hgt:GX.J (S.aG.set f t) (act S i).au.toNat=t:=by rw[afv.fr,cO];exact TC b hi afv hp
 have hr:vG S M i D f ci t=lz (kB S (S.aG.set f t)) M (i:Int) v:=by
  unfold vG;simp only;rw[ez,ez,ez,ez,ez,ez,ez,ez,ez,aP r1,afv.t.cU _ r2,hv];cases lz (kB S (S.aG.set f t)) M (i:Int) _<;>rfl
 rw[hr];unfold lz dY jH pO an;rw[cO,aP (by exact hin),je,aP (by exact hin),hst];by_cases h0:f=0
 ·rw[aP h0,aP (by show(act S i).au=0;rw[afv.fr,h0];rfl)];have ad4:=uY b.ar b.z b.cN (a:=.result) trivial v;have abQ:dU M (kB S (S.aG.set f t)).result v=some (0,nt M (M.cell.set (Am.cy C s .result).toNat v) 1 (Am.cy C s .result) v 0 true):=by rw[show(kB S (S.aG.set f t)).result=Am.cy C s .result from b.jN.res];exact ad4
  rw[abQ,fc,aP rfl];have hfi:rY (⟨(kB S (S.aG.set f t)).fl,(kB S (S.aG.set f t)).cH⟩:eZ) (J (kB S (S.aG.set f t)).ai i).bg=some (YR C i):=by
   show rY (⟨S.fl,S.cH⟩:eZ) (act S i).bg=_;rw[show(act S i).bg=i from w1];exact QO b hi
  rw[hfi,ax];refine js.VH (T:=S.aG.set f t) (a:={act S i with cG:=YR C i,au:=-1,aD:=7}) (x:=v) (l:=true) (q:=.done) b hi ?_ w1 (by show(-1:Int)=fi (Am.cY s.hold i none i);rw[Am.bA];rfl) rfl ⟨rfl,rfl,rfl,rfl,rfl,rfl,rfl⟩ (b.Ac (c:=.result) rfl (by rw[hp];rfl) trivial _ _ _ _ _) (Lg.nt rfl) (by show(6:Nat)≠0;decide) (by rw[gY];exact b.jN.tl) (Cz b afv.hn afv.t) rfl rfl (hh:=λj hj=>Am.be hj);show some ((⟨0,0,6,0,-1,v⟩:aj),({S with aG:=S.aG.set f t,ai:=((S.ai.set i _).set i _).set i _,value:=v,left:=true}:ag),_)=_;rw[iB,iB];rfl
 ·rw[ct h0,ct (by show ¬(act S i).au=0;rw[afv.fr];omega)];have hfr:=b.fr f afv.hn;have hpn:(s.fr f).par<s.nf:=b.fi.pr f afv.hn;have hpF:(s.fr f).par<C.F:=Nat.lt_of_lt_of_le hpn b.fi.wj;have hs:=YP b.ar b.z b.cN hpF hfr.2.1 v;have htb:=wP (T:=S.aG.set f t) b hi (a:={act S i with dK:=jJ C 2 (s.fr f).par (s.fr f).slot v}) hs (Tv rfl (by show(2:Int)>0;decide));have hbg:s6 (⟨(kB S (S.aG.set f t)).dA,(kB S (S.aG.set f t)).cJ⟩:aY) (J (kB S (S.aG.set f t)).aG (J (kB S (S.aG.set f t)).ai i).au.toNat).parent (J (kB S (S.aG.set f t)).aG (J (kB S (S.aG.set f t)).ai i).au.toNat).slot v=some (jJ C 2 (s.fr f).par (s.fr f).slot v):=by
   have ad5:J (kB S (S.aG.set f t)).aG (J (kB S (S.aG.set f t)).ai i).au.toNat=t:=hgt;rw[ad5,afv.t.par,afv.t.slot,ct h0];unfold s6;rw[show(⟨(kB S (S.aG.set f t)).dA,(kB S (S.aG.set f t)).cJ⟩:aY)=⟨1,C.F⟩from(show(⟨S.dA,S.cJ⟩:aY)=⟨1,C.F⟩from QI b hi),NQ b.ok hpF hfr.2.1,ax]
  rw[hbg,ax];rw[show({kB S (S.aG.set f t)with ai:=(kB S (S.aG.set f t)).ai.set i {J (kB S (S.aG.set f t)).ai i with dK:=jJ C 2 (s.fr f).par (s.fr f).slot v}}:ag)=gA (kB S (S.aG.set f t)) i {act S i with dK:=jJ C 2 (s.fr f).par (s.fr f).slot v}from rfl,htb,gj,aP rfl,aP (Ty b hi)];rw[show J (gA (kB S (S.aG.set f t)) i {act S i with dK:={jJ C 2 (s.fr f).par (s.fr f).slot v with az:=2}}).ai i={act S i with dK:={jJ C 2 (s.fr f).par (s.fr f).slot v with az:=2}}from nr (b.wl hi)];refine js.VH (T:=S.aG.set f t) (a:={act S i with dK:={jJ C 2 (s.fr f).par (s.fr f).slot v with az:=2},au:=-1,done:=(act S i).au,aD:=6}) (x:=S.value) (l:=S.left) (q:=.out (s.fr f).par f) b hi ?_ w1 (by show(-1:Int)=fi (Am.cY s.hold i none i);rw[Am.bA];rfl) rfl ⟨rfl,afv.fr,rfl,rfl,rfl,rfl,rfl⟩ (b.Ac (c:=.slot (s.fr f).par (s.fr f).slot) rfl (by rw[hp];rfl) ⟨hpF,hfr.2.1⟩ _ _ _ _ _) (Lg.nt rfl) (by show(6:Nat)≠0;decide) (by rw[gY];exact b.jN.tl) (Cz b afv.hn afv.t) b.jN.left b.jN.val (hh:=λj hj=>Am.be hj);show some ((⟨0,0,6,(act S i).au,(GX.J (S.aG.set f t) (act S i).au.toNat).parent,v⟩:aj),({S with aG:=S.aG.set f t,ai:=(((S.ai.set i _).set i _).set i _).set i _}:ag),_)=_;rw[iB,iB,iB];refine mX some (Ak ?_ rfl);show(⟨0,0,6,(act S i).au,(GX.J (S.aG.set f t) (act S i).au.toNat).parent,v⟩:aj)=_;rw[hgt,afv.t.par,afv.fr,ct h0];rfl
def Pm(L:List aR)(k:Nat):List aR:=L.set k {GX.J L k with bt:=wi ((GX.J L k).bt+1)}
def CA(ci:bZ)(f:Nat)(pd:Int):aR:=⟨ci.B,0,(f:Int),ci.A,0,pd,List.replicate 16 (0:Int)⟩
theorem Mn{A B Cc:Nat}{Fh:aR}(hk:Qs (Am.lf C (s.fr f) f A B Cc) s.nf Fh)(hlt:s.nf<C.F){L:List aR}(hL:L=(S.aG.set f t).set s.nf Fh) :
 ∀g,g<s.nf+1->Qs (Am.cY (Am.cY (Am.cY s.fr f {s.fr f with J:=(s.fr f).J+1}) f {s.fr f with J:=(s.fr f).J+1,bt:=(s.fr f).bt+1}) s.nf (Am.lf C (s.fr f) f A B Cc) g) g (GX.J (L.set f {GX.J L f with bt:=wi ((GX.J L f).bt+1)}) g):=λg hg=>by
 subst hL;have hl:=b.jN.tl;have hne:f≠s.nf:=Nat.ne_of_lt afv.hn;have hF:=afv.hF;have hkb:=b.bd.k f;have hbn:=b.n;have e1:GX.J ((S.aG.set f t).set s.nf Fh) f=t:=by rw[pV (by rw[gY];omega),ct hne];exact TC b hi afv hp
 rw[e1,pV (by rw[gY,gY];omega),Am.cC];by_cases e:g=s.nf
 ·rw[aP e,ez,pV (by rw[gY];omega),aP e,e];exact hk
 ·rw[ct e,Am.cC];by_cases e2:g=f
  ·rw[aP e2,aP e2,e2];exact⟨afv.t.fn,afv.t.J,afv.t.par,afv.t.slot,by show wi (t.bt+1)=(((s.fr f).bt+1:Nat):Int);rw[show t.bt=((s.fr f).bt:Int)from afv.t.bt,eI I];rfl,afv.t.nA,afv.t.cU⟩
  ·rw[ct e2,ct e2,Am.be e2,pV (by rw[gY];omega),ct e,pV I,ct e2];exact b.jN.tk g I
theorem abR(k:ci.aE=5):js C p sz n M (Am.aH C s i d) (vG S M i D f ci t):=by
 obtain⟨w1,w2,w3⟩:=b.jN.wk i hi;have ok:=afv.ok.1;have cl:=afv.ok.2;unfold ot at ok;rw[ez,ez,ez,ez,ez,aP k]at ok;unfold xu at cl;rw[aP k,lP,xb,Aj,lP,Aj,Aj]at cl;have hA:=Cw ok;have hB:=Cw cl.1;have s8:=afv.Jx.s8;have r16:=afv.Jx.r16;have hPs:=b.vd.Jx ci.B.toNat I;have O:=hPs.O;have p8:=hPs.p8;obtain⟨P,hP⟩ :∃P:Nat,(GX.J p.ah ci.B.toNat).aS=P:=⟨(GX.J p.ah ci.B.toNat).aS.toNat,I⟩;have hcp:C.params ci.B.toNat=P:=by rw[b.cf];show(GX.J p.ah ci.B.toNat).aS.toNat=P;omega
 have hpd:C.pd (s.fr f).nA (s.fr f).bt=wi (wi (wi ((s.fr f).nA*1000003)+((s.fr f).bt:Int))+1):=by rw[b.cf];rfl
 have hkb:=b.bd.k f;have hbn:=b.n;obtain⟨pd,abS⟩ :∃pd,pd=C.pd (s.fr f).nA (s.fr f).bt:=⟨_,rfl⟩;have ad6:0<=s.mem .next/\s.mem .next<=1000000000000:=by
  have h2:=b.LZ (a:=.next) rfl;have h1:s.mem .next=s.nf∨(s.nf=C.F/\(C.F:Int)<=s.mem .next):=b.fi.nx;omega
 have hst:Am.aH C s i d=(if(C.F:Int)<=s.mem .next+1-1 then⟨{((s.wr .next (s.mem .next+1)).lay f {s.fr f with J:=(s.fr f).J+1})with JR:=true}.to i .full,Am.ev 11 (-1) 0 0,Am.BO .next 1 (s.mem .next+1)⟩
  else ⟨{((((s.wr .next (s.mem .next+1)).lay f {s.fr f with J:=(s.fr f).J+1}).lay f {s.fr f with J:=(s.fr f).J+1,bt:=(s.fr f).bt+1}).lay s.nf (Am.lf C (s.fr f) f ci.A.toNat ci.B.toNat ci.C.toNat))with nf:=s.nf+1}.put s.nf (.bU i) |>.to i (.fork s.nf),none,Am.BO .next 1 (s.mem .next+1)⟩):=by
  rw[si b hi afv hp];unfold Am.instr;simp only[afv.hh,oJ];rw[afv.code];unfold qW;rw[ez,ez,ez,ez,ez,aP k];rfl
 have hr:vG S M i D f ci t=lu (kB S (S.aG.set f t)) M (i:Int) ci:=by
  unfold vG;simp only;rw[ez,ez,ez,ez,ez,ez,ez,aP k];cases lu (kB S (S.aG.set f t)) M (i:Int) _<;>rfl
 have hs:=VD b.ar b.z b.cN ad6;have hTl:(S.aG.set f t).length=C.F:=by rw[gY];exact b.jN.tl
 have F0:0<C.F:=by have:=b.ok.f1;omega
 rw[hr];unfold lu jH pO an;rw[show mR (⟨(kB S (S.aG.set f t)).dA,(kB S (S.aG.set f t)).cJ⟩:aY)=some (jJ C 0 0 0 0) by
  unfold mR;rw[show(⟨(kB S (S.aG.set f t)).dA,(kB S (S.aG.set f t)).cJ⟩:aY)=⟨1,C.F⟩from(show(⟨S.dA,S.cJ⟩:aY)=⟨1,C.F⟩from QI b hi)];show eV (j8 0 (⟨1,C.F⟩:aY) ((0:Nat):Int) 0 0) _=_;rw[FC b.ok F0];rfl,ax]
 rw[show({kB S (S.aG.set f t)with ai:=(kB S (S.aG.set f t)).ai.set (i:Int).toNat {J (kB S (S.aG.set f t)).ai (i:Int).toNat with dK:=jJ C 0 0 0 0}}:ag)=gA (kB S (S.aG.set f t)) i {act S i with dK:=jJ C 0 0 0 0}from rfl];by_cases h0:s.mem .next+1<=C.F
 ·rw[aP h0]at hs;have htb:=wP (T:=S.aG.set f t) b hi (a:={act S i with dK:=jJ C 0 0 0 0}) hs (Ka rfl rfl);have hnf:s.mem .next=s.nf:=by
   have h1:s.mem .next=s.nf∨(s.nf=C.F/\(C.F:Int)<=s.mem .next):=b.fi.nx;rcases h1 with h | h
   ·exact h
   ·omega
  have hlt:s.nf<C.F:=by omega
  have GZ:s.nf≠0:=by have:1<=s.nf:=b.fi.zw;omega
  have hne:f≠s.nf:=Nat.ne_of_lt afv.hn;have hin:=Mm b hi afv hp;have Tm:bG (s.mem .next) (S.aG.set f t).length:=by rw[hnf,hTl];exact⟨I,I⟩
  have ad7:bG ci.B S.code.length:=by rw[b.jN.code];exact⟨I,I⟩
  have QM:(GX.J S.code ci.B.toNat).aS=P:=by rw[b.jN.code];exact hP
  have hgt:GX.J (S.aG.set f t) (act S i).au.toNat=t:=by rw[afv.fr,cO];exact TC b hi afv hp
  have Wk:wi (wi (wi ((GX.J (S.aG.set f t) (act S i).au.toNat).nA*1000003)+(GX.J (S.aG.set f t) (act S i).au.toNat).bt)+1)=pd:=by
   rw[hgt,abS,hpd,show t.nA=(s.fr f).nA from afv.t.nA,show t.bt=((s.fr f).bt:Int)from afv.t.bt]
  have hkt:∀R:List Int,(∀r,r<16->GX.J R r=if r<P then(s.fr f).cU (ci.C.toNat+r)else 0)->Qs (Am.lf C (s.fr f) f ci.A.toNat ci.B.toNat ci.C.toNat) s.nf {CA ci f pd with cU:=R}:=λR hR =>
   ⟨by show ci.B=((ci.B.toNat:Nat):Int);omega,rfl,by rw[ct GZ];rfl,by show ci.A=((ci.A.toNat:Nat):Int);omega,rfl,by show pd=C.pd (s.fr f).nA (s.fr f).bt;exact abS,λr hr=>by show GX.J R r=if r<C.params ci.B.toNat then(s.fr f).cU (ci.C.toNat+r)else 0;rw[hcp];exact hR r hr⟩
  unfold dY;rw[htb,gj,ct (by show ¬(4:Int)=3;decide),aP (by rfl),aP (Ty b hi),vr b hi,cO];rw[aP (by exact hin),je,aP (by exact hin),aP (by exact Tm),je,aP (by exact Tm)];unfold ze;rw[ax,aP (by exact ad7)];have Xr:((s.mem .next).toNat:Nat)=s.nf:=by rw[hnf];rfl
  by_cases hP0:P=0
  ·rw[ct (by show ¬(GX.J S.code ci.B.toNat).aS>0;rw[QM];omega),ax,aP (by rw[gY];exact hin),hst,ez];refine js.VH (T:=((S.aG.set f t).set s.nf (CA ci f pd)).set f {GX.J ((S.aG.set f t).set s.nf (CA ci f pd)) f with bt:=wi ((GX.J ((S.aG.set f t).set s.nf (CA ci f pd)) f).bt+1)}) (a:={act S i with dK:={jJ C 0 0 0 0 with az:=0,fg:=4,lN:=s.mem .next},bU:=s.mem .next,aD:=2}) (x:=S.value) (l:=S.left) (q:=.fork s.nf) b hi ?_ w1 w2 rfl ⟨rfl,hnf⟩ (b.Ac (c:=.next) rfl (by rw[hp];rfl) trivial _ _ _ _ _) (Lg.nt rfl) trivial (by rw[gY,gY];exact hTl) (Mn b hi afv hp (hkt _ (λr hr=>by rw[ez];exact GO r)) hlt rfl) b.jN.left b.jN.val;refine mX some (Ak rfl (Ak ?_ rfl));have hX:Pm ((S.aG.set f t).set (s.mem .next).toNat (⟨ci.B,0,(act S i).au,ci.A,0,wi (wi (wi ((GX.J (S.aG.set f t) (act S i).au.toNat).nA*1000003)+(GX.J (S.aG.set f t) (act S i).au.toNat).bt)+1),List.replicate 16 (0:Int)⟩:aR)) (act S i).au.toNat=((S.aG.set f t).set s.nf (CA ci f pd)).set f {GX.J ((S.aG.set f t).set s.nf (CA ci f pd)) f with bt:=wi ((GX.J ((S.aG.set f t).set s.nf (CA ci f pd)) f).bt+1)}:=by
    rw[Wk,Xr,afv.fr,cO];rfl
   show({S with aG:=Pm ((S.aG.set f t).set (s.mem .next).toNat (⟨ci.B,0,(act S i).au,ci.A,0,wi (wi (wi ((GX.J (S.aG.set f t) (act S i).au.toNat).nA*1000003)+(GX.J (S.aG.set f t) (act S i).au.toNat).bt)+1),List.replicate 16 (0:Int)⟩:aR)) (act S i).au.toNat,ai:=((S.ai.set i _).set i _).set i _}:ag)=_;rw[hX,iB,iB];rfl
  ·have hC:=cl.2.resolve_left (by rw[hP];omega);rw[hP]at hC;have hw:wi (ci.C+(P:Int))=ci.C+P:=eI I;have hw':wi (ci.C+(GX.J S.code ci.B.toNat).aS)=ci.C+P:=by rw[QM];exact hw
   rw[aP (by show(GX.J S.code ci.B.toNat).aS>0;rw[QM];omega),aP (by show 0<=ci.C/\ci.C<=wi (ci.C+(GX.J S.code ci.B.toNat).aS)/\wi (ci.C+(GX.J S.code ci.B.toNat).aS)<=16/\ci.C<16;rw[hw'];omega),ax,aP (by rw[gY,gY];exact hin),hst,ez];refine js.VH (T:=((S.aG.set f t).set s.nf {CA ci f pd with cU:=CQ 16 (yy t.cU ci.C.toNat ((ci.C+(P:Int)).toNat-ci.C.toNat)) (List.replicate 16 (0:Int))}).set f {GX.J ((S.aG.set f t).set s.nf {CA ci f pd with cU:=CQ 16 (yy t.cU ci.C.toNat ((ci.C+(P:Int)).toNat-ci.C.toNat)) (List.replicate 16 (0:Int))}) f with bt:=wi ((GX.J ((S.aG.set f t).set s.nf {CA ci f pd with cU:=CQ 16 (yy t.cU ci.C.toNat ((ci.C+(P:Int)).toNat-ci.C.toNat)) (List.replicate 16 (0:Int))}) f).bt+1)}) (a:={act S i with dK:={jJ C 0 0 0 0 with az:=0,fg:=4,lN:=s.mem .next},bU:=s.mem .next,aD:=2}) (x:=S.value) (l:=S.left) (q:=.fork s.nf) b hi ?_ w1 w2 rfl ⟨rfl,hnf⟩ (b.Ac (c:=.next) rfl (by rw[hp];rfl) trivial _ _ _ _ _) (Lg.nt rfl) trivial (by rw[gY,gY];exact hTl) (Mn b hi afv hp (hkt _ (λr hr=>by
    have hm:(ci.C+(P:Int)).toNat-ci.C.toNat=P:=by omega
    rw[hm,WY hr,CW];by_cases e:r<P
    ·rw[aP e,aP e,YN e,afv.t.cU _ I]
    ·rw[ct e,ct e,GO])) hlt rfl) b.jN.left b.jN.val
   refine mX some (Ak rfl (Ak ?_ rfl));have e1:GX.J ((S.aG.set f t).set s.nf (CA ci f pd)) f=t:=by rw[pV (by rw[hTl];omega),ct hne];exact TC b hi afv hp
   have hX:Pm (((S.aG.set f t).set (s.mem .next).toNat (⟨ci.B,0,(act S i).au,ci.A,0,wi (wi (wi ((GX.J (S.aG.set f t) (act S i).au.toNat).nA*1000003)+(GX.J (S.aG.set f t) (act S i).au.toNat).bt)+1),List.replicate 16 (0:Int)⟩:aR)).set (s.mem .next).toNat (⟨ci.B,0,(act S i).au,ci.A,0,wi (wi (wi ((GX.J (S.aG.set f t) (act S i).au.toNat).nA*1000003)+(GX.J (S.aG.set f t) (act S i).au.toNat).bt)+1),CQ 16 (yy (GX.J ((S.aG.set f t).set (s.mem .next).toNat (⟨ci.B,0,(act S i).au,ci.A,0,wi (wi (wi ((GX.J (S.aG.set f t) (act S i).au.toNat).nA*1000003)+(GX.J (S.aG.set f t) (act S i).au.toNat).bt)+1),List.replicate 16 (0:Int)⟩:aR)) (act S i).au.toNat).cU ci.C.toNat ((wi (ci.C+(GX.J S.code ci.B.toNat).aS)).toNat-ci.C.toNat)) (List.replicate 16 (0:Int))⟩:aR)) (act S i).au.toNat=((S.aG.set f t).set s.nf {CA ci f pd with cU:=CQ 16 (yy t.cU ci.C.toNat ((ci.C+(P:Int)).toNat-ci.C.toNat)) (List.replicate 16 (0:Int))}).set f {GX.J ((S.aG.set f t).set s.nf {CA ci f pd with cU:=CQ 16 (yy t.cU ci.C.toNat ((ci.C+(P:Int)).toNat-ci.C.toNat)) (List.replicate 16 (0:Int))}) f with bt:=wi ((GX.J ((S.aG.set f t).set s.nf {CA ci f pd with cU:=CQ 16 (yy t.cU ci.C.toNat ((ci.C+(P:Int)).toNat-ci.C.toNat)) (List.replicate 16 (0:Int))}) f).bt+1)}:=by
    rw[Wk,Xr,hw',afv.fr,cO,iB,show(⟨ci.B,0,(f:Int),ci.A,0,pd,List.replicate 16 (0:Int)⟩:aR)=CA ci f pd from rfl,e1];rfl
   show({S with aG:=Pm (((S.aG.set f t).set (s.mem .next).toNat (⟨ci.B,0,(act S i).au,ci.A,0,wi (wi (wi ((GX.J (S.aG.set f t) (act S i).au.toNat).nA*1000003)+(GX.J (S.aG.set f t) (act S i).au.toNat).bt)+1),List.replicate 16 (0:Int)⟩:aR)).set (s.mem .next).toNat (⟨ci.B,0,(act S i).au,ci.A,0,wi (wi (wi ((GX.J (S.aG.set f t) (act S i).au.toNat).nA*1000003)+(GX.J (S.aG.set f t) (act S i).au.toNat).bt)+1),CQ 16 (yy (GX.J ((S.aG.set f t).set (s.mem .next).toNat (⟨ci.B,0,(act S i).au,ci.A,0,wi (wi (wi ((GX.J (S.aG.set f t) (act S i).au.toNat).nA*1000003)+(GX.J (S.aG.set f t) (act S i).au.toNat).bt)+1),List.replicate 16 (0:Int)⟩:aR)) (act S i).au.toNat).cU ci.C.toNat ((wi (ci.C+(GX.J S.code ci.B.toNat).aS)).toNat-ci.C.toNat)) (List.replicate 16 (0:Int))⟩:aR)) (act S i).au.toNat,ai:=((S.ai.set i _).set i _).set i _}:ag)=_;rw[hX,iB,iB];rfl
 ·rw[ct h0]at hs;have htb:=wP (T:=S.aG.set f t) b hi (a:={act S i with dK:=jJ C 0 0 0 0}) hs (Ka rfl rfl);rw[htb,gj,aP (by rfl),aP (Ty b hi),vr b hi,cO,hst,pR];refine js.VH (T:=S.aG.set f t) (a:={act S i with dK:={jJ C 0 0 0 0 with az:=0,fg:=3,lN:=0},aD:=14}) (x:=S.value) (l:=S.left) (q:=.full) b hi ?_ w1 w2 rfl rfl (b.Ac (c:=.next) rfl (by rw[hp];rfl) trivial _ _ _ _ _) (Lg.nt rfl) (by show(11:Nat)≠0;decide) hTl (Cz b afv.hn afv.t) b.jN.left b.jN.val;show some (_,({S with aG:=S.aG.set f t,ai:=(S.ai.set i _).set i _}:ag),_)=_;rw[iB];rfl
end
def wrap(i:Nat)(D:aM)(r:aj)(S:ag)(M:ae):Option (aj×Int×ag×ae×aM):=if r.aE=0 then some (r,0,S,M,D)else some ({r with rT:=(i:Int)},0,S,M,D)
def TD(C:Am.kH)(p:aJ)(sz n i:Nat)(M:ae)(D':aM)(o:Am.Out)(r:Option (aj×Int×ag×ae×aM)):Prop:=
 ∃S' M',r=some (Tc i o.ev,0,S',M',D')/\Ta C p o.s S'/\AR C o.s M' sz (n+1)/\Lg C o.s M M' o.acc
section
variable {K:Nat}{C:Am.kH}{p:aJ}{s:Am.St}{S:ag}{M:ae}{sz n i:Nat}{D:aM}{d:Int}
theorem Pn{e:Option Am.Ev}(h:Td e){S':ag}{M':ae}:wrap i D (BP e) S' M'=some (Tc i e,0,S',M',D):=by
 unfold wrap;cases e with
 | none=>rw[aP (show(BP none).aE=0 from rfl)];rfl
 | some e=>rw[ct (by show ¬((e.kind:Nat):Int)=0;have:e.kind≠0:=h;omega)];rfl
theorem js.w{o:Am.Out}{r:Option (aj×ag×ae)}{r':Option (aj×Int×ag×ae×aM)}(h:js C p sz n M o r)(hr:r'=pL r (wrap i D)):TD C p sz n i M D o r':=by
 obtain⟨S',M',rfl,h1,h2,h3,h4⟩:=h;exact⟨S',M',by rw[hr,dw,Pn h4],h1,h2,h3⟩
theorem Mj.w{D':aM}{o:Am.Out}{r:Option (aj×ag×ae×aM)}{r':Option (aj×Int×ag×ae×aM)}(h:Mj C p sz n M D' o r)(hr:r'=G0 r (λe a c d=>wrap i d e a c)):TD C p sz n i M D' o r':=by
 obtain⟨S',M',rfl,h1,h2,h3,h4⟩:=h;exact⟨S',M',by rw[hr,gj,Pn h4],h1,h2,h3⟩
variable (b:vF C p s S M sz n)(hi:i<C.N)
include b hi
theorem Po{k:Nat}(h:(act S i).aD=k)(hk:k<15):bG (GX.J S.ai i).aD Oy.length/\GX.J Oy (GX.J S.ai i).aD.toNat=GX.J Oy k:=by
 have h':(GX.J S.ai i).aD=k:=h;refine⟨by rw[h'];exact⟨I,by show(k:Int)<15;omega⟩,by rw[h',cO]⟩
theorem W0{k:Nat}(h:(act S i).aD=k)(hk:k=13∨k=14):aX K S M (i:Int) D=some (⟨0,0,0,0,0,0⟩,0,S,M,D):=by
 obtain⟨h1,h2⟩:=Po b hi h I;unfold aX an;rw[eJ,ez,ct (by rw[b.jN.wl];omega),eJ,aP (b.Af hi),cO,aP h1,h2,aP (by rcases hk with rfl | rfl<;>rfl)]
theorem VJ(h:(act S i).aD=0):aX K S M (i:Int) D=pL (jo S M (i:Int) D) (wrap i D):=by
 obtain⟨h1,h2⟩:=Po b hi (k:=0) h eF;have h':(GX.J S.ai i).aD=0:=h;unfold aX iG an;rw[eJ,ez,ct (by rw[b.jN.wl];omega),eJ,aP (b.Af hi),cO,aP h1,h2,ct eF,je,aP h'];rfl
theorem abT(h:(act S i).aD=1):aX K S M (i:Int) D=pL (j9 S M (i:Int) D) (wrap i D):=by
 obtain⟨h1,h2⟩:=Po b hi (k:=1) h eF;have h':(GX.J S.ai i).aD=1:=h;unfold aX iG an;rw[eJ,ez,ct (by rw[b.jN.wl];omega),eJ,aP (b.Af hi),cO,aP h1,h2,ct eF,je,dJ h',aP h'];rfl
theorem YS(h:(act S i).aD=2):aX K S M (i:Int) D=pL (jK S M (i:Int) D) (wrap i D):=by
 obtain⟨h1,h2⟩:=Po b hi (k:=2) h eF;have h':(GX.J S.ai i).aD=2:=h;unfold aX iG an;rw[eJ,ez,ct (by rw[b.jN.wl];omega),eJ,aP (b.Af hi),cO,aP h1,h2,ct eF,je,dJ h',dJ h',aP h'];rfl
theorem wQ(h:(act S i).aD=3):aX K S M (i:Int) D=pL (cx S M (i:Int) D) (wrap i D):=by
 obtain⟨h1,h2⟩:=Po b hi (k:=3) h eF;have h':(GX.J S.ai i).aD=3:=h;unfold aX iG an;rw[eJ,ez,ct (by rw[b.jN.wl];omega),eJ,aP (b.Af hi),cO,aP h1,h2,ct eF,je,dJ h',dJ h',dJ h',aP h'];rfl
theorem NU(h:(act S i).aD=4):aX K S M (i:Int) D=pL (eA S M (i:Int) D) (wrap i D):=by
 obtain⟨h1,h2⟩:=Po b hi (k:=4) h eF;have h':(GX.J S.ai i).aD=4:=h;unfold aX iG an;rw[eJ,ez,ct (by rw[b.jN.wl];omega),eJ,aP (b.Af hi),cO,aP h1,h2,ct eF,je,dJ h',dJ h',dJ h',dJ h',aP h'];rfl
theorem YT(h:(act S i).aD=5):aX K S M (i:Int) D=pL (dg S M (i:Int) D) (wrap i D):=by
 obtain⟨h1,h2⟩:=Po b hi (k:=5) h eF;have h':(GX.J S.ai i).aD=5:=h;unfold aX iG an;rw[eJ,ez,ct (by rw[b.jN.wl];omega),eJ,aP (b.Af hi),cO,aP h1,h2,ct eF,je,dJ h',dJ h',dJ h',dJ h',dJ h',aP h'];rfl
theorem Mp(h:(act S i).aD=6):aX K S M (i:Int) D=pL (eO S M (i:Int) D) (wrap i D):=by
 obtain⟨h1,h2⟩:=Po b hi (k:=6) h eF;have h':(GX.J S.ai i).aD=6:=h;unfold aX iG an;rw[eJ,ez,ct (by rw[b.jN.wl];omega),eJ,aP (b.Af hi),cO,aP h1,h2,ct eF,je,dJ h',dJ h',dJ h',dJ h',dJ h',dJ h',aP h'];rfl
theorem NV(h:(act S i).aD=7):aX K S M (i:Int) D=pL (fq S M (i:Int) D) (wrap i D):=by
 obtain⟨h1,h2⟩:=Po b hi (k:=7) h eF;have h':(GX.J S.ai i).aD=7:=h;unfold aX iG an;rw[eJ,ez,ct (by rw[b.jN.wl];omega),eJ,aP (b.Af hi),cO,aP h1,h2,ct eF,je,dJ h',dJ h',dJ h',dJ h',dJ h',dJ h',dJ h',aP h'];rfl
theorem Ds(h:(act S i).aD=8):aX K S M (i:Int) D=pL (cP S M (i:Int) D) (wrap i D):=by
 obtain⟨h1,h2⟩:=Po b hi (k:=8) h eF;have h':(GX.J S.ai i).aD=8:=h;unfold aX iG an;rw[eJ,ez,ct (by rw[b.jN.wl];omega),eJ,aP (b.Af hi),cO,aP h1,h2,ct eF,je,dJ h',dJ h',dJ h',dJ h',dJ h',dJ h',dJ h',dJ h',aP h'];rfl
theorem TE(h:(act S i).aD=9):aX K S M (i:Int) D=G0 (fT K S M (i:Int) D) (λe a c d=>wrap i d e a c):=by
 obtain⟨h1,h2⟩:=Po b hi (k:=9) h eF;have h':(GX.J S.ai i).aD=9:=h;unfold aX iG an;rw[eJ,ez,ct (by rw[b.jN.wl];omega),eJ,aP (b.Af hi),cO,aP h1,h2,ct eF,je,dJ h',dJ h',dJ h',dJ h',dJ h',dJ h',dJ h',dJ h',dJ h',aP h'];rfl
theorem Dt(h:(act S i).aD=10):aX K S M (i:Int) D=pL (cB S M (i:Int) D) (wrap i D):=by
 obtain⟨h1,h2⟩:=Po b hi (k:=10) h eF;have h':(GX.J S.ai i).aD=10:=h;unfold aX iG an;rw[eJ,ez,ct (by rw[b.jN.wl];omega),eJ,aP (b.Af hi),cO,aP h1,h2,ct eF,je,dJ h',dJ h',dJ h',dJ h',dJ h',dJ h',dJ h',dJ h',dJ h',dJ h',aP h'];rfl
theorem YU(h:(act S i).aD=11):aX K S M (i:Int) D=pL (fu K S M (i:Int) D) (wrap i D):=by
 obtain⟨h1,h2⟩:=Po b hi (k:=11) h eF;have h':(GX.J S.ai i).aD=11:=h;unfold aX iG an;rw[eJ,ez,ct (by rw[b.jN.wl];omega),eJ,aP (b.Af hi),cO,aP h1,h2,ct eF,je,dJ h',dJ h',dJ h',dJ h',dJ h',dJ h',dJ h',dJ h',dJ h',dJ h',dJ h',aP h'];rfl
theorem Bc(h:(act S i).aD=12):aX K S M (i:Int) D=pL (bP S M (i:Int) D) (wrap i D):=by
 obtain⟨h1,h2⟩:=Po b hi (k:=12) h eF;have h':(GX.J S.ai i).aD=12:=h;unfold aX iG an;rw[eJ,ez,ct (by rw[b.jN.wl];omega),eJ,aP (b.Af hi),cO,aP h1,h2,ct eF,je,dJ h',dJ h',dJ h',dJ h',dJ h',dJ h',dJ h',dJ h',dJ h',dJ h',dJ h',dJ h',aP h'];rfl
def drawn(q:Am.Pc)(D:aM):aM:=match q with
 | .oC=>He D
 | _=>D
theorem NW(hK:100<K):TD C p sz n i M (drawn (s.pc i) D) (Am.aH C s i (Cl D)) (aX K S M (i:Int) D):=by
 obtain⟨w1,w2,w3⟩:=b.jN.wk i hi;cases hp:s.pc i with
 | halted =>
  rw[hp]at w3;rw[W0 b hi (k:=13) w3 (.inl rfl)];unfold Am.aH;rw[hp];exact⟨S,M,rfl,b.jN,b.ar.keep rfl rfl rfl rfl,Lg.none_⟩
 | full =>
  rw[hp]at w3;rw[W0 b hi (k:=14) w3 (.inr rfl)];unfold Am.aH;rw[hp];exact⟨S,M,rfl,b.jN,b.ar.keep rfl rfl rfl rfl,Lg.none_⟩
 | run =>
  rw[hp]at w3;obtain⟨f,ci,t,afv,hr⟩:=VI (M:=M) (D:=D) b hi hp;have hd:=abT (K:=K) (D:=D) b hi w3;rw[hr]at hd;have hk:ci.aE=0∨ci.aE=1∨ci.aE=2∨ci.aE=3∨ci.aE=4∨ci.aE=5∨ci.aE=6∨ci.aE=7∨ci.aE=8∨ci.aE=9:=by have:=afv.kd;omega
  rcases hk with k | k | k | k | k | k | k | k | k | k
  ·exact(abG b hi afv hp k).w hd
  ·exact(abH b hi afv hp k).w hd
  ·exact(abI b hi afv hp k).w hd
  ·exact(abJ b hi afv hp k).w hd
  ·exact(abK b hi afv hp k).w hd
  ·exact(abR b hi afv hp k).w hd
  ·exact(abO b hi afv hp k).w hd
  ·exact(abN b hi afv hp k).w hd
  ·exact(abL b hi afv hp k).w hd
  ·exact(abP b hi afv hp k).w hd
 | oC =>
  rw[hp]at w3;exact(QH b hi hp).w (TE b hi w3.1)
 | Eh =>
  rw[hp]at w3;exact(Vx b hi hK hp).w (YU b hi w3.1)
 | flag =>
  rw[hp]at w3;rcases w3 with h | h
  ·exact(Tu b hi hK hp h).w (TE b hi h.1)
  ·exact(Vy b hi hp h).w (Bc b hi h.1.1)
 | sleep =>
  rw[hp]at w3;exact(Tq b hi hp).w (Bc b hi w3.1.1)
 | vp =>
  rw[hp]at w3;exact(Mi b hi hp).w (Bc b hi w3.1.1)
 | EG j =>
  rw[hp]at w3;obtain⟨_,k,h,_⟩:=w3;exact(Ts b hi hp).w (Bc b hi h.1)
 | Dh j t =>
  rw[hp]at w3;obtain⟨_,k,h,_⟩:=w3;exact(Tt b hi hp).w (Bc b hi h.1)
 | parked =>
  rw[hp]at w3;obtain⟨_,k,h⟩:=w3;exact(QG b hi hp).w (Bc b hi h.1)
 | back w =>
  rw[hp]at w3;obtain⟨_,k,h,_⟩:=w3;exact(Vz b hi hp).w (Bc b hi h.1)
 | vX w =>
  rw[hp]at w3;obtain⟨_,k,h,_⟩:=w3;exact(NP b hi hp).w (Bc b hi h.1)
 | start x =>
  rw[hp]at w3;exact(Tx b hi hp).w (VJ b hi w3.1)
 | fork c =>
  rw[hp]at w3;exact(VE b hi hp).w (YS b hi w3.1)
 | rR =>
  rw[hp]at w3;exact(NS b hi hp).w (YT b hi w3.1)
 | out pp c =>
  rw[hp]at w3;exact(YQ b hi hp).w (Mp b hi w3.1)
 | take pp c =>
  rw[hp]at w3;exact(VG b hi hp).w (Mp b hi w3.1)
 | done =>
  rw[hp]at w3;exact(Vu b hi hp).w (NV b hi w3.1)
 | tell j =>
  rw[hp]at w3;exact(Vv b hi hp).w (NV b hi w3.1)
 | xz j =>
  rw[hp]at w3;exact(NN b hi hp).w (NV b hi w3.1)
 | Cd c =>
  rw[hp]at w3;exact(Tg b hi hp).w (wQ b hi w3.1)
 | zR c bb =>
  rw[hp]at w3;exact(Ti b hi hp).w (wQ b hi w3.1)
 | tg c bb t =>
  rw[hp]at w3;exact(NC b hi hp).w (wQ b hi w3.1)
 | th c bb t =>
  rw[hp]at w3;exact(ND b hi hp).w (wQ b hi w3.1)
 | grow c bb t cc =>
  rw[hp]at w3;exact(Vo b hi hp).w (wQ b hi w3.1)
 | pF c bb t cc =>
  rw[hp]at w3;exact(NG b hi hp).w (wQ b hi w3.1)
 | mD c bb t cc m =>
  rw[hp]at w3;exact(L8 b hi hp).w (wQ b hi w3.1)
 | mK c bb t cc m x =>
  rw[hp]at w3;exact(J6 b hi hp).w (wQ b hi w3.1)
 | pG c bb t cc =>
  rw[hp]at w3;exact(NH b hi hp).w (wQ b hi w3.1)
 | mE c bb cc =>
  rw[hp]at w3;exact(L9 b hi hp).w (wQ b hi w3.1)
 | rh c bb =>
  rw[hp]at w3;exact(NJ b hi hp).w (wQ b hi w3.1)
 | HU =>
  rw[hp]at w3;exact(Vt b hi hp).w (NU b hi w3.1)
 | ug j =>
  rw[hp]at w3;exact(NL b hi hp).w (NU b hi w3.1)
 | vW j =>
  rw[hp]at w3;exact(NM b hi hp).w (NU b hi w3.1)
 | Fg =>
  rw[hp]at w3;exact(Vq b hi hp).w (Ds b hi w3.1)
 | wO bb =>
  rw[hp]at w3;exact(Qw b hi hp).w (Ds b hi w3.1)
 | rD bb =>
  rw[hp]at w3;exact(Ma b hi hp).w (Ds b hi w3.1)
 | Dg bb =>
  rw[hp]at w3;exact(Vr b hi hp).w (Ds b hi w3.1)
 | qt t =>
  rw[hp]at w3;exact(Mb b hi hp).w (Ds b hi w3.1)
 | vA bb t =>
  rw[hp]at w3;exact(Qx b hi hp).w (Ds b hi w3.1)
 | rS bb t cc =>
  rw[hp]at w3;exact(NK b hi hp).w (Ds b hi w3.1)
 | uh bb t x =>
  rw[hp]at w3;exact(Qy b hi hp).w (Ds b hi w3.1)
 | sL t x w =>
  rw[hp]at w3;exact(Qz b hi hp).w (Ds b hi w3.1)
 | vC v t =>
  rw[hp]at w3;exact(QB b hi hp).w (Dt b hi w3.1)
 | rE v t =>
  rw[hp]at w3;exact(Mc b hi hp).w (Dt b hi w3.1)
 | qu v t g =>
  rw[hp]at w3;exact(Mf b hi hp).w (Dt b hi w3.1)
 | oa v t g cc =>
  rw[hp]at w3;exact(J7 b hi hp).w (Dt b hi w3.1)
 | oD v t x =>
  rw[hp]at w3;exact(Mg b hi hp).w (Dt b hi w3.1)
theorem TF{S':ag}{M':ae}(h1:Ta C p (Am.aH C s i d).s S')(h2:AR C (Am.aH C s i d).s M' sz (n+1))(hn:n+1<=1000000000):vF C p (Am.aH C s i d).s S' M' sz (n+1):=
 ⟨b.ok,h1,h2,b.z.aH b.ok b.dt hi d,b.bd.aH d,b.dt.aH hi d,Am.FI.aH b.fi b.dt hi d,b.fr.aH b.ok b.fi b.dt hi d,hn,b.vd,b.cf,b.room⟩
end
section
variable {K:Nat}
def cq(f m:Nat):Nat->Nat
 | 0=>f
 | g+1=>min (2*cq f m g) m
def tq(f m:Nat):Nat->Nat
 | 0=>0
 | g+1=>tq f m g+1+cq f m (g+1)
theorem Pp{f m:Nat}(h:f<=m):∀g,cq f m g<=m
 | 0=>h
 | g+1=>by simp only[cq];omega
theorem Kb{f m:Nat}(h1:1<=f)(h:f<=m):∀g,1<=cq f m g
 | 0=>h1
 | g+1=>by have:=Kb h1 h g;simp only[cq];omega
theorem NX{f m:Nat}(h1:1<=f)(hf:f<=m):∀(d g:Nat),m-cq f m g<=d->∃afu,g<=afu/\cq f m afu=m/\(∀x,g<=x->x<afu->cq f m x<m)/\tq f m g<=tq f m afu/\(cq f m g=m->afu=g)/\(2<=cq f m g->2*(tq f m afu-tq f m g)+5*cq f m g<=7*m)/\2*(tq f m afu-tq f m g)<=7*m
 | d,g,hd=>by
  have hl:=Pp hf g;have hp:=Kb h1 hf g;by_cases e:cq f m g<m
  ·have hn:cq f m (g+1)=min (2*cq f m g) m:=rfl;have hT:tq f m (g+1)=tq f m g+1+cq f m (g+1):=rfl;obtain⟨d,rfl⟩ :∃n,d=n+1:=⟨d-1,I⟩;obtain⟨afu,a1,a2,a3,a4,a5,a6,a7⟩:=NX h1 hf d (g+1) I;refine⟨afu,I,a2,λx hx hG => ?_,I,λh=>I,λh => ?_,?_⟩
   ·by_cases ex:x=g
    ·rw[ex];exact e
    ·exact a3 x I hG
   ·by_cases e2:cq f m (g+1)=m
    ·have:=a5 e2;subst this;omega
    ·have:=a6 I;omega
   ·by_cases e2:cq f m (g+1)=m
    ·have:=a5 e2;subst this;omega
    ·have:=a6 I;omega
  ·have e':cq f m g=m:=by omega
   exact⟨g,j5 _,e',λx h1 h2=>I,j5 _,λ_=>rfl,λh=>I,I⟩
theorem Pq{f m afu:Nat}(hf:f<=m)(hm:m<=4096)(hG:cq f m afu=m)(hT:tq f m afu<=100000):∀(d g k:Nat) (z:Int),g+d=afu->d<k->(∀x,g<=x->x<afu->cq f m x<m)->0<=z->z+((tq f m afu-tq f m g:Nat):Int)<=1000000->tq f m g<=tq f m afu->
 lU K (m:Int) k z (cq f m g:Nat)=some (z+((tq f m afu-tq f m g:Nat):Int))
 | d,g,k,z,hd,hk,hx,hz,hz2,ht=>by
  obtain⟨k,rfl⟩ :∃n,k=n+1:=⟨k-1,I⟩;have hl:=Pp hf g;rw[lU];by_cases e:g=afu
  ·subst e;rw[hG,ez,Nat.sub_self];simp
  ·obtain⟨d,rfl⟩ :∃n,d=n+1:=⟨d-1,I⟩;have h1:=hx g (j5 _) I;have hn:cq f m (g+1)=min (2*cq f m g) m:=rfl;have hT':tq f m (g+1)=tq f m g+1+cq f m (g+1):=rfl;have VK:∀y,g+1+y<=afu->tq f m (g+1)<=tq f m (g+1+y):=λy=>by
    induction y with
    | zero=>intro _;exact j5 _
    | succ y ih=>intro h;have:=ih I;show _<=tq f m (g+1+y)+1+cq f m (g+1+y+1);omega
   have hle:tq f m (g+1)<=tq f m afu:=by have:=VK (afu-(g+1)) I;rwa [show g+1+(afu-(g+1))=afu by omega]at this
   have hc:(if(m:Int)<wi ((2:Int)*((cq f m g:Nat):Int))then(m:Int)else wi ((2:Int)*((cq f m g:Nat):Int)))=((cq f m (g+1):Nat):Int):=by
    rw[eI I];split<;>omega
   rw[pR,hc,eI (x:=z+1) I,eI (x:=z+1+_) I,
    Pq hf hm hG hT d (g+1) k _ I I (λx h1 h2=>hx x I h2) I I hle]
   congr 1;omega
theorem VL{N F:Nat}{kY:eK}{f m:Nat}(hl:WR kY.cr kY.dQ kY.jE)(hF:kY.cr=F)(hf:kY.dQ=f)(hm:kY.jE=m)(ZL:1<=N)(hN:N<=64)(hK:5000<K) :
 ∃afu,cq f m afu=m/\(∀x,x<afu->cq f m x<m)/\tq f m afu<=15000/\xn K (N:Int) kY=some ((4+10*F+N+N*(4+f+tq f m afu):Nat):Int)/\4+10*F+N+N*(4+f+tq f m afu)<=1048576:=by
 have f1:=hl.f1;have f2:=hl.f2;have a1:=hl.a1;have a2:=hl.a2;have m2:=hl.m2;obtain⟨afu,g1,g2,g3,g4,g5,g6,g7⟩:=NX (f:=f) (m:=m) I I (m-cq f m 0) 0 (j5 _);have h0:tq f m 0=0:=rfl;have h0':cq f m 0=f:=rfl;rw[h0']at g5 g6;rw[h0]at g6 g7;have hb:2*(4+f+tq f m afu)<=28690:=by
  by_cases e:2<=f
  ·have:=g6 e;omega
  ·omega
 refine⟨afu,g2,λx hx=>g3 x (BT _) hx,I,?_,?_⟩
 ·unfold xn j7 tC;have hGK:afu<K:=by
   have VK:∀x,x<=afu->x<=tq f m x:=λx=>by
    induction x with
    | zero=>intro _;exact j5 _
    | succ y ih=>intro h;have:=ih I;show _<=tq f m y+1+cq f m (y+1);omega
   have h9:∀x,x<=afu->x<=cq f m x:=λx=>by
    induction x with
    | zero=>intro _;exact BT _
    | succ y ih =>
     intro h;have:=ih I;have:=g3 y (BT _) I;have:=Kb (f:=f) (m:=m) I I y;show _<=min (2*cq f m y) m;omega
   have:=h9 afu (j5 _);omega
  have e:=Pq (K:=K) (f:=f) (m:=m) (afu:=afu) I I g2 I afu 0 K (4+(f:Int)) I hGK (λx h1 h2=>g3 x h1 h2) I I (by rw[h0];omega);rw[h0,h0',Nat.sub_zero]at e;rw[ez,ez,ez,ez,ez,ez,ax,ct (by simp;omega),eJ,hf,hm,eI (x:=4+(f:Int)) I,e,ax,hF,
   eI (x:=(F:Int)*10) I,eI (x:=(2:Int)+(F:Int)*10) I,eI (x:=(2:Int)+(F:Int)*10+2) I,eI (x:=(2:Int)+(F:Int)*10+2+(N:Int)) I]
  have hmul:(N:Int)*(4+(f:Int)+((tq f m afu:Nat):Int))=((N*(4+f+tq f m afu):Nat):Int):=by simp
  have hb2:N*(4+f+tq f m afu)<=64*14345:=Nat.mul_le_mul hN I;rw[hmul,eI (x:=((N*(4+f+tq f m afu):Nat):Int)) I,eI I]
  congr 1;omega
 ·have hb2:N*(4+f+tq f m afu)<=64*14345:=Nat.mul_le_mul hN I;omega
end
def init(C:Am.kH)(args:List Int):Am.St:=
 { mem:=λa=>match a with
    | .next=>1
    | .join _=>1
    | .buf i=>(Am.vD C i:Int)+3
    | .cap _ g=>if g=0 then(C.first:Int)else 0
    | _=>0
   pc:=λi=>if i=0 then .start (-1)else .oC
   hold:=λi=>if i=0 then some 0 else none
   fX:=λ_=>0
   fr:=λf=>{fn:=0,J:=0,par:=0,slot:=0,bt:=0,nA:=if f=0 then 1 else 0,cU:=λr=>if f=0 then GX.J args r else 0}
   nf:=1
   cur:=λ_=>0
   base:=λj _=>(Am.vD C j:Int)+3
   size:=Am.S0 C
   val:=none
   JR:=false
   loc:=λf=>if f=0 then .held 0 else .free
   q:=λ_=>[]
   pop:=λ_=>none
   bt:=λ_=>[]}
section
variable {C:Am.kH}{args:List Int}
theorem VM(j:Nat):Am.lj ((init C args).pc j)=false:=by show Am.lj (if j=0 then _ else _)=false;split<;>rfl
theorem yL(j:Nat):Am.gen (init C args) j=0:=by unfold Am.gen;rw[VM];rfl
theorem VN(hC:C.OK):Am.SZ C (init C args) where
 cap:=λj hj g hg=>by
  have JL:g=0:=Nat.le_zero.1 hg;subst JL;rfl
 SY:=λj hj=>rfl
 size:=by
  show(Am.S0 C:Int)=_;rw[Am.Cv (g:=λ_=>0) (λj _=>by rw[yL];rfl)];have:∀n,Am.Ek (λ_=>0) n=0:=λn=>by induction n with
   | zero=>rfl
   | succ n ih=>show Am.Ek (λ_=>0) n+0=0;rw[ih]
  rw[this];simp
 bs:=λj hj g h1 h2=>by rw[yL]at h2;omega
 dj:=λj j' g g' _ _ h1 _ h2 _ _=>by rw[yL]at h2;omega
 gm:=λj hj g hg=>by rw[yL]at hg;omega
theorem VO:Am.BD (init C args) 0 where
 m:=λa ha=>by cases a<;>first | exact Bool.noConfusion ha | exact⟨by show -_<=(1:Int);omega,by show(1:Int)<=_;omega⟩ | exact⟨by show -_<=(0:Int);omega,by show(0:Int)<=_;omega⟩
 r:=λi x hx=>by
  have:Am.gL ((init C args).pc i)=[]:=by show Am.gL (if i=0 then _ else _)=[];split<;>rfl
  rw[this]at hx;cases hx
 k:=λf=>j5 _
theorem VP(hC:C.OK):Am.DT C (init C args):=by
 refine⟨λj hj => ?_,λi hi => ?_⟩
 ·refine⟨xd _,λg hg => ?_,?_,rfl,λm hm=>absurd hm (Nat.not_lt_zero _),?_⟩
  ·have JL:g=0:=Nat.le_zero.1 hg;subst JL;have:=hC.c1;show(1:Int)<=(C.first:Int);omega
  ·have:=hC.cm;show(C.first:Int)<=C.most;omega
  ·refine(Am.qU.idle ?_).2 ⟨rfl,?_⟩
   ·show Am.Idle (if j=0 then _ else _);split<;>trivial
   ·show(0:Int)<=(C.first:Int);omega
 ·unfold Am.Th;by_cases e:i=0
  ·rw[show(init C args).pc i= .start (-1)from aP e];trivial
  ·rw[show(init C args).pc i= .oC from ct e];show C.N≠1;omega
theorem VQ(hC:C.OK):(Am.view (init C args)).FI C.N C.F:=by
 have hg:∀i,(Am.view (init C args)).g i=if i=0 then .start else .none:=λi=>by show Am.sig (if i=0 then _ else _)=_;split<;>rfl
 have hh:∀i,(Am.view (init C args)).hold i=if i=0 then some 0 else none:=λ_=>rfl;have hl:∀f,(Am.view (init C args)).loc f=if f=0 then .held 0 else .free:=λ_=>rfl;have hq:∀i,(Am.view (init C args)).q i=[]:=λ_=>rfl;have hk:∀i,(Am.view (init C args)).bt i=[]:=λ_=>rfl;have hpo:∀i,(Am.view (init C args)).pop i=none:=λ_=>rfl;have hj:∀f,(Am.view (init C args)).join f=1:=λ_=>rfl;have hm:∀f,(Am.view (init C args)).mark f=0:=λ_=>rfl;have hp:∀f,(Am.view (init C args)).par f=0:=λ_=>rfl;have hn:(Am.view (init C args)).nf=1:=rfl;have hx:(Am.view (init C args)).next=1:=rfl;have f1:=hC.f1;constructor
 ·omega
 ·omega
 ·left;rw[hx,hn];rfl
 ·intro f hf;rw[hl,ez]
 ·intro f hf;rw[hl,pR];simp
 ·intro f hf;rw[hk,hj];exact⟨rfl,rfl⟩
 ·intro i f hi h;rw[hh]at h;split at h
  ·next e=>cases h;right;rw[hg,aP e,hl,aP rfl,e];exact⟨by simp,rfl⟩
  ·cases h
 ·intro i hi h;rw[hg]at h;split at h
  ·next e=>rw[hh,aP e];simp
  ·cases h
 ·intro i hi h;rw[hg]at h;split at h
  ·cases h
  ·next e=>rw[hh,ct e]
 ·intro i c hi h;rw[hg]at h;split at h<;>cases h
 ·intro i c hi h;rw[hg]at h;split at h<;>cases h
 ·intro j x hj h;rw[hq]at h;cases h
 ·intro j hj;rw[hq];exact List.nodup_nil
 ·intro i x hi h;rw[hpo]at h;cases h
 ·intro i pp c hi h;rw[hg]at h;split at h<;>cases h
 ·intro i pp c hi h;rw[hg]at h;split at h<;>cases h
 ·intro i pp c hi h;rw[hg]at h;split at h<;>cases h
 ·intro pp;rw[hk];exact List.nodup_nil
 ·intro pp c h;rw[hk]at h;cases h
 ·intro c h0 hc;omega
 ·intro c hc;rw[hp];omega
 ·intro f hf;rw[hl,pR,hj,hk];rfl
 ·intro f _;exact hm f
 ·intro i f _ _ _;exact hm f
theorem VR(hC:C.OK):Am.FR C (init C args):=λf hf=>⟨hC.fn0,by show(0:Nat)<8;decide,λ_=>hC.YA 0 hC.fn0⟩
theorem VS{N F:Nat}{c:List Int}(hC:C.OK)(hN:C.N=N)(hF:C.F=F){afs:Nat}(hW:afs=4+C.first)(L:GF N F afs (C.first:Int) c):Am.CL C (init C args) c:=by
 subst hN;subst hF;subst hW;have ad8:∀i,Am.vD C i=4+10*C.F+C.N+i*(4+C.first):=λ_=>rfl;refine⟨by show(c.length:Int)=(Am.S0 C:Int);rw[L.len];rfl,λa ha => ?_⟩;have key:∀k:Nat,Am.cy C (init C args) a=(k:Int)->c.getD (Am.cy C (init C args) a).toNat 0=GX.J c k:=λk hk=>by rw[hk];rfl
 have dq:=λi hi r hr=>L.dq i hi r hr;cases a with
 | result=>exact(key 0 rfl).trans L.c0
 | next=>exact(key 1 rfl).trans L.c1
 | join f=>exact(key (2+10*f+0) (by show(2:Int)+10*f=_;omega)).trans (L.fr f ha 0 I)
 | mark f=>exact(key (2+10*f+1) (by show(3:Int)+10*f=_;omega)).trans (L.fr f ha 1 I)
 | slot f k=>have h8:=ha.2;exact(key (2+10*f+(2+k)) (by show(4:Int)+10*f+k=_;omega)).trans ((L.fr f ha.1 (2+k) I).trans (ct I))
 | tJ=>exact(key (2+10*C.F+0) (by show(2:Int)+10*C.F=_;omega)).trans (L.lot 0 I)
 | Eg=>exact(key (2+10*C.F+1) (by show(3:Int)+10*C.F=_;omega)).trans (L.lot 1 I)
 | flag i=>have hi:i<C.N:=ha;exact(key (2+10*C.F+(2+i)) (by show(4:Int)+10*C.F+i=_;omega)).trans (L.lot (2+i) I)
 | top i=>exact(key (4+10*C.F+C.N+i*(4+C.first)+0) rfl).trans (dq i ha 0 I)
 | bot i=>exact(key (4+10*C.F+C.N+i*(4+C.first)+1) rfl).trans (dq i ha 1 I)
 | buf i=>exact(key (4+10*C.F+C.N+i*(4+C.first)+2) rfl).trans (dq i ha 2 I)
 | cap i g =>
  have hg:g=0:=by have:=ha.2;rw[yL]at this;omega
  subst hg;exact(key (4+10*C.F+C.N+i*(4+C.first)+3) rfl).trans (dq i ha.1 3 I)
 | el i g m =>
  have hg:g=0:=by have:=ha.2.1;rw[yL]at this;omega
  subst hg;have hm:m<C.first:=ha.2.2;exact(key (4+10*C.F+C.N+i*(4+C.first)+(4+m)) (by show(Am.vD C i:Int)+3+1+m=_;rw[ad8];omega)).trans ((dq i ha.1 (4+m) I).trans (by rw[ez,ez];rfl))
end
theorem NY(C:Am.kH):∀g,Am.uA C g=cq C.first C.most g
 | 0=>rfl
 | g+1=>by show min (2*Am.uA C g) C.most=min (2*cq C.first C.most g) C.most;rw[NY C g]
theorem TG(C:Am.kH):∀g,Am.tot C g=tq C.first C.most g
 | 0=>rfl
 | g+1=>by show Am.tot C g+1+Am.uA C (g+1)=tq C.first C.most g+1+cq C.first C.most (g+1);rw[TG C g,NY C (g+1)]
theorem TH{p:aJ}{args:List Int}{N F f m sz afu:Nat}{c:List Int}{l:List aN}{w:Bool}(hv:Valid p)(ha:(args.length:Int)=(GX.J p.ah 0).aS)(Mx:1<=N)(hn:N<=64)(hf1:1<=F)(hf:F<=4096)(h1:1<=f)(WV:f<=m)(hm:m<=4096)
 (hG:cq f m afu=m) (hsz:sz=4+10*F+N+N*(4+f+tq f m afu)) (hs1:sz<=1048576) (L:GF N F (4+f) (f:Int) c) (hl:l=[]) {x:Int}:vF (cfg p N F f m) p (init (cfg p N F f m) args) (abh p args N F (4+f) m) (ar sz c l x w) sz 0:=by
 have hC:=S4 (p:=p) (N:=N) (F:=F) (f:=f) (m:=m) hv Mx hn hf1 hf h1 WV hm;have hz:=VN (args:=args) hC;have hroom:(sz:Int)=Am.S0 (cfg p N F f m)+(cfg p N F f m).N*Am.tot (cfg p N F f m) afu:=by
  rw[TG];show(sz:Int)=((4+10*F+N+N*(4+f):Nat):Int)+(N:Int)*(tq f m afu:Int);rw[hsz,show 4+f+tq f m afu=(4+f)+tq f m afu from rfl,Nat.mul_add];simp;omega
 have hcap:Am.uA (cfg p N F f m) afu=(cfg p N F f m).most:=by rw[NY];exact hG
 have hp8:=(hv.Jx 0 hv.n1).p8;subst hl;refine⟨hC,?_,⟨rfl,hs1,L6 hz hroom hcap,rfl,VS hC rfl rfl rfl L,j5 _⟩,hz,VO,VP hC,VQ hC,VR hC,I,hv,rfl,afu,hroom,hcap⟩;refine⟨rfl,rfl,rfl,rfl,rfl,rfl,?_,λv hvN => ?_,?_,λg hg => ?_,?_,λi hi => ?_,rfl,rfl⟩
 ·exact O4 N 0
 ·have h:=SQ (B:=4+10*F+N) (afs:=4+f) (most:=(m:Int)) N 0 v hvN;rw[Ag]at h;exact h
 ·show((List.replicate F SU).set 0 _).length=F;rw[gY,mo]
 ·have JL:g=0:=by have:g<1:=hg;omega
  subst JL;show Qs _ 0 (GX.J ((List.replicate F SU).set 0 _) 0);rw[pV (by rw[mo];omega),aP rfl];refine⟨rfl,rfl,rfl,rfl,rfl,rfl,λr hr => ?_⟩;show GX.J (CQ 16 args (List.replicate 16 0)) r=GX.J args r;rw[WY hr];split
  ·rfl
  ·next e=>rw[GO];unfold GX.J;rw[List.getD_eq_getElem?_getD,List.getElem?_eq_none I];rfl
 ·show((xX 0 N).set 0 _).length=N;rw[gY,zq]
 ·show aOK _ _ i (GX.J ((xX 0 N).set 0 _) i);have ZO:i<N:=hi;rw[pV (by rw[zq];omega)];by_cases e:i=0
  ·subst e;rw[aP rfl];exact⟨rfl,rfl,rfl,rfl⟩
  ·rw[ct e,Ef N 0 i ZO,Ag];refine⟨rfl,by show(-1:Int)=fi (if i=0 then some 0 else none);rw[ct e];rfl,?_⟩;rw[show(init (cfg p N F f m) args).pc i= .oC from ct e];exact⟨rfl,rfl,by show(0:Nat)<3;decide⟩
section
variable {K:Nat}
theorem Pr{x n:Int}(h1:1<=n)(h2:n<=1000) :∃i:Nat,ij x n=some (i:Int)/\(i:Int)<n:=by
 have e1:=EA x (b:=n) I;have e2:=EB x (show 0<n by omega);have e4:x.tmod n=if 0<=x∨n∣x then x%n else x%n-n:=by
  rw[Int.tmod_eq_emod];split
  ·omega
  ·rw[show((n.natAbs:Nat):Int)=n by omega]
 refine⟨(x%n).toNat,?_,I⟩;rw[show(((x%n).toNat:Nat):Int)=x%n by omega];unfold ij;rw[pR,e4];by_cases h:0<=x∨n∣x
 ·rw[aP h,ez]
 ·rw[ct h,pR,eI I];congr 1;omega
end
section
variable {K:Nat}
theorem abU{C:Am.kH}{i cj tr:Nat}{p:Am.Pc}{bs:Nat->Nat->Int}{a:bz}(h:ph C i p tr cj bs a)(ZN:a.aD=13):p= .halted:=by
 cases p<;>first | rfl | (exfalso;dsimp only [ph,RO]at h;first | omega | (have:=h.1;omega))
section
variable {C:Am.kH}{p:aJ}{s:Am.St}{S:ag}{M:ae}{sz n i:Nat}{D:aM}
theorem QS(h:Ta C p s S)(hi:i<C.N):nM S M (i:Int)=some ((act S i).aD==13):=by
 unfold nM;rw[pR,aP (by rw[h.wl];omega),aP ⟨I,by rw[h.wl];omega⟩,cO]
theorem YV(h:M.log.length<=2000000000):oU M=some M.log:=by
 unfold oU;rw[aP ⟨I,I⟩,aP (by rw[mo])]
end
theorem QT{C:Am.kH}{p:aJ}{s:Am.St}{S:ag}{M:ae}{sz n:Nat}(b:vF C p s S M sz n)(w:Bool):vF C p s S {M with watched:=w} sz n:=
 { b with ar:=⟨b.ar.size,b.ar.s1,b.ar.fit,b.ar.mark,b.ar.cl,b.ar.lg⟩}
end
end Mo
end
section
namespace Am
structure ZP where
 st:Nat->Nat
 nA:Nat->Int
 bt:Nat->Nat
def abV(C:kH)(o:ZP)(e:Ev):Prop:=
 if e.kind=2 then o.st e.au.toNat=0/\o.st e.x.toNat=2/\e.v=C.pd (o.nA e.x.toNat) (o.bt e.x.toNat)/\e.au.toNat≠e.x.toNat
 else if e.kind=1 then o.st e.au.toNat=1/\e.v=1
 else if e.kind=6 then o.st e.au.toNat=2
 else True
def abW(C:kH)(o:ZP)(e:Ev):ZP:=
 if e.kind=2 then⟨cY o.st e.au.toNat 1,cY o.nA e.au.toNat (C.pd (o.nA e.x.toNat) (o.bt e.x.toNat)),cY o.bt e.x.toNat (o.bt e.x.toNat+1)⟩
 else if e.kind=1 then {o with st:=cY o.st e.au.toNat 2}
 else if e.kind=6 then {o with st:=cY o.st e.au.toNat 3}
 else o
def abX:Loc->Option Nat
 | .free | .bU _=>some 0
 | .Nq _ | .pop _=>some 1
 | .rj _ | .waiting | .sM _=>some 2
 | .fin _ | .gone=>some 3
 | .held _=>none
def plain:Yz->Bool
 | .fork _ | .push _ | .full=>false
 | _=>true
structure OI(C:kH)(w:afs)(o:ZP):Prop where
 a:∀f n,abX (w.v.loc f)=some n->o.st f=n
 h:∀i f,i<C.N->w.v.hold i=some f->o.st f=if w.v.g i= .start then 1 else 2
 p:∀f,f<w.v.nf->o.st f≠0->o.nA f=w.nA f
 k:∀f,f<w.v.nf->(∀i,i<C.N->w.v.hold i=some f->plain (w.v.g i)=true)->o.bt f=w.kc f
 fk:∀i c f,i<C.N->w.v.hold i=some f->w.v.g i= .fork c->w.kc f=o.bt f+1/\w.nA c=C.pd (w.nA f) (o.bt f)
 ps:∀i c f,i<C.N->w.v.hold i=some f->w.v.g i= .push c->w.kc f=o.bt f+1/\w.nA c=C.pd (w.nA f) (o.bt f)
 nw:∀f,w.v.nf<=f->o.bt f=0
attribute [grind =] cC
attribute [grind] abX plain
theorem YW{C:kH}{o:ZP}{e:Ev}:abV C o e=(if e.kind=2 then o.st e.au.toNat=0/\o.st e.x.toNat=2/\e.v=C.pd (o.nA e.x.toNat) (o.bt e.x.toNat)/\e.au.toNat≠e.x.toNat
 else if e.kind=1 then o.st e.au.toNat=1/\e.v=1
 else if e.kind=6 then o.st e.au.toNat=2
 else True):=rfl
section
variable {C:kH}{w:afs}{i:Nat}{o:ZP}
theorem Bd{v:V}{N F:Nat}(h:v.FI N F){i j f:Nat}(hi:i<N)(hj:j<N)(h1:v.hold i=some f)(h2:v.hold j=some f):i=j:=by
 have a:=h.hold i f hi h1;have b:=h.hold j f hj h2;grind
theorem sB{v:V}{N F:Nat}(h:v.FI N F){i f:Nat}(hi:i<N)(h1:v.hold i=some f):f<v.nf:=by
 have a:=h.hold i f hi h1;have b:=h.free f;grind
theorem OI.kf(q:OI C w o)(h:w.v.FI C.N C.F)(hi:i<C.N)(hg:w.v.g i= .run){f:Nat}(hf:w.v.hold i=some f):f<w.v.nf/\o.bt f=w.kc f:=
 ⟨sB h hi hf,q.k f (sB h hi hf) (λj hj hjf=>by rw[<-Bd h hi hj hf hjf,hg];rfl)⟩
theorem OI.full(q:OI C w o)(h:w.v.FI C.N C.F)(hi:i<C.N){c:Nat}(hg:w.v.g i= .push c) :
 OI C {w with v:={w.v with g:=cY w.v.g i .full}} o where
 a:=q.a
 h:=by have z0:=q.h;have z1:=q.a;have y0:=h.hold;grind
 p:=q.p
 k:=by have z0:=q.k;have z1:=q.a;have z2:=q.h;have y0:=h.hold;grind
 fk:=by have z0:=q.fk;have z1:=q.a;have z2:=q.h;have y0:=h.hold;grind
 ps:=by have z0:=q.ps;have z1:=q.a;have z2:=q.h;have y0:=h.hold;grind
 nw:=q.nw
theorem OI.start(q:OI C w o)(h:w.v.FI C.N C.F)(hi:i<C.N){f:Nat}(hg:w.v.g i= .start)(hf:w.v.hold i=some f){m:Int} :
 OI C {w with v:={w.v with g:=cY w.v.g i .run,mark:=cY w.v.mark f m},fx:=cY w.fx i 0} {o with st:=cY o.st f 2} where
 a:=by have z0:=q.a;have z1:=q.h;have y0:=h.hold;grind
 h:=by have z0:=q.h;have z1:=q.a;have y0:=h.hold;grind
 p:=by have z0:=q.p;have z1:=q.a;have z2:=q.h;have y0:=h.hold;grind
 k:=by have z0:=q.k;have z1:=q.a;have z2:=q.h;have y0:=h.hold;grind
 fk:=by have z0:=q.fk;have z1:=q.a;have z2:=q.h;have y0:=h.hold;grind
 ps:=by have z0:=q.ps;have z1:=q.a;have z2:=q.h;have y0:=h.hold;grind
 nw:=q.nw
theorem OI.spawn(q:OI C w o)(h:w.v.FI C.N C.F)(hi:i<C.N){f:Nat}(hg:w.v.g i= .run)(hf:w.v.hold i=some f)(hn:w.v.next<C.F) :
 OI C {w with v:={w.v with g:=cY w.v.g i (.fork w.v.nf),next:=w.v.next+1,nf:=w.v.nf+1,par:=cY w.v.par w.v.nf f,loc:=cY w.v.loc w.v.nf (.bU i)},nA:=cY w.nA w.v.nf (C.pd (w.nA f) (w.kc f)),kc:=cY (cY w.kc f (w.kc f+1)) w.v.nf 0} o where
 a:=by have z0:=q.a;have z1:=q.h;have z2:=q.k;have z3:=q.nw;have y0:=h.hold;have y1:=h.free;have y2:=h.used;have y3:=h.fk;have y4:=h.ps;have y5:=h.new;grind
 h:=by have z0:=q.h;have z1:=q.a;have z2:=q.k;have z3:=q.nw;have y0:=h.hold;have y1:=h.free;have y2:=h.used;have y3:=h.fk;have y4:=h.ps;have y5:=h.new;grind
 p:=by have z0:=q.p;have z1:=q.a;have z2:=q.h;have z3:=q.k;have z4:=q.nw;have y0:=h.hold;have y1:=h.free;have y2:=h.used;have y3:=h.fk;have y4:=h.ps;have y5:=h.new;grind
 k:=by have z0:=q.k;have z1:=q.a;have z2:=q.h;have z3:=q.nw;have y0:=h.hold;have y1:=h.free;have y2:=h.used;have y3:=h.fk;have y4:=h.ps;have y5:=h.new;grind
 fk:=λj c g hj hh hgj=>by
  obtain⟨y1,y2⟩:=q.kf h hi hg hf;have y3:=sB h hj hh;have y4:=h.free w.v.nf (j5 _);have y5:g=f->i=j:=λe=>Bd h hi hj hf (by rw[<-e];exact hh);have y6:=q.fk j c g hj hh;have y7:=h.fk j c hj;simp only[cC]at hgj⊢;by_cases e:j=i
  ·subst e;have:g=f:=Option.some.inj (hh.symm.trans hf);grind
  ·rw[ct e]at hgj;grind
 ps:=λj c g hj hh hgj=>by
  obtain⟨y1,y2⟩:=q.kf h hi hg hf;have y3:=sB h hj hh;have y4:=h.free w.v.nf (j5 _);have y5:g=f->i=j:=λe=>Bd h hi hj hf (by rw[<-e];exact hh);have y6:=q.ps j c g hj hh;have y7:=h.ps j c hj;simp only[cC]at hgj⊢;by_cases e:j=i
  ·subst e;have:g=f:=Option.some.inj (hh.symm.trans hf);grind
  ·rw[ct e]at hgj;grind
 nw:=by have z0:=q.nw;have z1:=q.a;have z2:=q.h;have z3:=q.k;have y0:=h.hold;have y1:=h.free;have y2:=h.used;have y3:=h.fk;have y4:=h.ps;have y5:=h.new;grind
theorem OI.zx(q:OI C w o)(h:w.v.FI C.N C.F)(hi:i<C.N)(hg:w.v.g i= .run) :
 OI C {w with v:={w.v with g:=cY w.v.g i .full,next:=w.v.next+1}} o where
 a:=q.a
 h:=by have z0:=q.h;have z1:=q.a;have y0:=h.hold;grind
 p:=q.p
 k:=by have z0:=q.k;have z1:=q.a;have z2:=q.h;have y0:=h.hold;grind
 fk:=by have z0:=q.fk;have z1:=q.a;have z2:=q.h;have y0:=h.hold;grind
 ps:=by have z0:=q.ps;have z1:=q.a;have z2:=q.h;have y0:=h.hold;grind
 nw:=q.nw
theorem OI.fork(q:OI C w o)(h:w.v.FI C.N C.F)(hi:i<C.N){c f:Nat}(hg:w.v.g i= .fork c)(hf:w.v.hold i=some f) :
 OI C {w with v:={w.v with g:=cY w.v.g i (.push c),join:=cY w.v.join f (w.v.join f+1),bt:=cY w.v.bt f (c::w.v.bt f)}} o where
 a:=q.a
 h:=by have z0:=q.h;have z1:=q.a;have z2:=q.fk;have y0:=h.hold;grind
 p:=q.p
 k:=by have z0:=q.k;have z1:=q.a;have z2:=q.h;have z3:=q.fk;have y0:=h.hold;grind
 fk:=by have z0:=q.fk;have z1:=q.a;have z2:=q.h;have y0:=h.hold;grind
 ps:=by have z0:=q.ps;have z1:=q.a;have z2:=q.h;have z3:=q.fk;have y0:=h.hold;grind
 nw:=q.nw
theorem OI.push(q:OI C w o)(h:w.v.FI C.N C.F)(hi:i<C.N){c f:Nat}(hg:w.v.g i= .push c)(hf:w.v.hold i=some f) :
 OI C {w with v:={w.v with g:=cY w.v.g i .run,q:=cY w.v.q i (w.v.q i++[c]),loc:=cY w.v.loc c (.Nq i)}} ⟨cY o.st c 1,cY o.nA c (C.pd (o.nA f) (o.bt f)),cY o.bt f (o.bt f+1)⟩ where
 a:=by have z0:=q.a;have z1:=q.h;have z2:=q.ps;have z3:=q.p;have z4:=q.nw;have y0:=h.hold;have y1:=h.ps;have y2:=h.fk;have y3:=h.free;grind
 h:=by have z0:=q.h;have z1:=q.a;have z2:=q.ps;have z3:=q.p;have z4:=q.nw;have y0:=h.hold;have y1:=h.ps;have y2:=h.fk;have y3:=h.free;grind
 p:=by have z0:=q.p;have z1:=q.a;have z2:=q.h;have z3:=q.ps;have z4:=q.nw;have y0:=h.hold;have y1:=h.ps;have y2:=h.fk;have y3:=h.free;grind
 k:=by have z0:=q.k;have z1:=q.a;have z2:=q.h;have z3:=q.ps;have z4:=q.p;have z5:=q.nw;have y0:=h.hold;have y1:=h.ps;have y2:=h.fk;have y3:=h.free;grind
 fk:=by have z0:=q.fk;have z1:=q.a;have z2:=q.h;have z3:=q.ps;have z4:=q.p;have z5:=q.nw;have y0:=h.hold;have y1:=h.ps;have y2:=h.fk;have y3:=h.free;grind
 ps:=by have z0:=q.ps;have z1:=q.a;have z2:=q.h;have z3:=q.p;have z4:=q.nw;have y0:=h.hold;have y1:=h.ps;have y2:=h.fk;have y3:=h.free;grind
 nw:=by have z0:=q.nw;have z1:=q.a;have z2:=q.h;have z3:=q.ps;have z4:=q.p;have y0:=h.hold;have y1:=h.ps;have y2:=h.fk;have y3:=h.free;grind
theorem OI.wait(q:OI C w o)(h:w.v.FI C.N C.F)(hi:i<C.N){f:Nat}(hg:w.v.g i= .run)(hf:w.v.hold i=some f) :
 OI C {w with v:={w.v with g:=cY w.v.g i .none,hold:=cY w.v.hold i none,join:=cY w.v.join f (w.v.join f-1),loc:=cY w.v.loc f .waiting}} o where
 a:=by have z0:=q.a;have z1:=q.h;have y0:=h.hold;grind
 h:=by have z0:=q.h;have z1:=q.a;have y0:=h.hold;grind
 p:=q.p
 k:=by have z0:=q.k;have z1:=q.a;have z2:=q.h;have y0:=h.hold;grind
 fk:=by have z0:=q.fk;have z1:=q.a;have z2:=q.h;have y0:=h.hold;grind
 ps:=by have z0:=q.ps;have z1:=q.a;have z2:=q.h;have y0:=h.hold;grind
 nw:=q.nw
theorem OI.pass(q:OI C w o)(h:w.v.FI C.N C.F)(hi:i<C.N){f:Nat}(hg:w.v.g i= .run)(hf:w.v.hold i=some f) :
 OI C {w with v:={w.v with g:=cY w.v.g i .one,join:=cY w.v.join f (w.v.join f-1),loc:=cY w.v.loc f (.rj i)}} o where
 a:=by have z0:=q.a;have z1:=q.h;have y0:=h.hold;grind
 h:=by have z0:=q.h;have z1:=q.a;have y0:=h.hold;grind
 p:=q.p
 k:=by have z0:=q.k;have z1:=q.a;have z2:=q.h;have y0:=h.hold;grind
 fk:=by have z0:=q.fk;have z1:=q.a;have z2:=q.h;have y0:=h.hold;grind
 ps:=by have z0:=q.ps;have z1:=q.a;have z2:=q.h;have y0:=h.hold;grind
 nw:=q.nw
theorem OI.one(q:OI C w o)(h:w.v.FI C.N C.F)(hi:i<C.N){f:Nat}(hg:w.v.g i= .one)(hf:w.v.hold i=some f) :
 OI C {w with v:={w.v with g:=cY w.v.g i .run,join:=cY w.v.join f 1,loc:=cY w.v.loc f (.held i)}} o where
 a:=by have z0:=q.a;have z1:=q.h;have y0:=h.hold;grind
 h:=by have z0:=q.h;have z1:=q.a;have y0:=h.hold;grind
 p:=q.p
 k:=by have z0:=q.k;have z1:=q.a;have z2:=q.h;have y0:=h.hold;grind
 fk:=by have z0:=q.fk;have z1:=q.a;have z2:=q.h;have y0:=h.hold;grind
 ps:=by have z0:=q.ps;have z1:=q.a;have z2:=q.h;have y0:=h.hold;grind
 nw:=q.nw
theorem OI.H8(q:OI C w o)(h:w.v.FI C.N C.F)(hi:i<C.N)(hg:w.v.g i= .run)(hf:w.v.hold i=some 0) :
 OI C {w with v:={w.v with g:=cY w.v.g i .none,hold:=cY w.v.hold i none,loc:=cY w.v.loc 0 (.fin i)}} {o with st:=cY o.st 0 3} where
 a:=by have z0:=q.a;have z1:=q.h;have y0:=h.hold;grind
 h:=by have z0:=q.h;have z1:=q.a;have y0:=h.hold;grind
 p:=by have z0:=q.p;have z1:=q.a;have z2:=q.h;have y0:=h.hold;grind
 k:=by have z0:=q.k;have z1:=q.a;have z2:=q.h;have y0:=h.hold;grind
 fk:=by have z0:=q.fk;have z1:=q.a;have z2:=q.h;have y0:=h.hold;grind
 ps:=by have z0:=q.ps;have z1:=q.a;have z2:=q.h;have y0:=h.hold;grind
 nw:=q.nw
theorem OI.ret(q:OI C w o)(h:w.v.FI C.N C.F)(hi:i<C.N){f:Nat}(hg:w.v.g i= .run)(hf:w.v.hold i=some f)(h0:f≠0) :
 OI C {w with v:={w.v with g:=cY w.v.g i (.out (w.v.par f) f),hold:=cY w.v.hold i none,loc:=cY w.v.loc f (.fin i)}} {o with st:=cY o.st f 3} where
 a:=by have z0:=q.a;have z1:=q.h;have y0:=h.hold;grind
 h:=by have z0:=q.h;have z1:=q.a;have y0:=h.hold;grind
 p:=by have z0:=q.p;have z1:=q.a;have z2:=q.h;have y0:=h.hold;grind
 k:=by have z0:=q.k;have z1:=q.a;have z2:=q.h;have y0:=h.hold;grind
 fk:=by have z0:=q.fk;have z1:=q.a;have z2:=q.h;have y0:=h.hold;grind
 ps:=by have z0:=q.ps;have z1:=q.a;have z2:=q.h;have y0:=h.hold;grind
 nw:=q.nw
theorem OI.LU(q:OI C w o)(h:w.v.FI C.N C.F)(hi:i<C.N){p c:Nat}(hg:w.v.g i= .out p c) :
 OI C {w with v:={w.v with g:=cY w.v.g i .none,join:=cY w.v.join p (w.v.join p-1),bt:=cY w.v.bt p ((w.v.bt p).erase c),loc:=cY w.v.loc c .gone}} o where
 a:=by have z0:=q.a;have z1:=q.h;have y0:=h.hold;have y1:=h.out;grind
 h:=by have z0:=q.h;have z1:=q.a;have y0:=h.hold;have y1:=h.out;grind
 p:=q.p
 k:=by have z0:=q.k;have z1:=q.a;have z2:=q.h;have y0:=h.hold;have y1:=h.out;grind
 fk:=by have z0:=q.fk;have z1:=q.a;have z2:=q.h;have y0:=h.hold;have y1:=h.out;grind
 ps:=by have z0:=q.ps;have z1:=q.a;have z2:=q.h;have y0:=h.hold;have y1:=h.out;grind
 nw:=q.nw
theorem OI.LV(q:OI C w o)(h:w.v.FI C.N C.F)(hi:i<C.N){p c:Nat}(hg:w.v.g i= .out p c)(hn:w.v.join p-1=0) :
 OI C {w with v:={w.v with g:=cY w.v.g i (.take p c),join:=cY w.v.join p (w.v.join p-1),bt:=cY w.v.bt p ((w.v.bt p).erase c),loc:=cY (cY w.v.loc c .gone) p (.sM i)}} o where
 a:=by have y8:=h.iz hi hg hn;have z0:=q.a;have z1:=q.h;have y0:=h.hold;have y1:=h.out;grind
 h:=by have y8:=h.iz hi hg hn;have z0:=q.h;have z1:=q.a;have y0:=h.hold;have y1:=h.out;grind
 p:=q.p
 k:=by have y8:=h.iz hi hg hn;have z0:=q.k;have z1:=q.a;have z2:=q.h;have y0:=h.hold;have y1:=h.out;grind
 fk:=by have y8:=h.iz hi hg hn;have z0:=q.fk;have z1:=q.a;have z2:=q.h;have y0:=h.hold;have y1:=h.out;grind
 ps:=by have y8:=h.iz hi hg hn;have z0:=q.ps;have z1:=q.a;have z2:=q.h;have y0:=h.hold;have y1:=h.out;grind
 nw:=q.nw
theorem OI.take(q:OI C w o)(h:w.v.FI C.N C.F)(hi:i<C.N){p c:Nat}(hg:w.v.g i= .take p c) :
 OI C {w with v:={w.v with g:=cY w.v.g i .run,hold:=cY w.v.hold i (some p),join:=cY w.v.join p 1,loc:=cY w.v.loc p (.held i)}} o where
 a:=by have z0:=q.a;have z1:=q.h;have y0:=h.hold;have y1:=h.tk;grind
 h:=by have z0:=q.h;have z1:=q.a;have y0:=h.hold;have y1:=h.tk;grind
 p:=q.p
 k:=by have z0:=q.k;have z1:=q.a;have z2:=q.h;have y0:=h.hold;have y1:=h.tk;grind
 fk:=by have z0:=q.fk;have z1:=q.a;have z2:=q.h;have y0:=h.hold;have y1:=h.tk;grind
 ps:=by have z0:=q.ps;have z1:=q.a;have z2:=q.h;have y0:=h.hold;have y1:=h.tk;grind
 nw:=q.nw
theorem OI.mL(q:OI C w o)(h:w.v.FI C.N C.F)(hi:i<C.N){x:Nat}{l:List Nat}(hg:w.v.g i= .none)(hq:w.v.q i=l++[x]) :
 OI C {w with v:={w.v with q:=cY w.v.q i l,loc:=cY w.v.loc x (.pop i),pop:=cY w.v.pop i (some x)}} o where
 a:=by have z0:=q.a;have z1:=q.h;have y0:=h.hold;have y1:=h.q;grind
 h:=q.h
 p:=q.p
 k:=q.k
 fk:=q.fk
 ps:=q.ps
 nw:=q.nw
theorem OI.LW(q:OI C w o)(h:w.v.FI C.N C.F)(hi:i<C.N){x:Nat}(hg:w.v.g i= .none)(hq:w.v.q i=[x]) :
 OI C {w with v:={w.v with q:=cY w.v.q i [],loc:=cY w.v.loc x (.pop i),pop:=cY w.v.pop i (some x)}} o where
 a:=by have z0:=q.a;have z1:=q.h;have y0:=h.hold;have y1:=h.q;grind
 h:=q.h
 p:=q.p
 k:=q.k
 fk:=q.fk
 ps:=q.ps
 nw:=q.nw
theorem OI.got(q:OI C w o)(h:w.v.FI C.N C.F)(hi:i<C.N){x:Nat}(hg:w.v.g i= .none)(hx:w.v.pop i=some x) :
 OI C {w with v:={w.v with g:=cY w.v.g i .start,hold:=cY w.v.hold i (some x),loc:=cY w.v.loc x (.held i),pop:=cY w.v.pop i none},fx:=cY w.fx i (-1)} o where
 a:=by have z0:=q.a;have z1:=q.h;have y0:=h.hold;have y1:=h.pop;have y2:=h.hr;grind
 h:=by have z0:=q.h;have z1:=q.a;have y0:=h.hold;have y1:=h.pop;have y2:=h.hr;grind
 p:=q.p
 k:=by have z0:=q.k;have z1:=q.a;have z2:=q.h;have y0:=h.hold;have y1:=h.pop;have y2:=h.hr;grind
 fk:=by have z0:=q.fk;have z1:=q.a;have z2:=q.h;have y0:=h.hold;have y1:=h.pop;have y2:=h.hr;grind
 ps:=by have z0:=q.ps;have z1:=q.a;have z2:=q.h;have y0:=h.hold;have y1:=h.pop;have y2:=h.hr;grind
 nw:=q.nw
theorem OI.EH(q:OI C w o)(h:w.v.FI C.N C.F)(hi:i<C.N){k x:Nat}{l:List Nat}(hk:k<C.N)(hg:w.v.g i= .none)(hx:w.v.q k=x::l) :
 OI C {w with v:={w.v with g:=cY w.v.g i .start,hold:=cY w.v.hold i (some x),loc:=cY w.v.loc x (.held i),q:=cY w.v.q k l},fx:=cY w.fx i k} o where
 a:=by have z0:=q.a;have z1:=q.h;have y0:=h.hold;have y1:=h.q;have y2:=h.hr;grind
 h:=by have z0:=q.h;have z1:=q.a;have y0:=h.hold;have y1:=h.q;have y2:=h.hr;grind
 p:=q.p
 k:=by have z0:=q.k;have z1:=q.a;have z2:=q.h;have y0:=h.hold;have y1:=h.q;have y2:=h.hr;grind
 fk:=by have z0:=q.fk;have z1:=q.a;have z2:=q.h;have y0:=h.hold;have y1:=h.q;have y2:=h.hr;grind
 ps:=by have z0:=q.ps;have z1:=q.a;have z2:=q.h;have y0:=h.hold;have y1:=h.q;have y2:=h.hr;grind
 nw:=q.nw
theorem OI.aH{w':afs}{e:Option Ev}(t:Tr C i w e w')(hi:i<C.N)(h:w.v.FI C.N C.F)(q:OI C w o):match e with
 | none=>OI C w' o
 | some e=>abV C o e/\OI C w' (abW C o e):=by
 cases t with
 | gE e he =>
  cases e with
  | none=>exact q
  | some x =>
   have:x.kind≠1/\x.kind≠2/\x.kind≠6:=by
    simp only[quiet,xb,vJ]at he;omega
   obtain⟨a1,a2,a3⟩:=this;simp only[YW,abW,ct a1,ct a2,ct a3];exact⟨trivial,q⟩
 | full c hg=>exact⟨trivial,q.full h hi hg⟩
 | start f hg hf=>exact⟨⟨by rw[show((f:Int)).toNat=f from rfl,q.h i f hi hf,aP hg],by show w.v.mark f+1=1;rw[h.yP i f hi hg hf];rfl⟩,q.start h hi hg hf⟩
 | spawn f hg hf hn=>exact q.spawn h hi hg hf hn
 | zx hg hn=>exact⟨trivial,q.zx h hi hg⟩
 | fork c f hg hf=>exact q.fork h hi hg hf
 | push c f hg hf =>
  have z:=h.ps i c hi hg;have zf:f=w.v.par c:=Option.some.inj (hf.symm.trans z.2.2.1);have z1:o.st f=2:=by rw[q.h i f hi hf,hg];rfl
  have z2:o.st c=0:=q.a c 0 (by rw[z.2.1];rfl);have z3:=(q.ps i c f hi hf hg).2;refine⟨⟨z2,z1,?_,λe => ?_⟩,q.push h hi hg hf⟩
  ·show w.nA c=C.pd (o.nA f) (o.bt f);rw[z3,q.p f (sB h hi hf) (by rw[z1];omega)]
  ·have e:c=f:=e;rw[e,z1]at z2;cases z2
 | wait f hg hf hk=>exact⟨trivial,q.wait h hi hg hf⟩
 | pass f hg hf hk=>exact q.pass h hi hg hf
 | one f hg hf=>exact⟨trivial,q.one h hi hg hf⟩
 | H8 v hg hf=>exact⟨by show o.st 0=2;rw[q.h i 0 hi hf,hg];rfl,q.H8 h hi hg hf⟩
 | ret f v hg hf h0=>exact⟨by show o.st f=2;rw[q.h i f hi hf,hg];rfl,q.ret h hi hg hf h0⟩
 | LU p c hg hn=>exact q.LU h hi hg
 | LV p c hg hn=>exact q.LV h hi hg hn
 | take p c hg=>exact⟨trivial,q.take h hi hg⟩
 | mL x l hg hq=>exact q.mL h hi hg hq
 | LW x hg hq=>exact q.LW h hi hg hq
 | got x hg hx=>exact q.got h hi hg hx
 | EH k x l hk I7 hg hx=>exact⟨trivial,q.EH h hi hk hg hx⟩
end
section
variable {C:kH}{i:Nat}{w w':afs}{e:Option Ev}
theorem Tr.Ub(t:Tr C i w e w'){j:Nat}(hj:j≠i):w'.v.g j=w.v.g j/\w'.v.hold j=w.v.hold j/\w'.fx j=w.fx j:=by
 cases t<;>simp only[cC,ct hj,and_self]
theorem Tr.idle(t:Tr C i w e w')(hb:busy (w.v.g i)=false):w'.v.nf=w.v.nf/\∀x,e=some x->x.kind≠11/\x.kind≠1:=by
 cases t with
 | gE e he =>
  refine⟨rfl,λx hx => ?_⟩;subst hx;simp only[quiet,xb,vJ]at he;omega
 | full c hg=>rw[hg]at hb;cases hb
 | start f hg hf=>rw[hg]at hb;cases hb
 | spawn f hg hf hn=>rw[hg]at hb;cases hb
 | zx hg hn=>rw[hg]at hb;cases hb
 | fork c f hg hf=>rw[hg]at hb;cases hb
 | push c f hg hf=>rw[hg]at hb;cases hb
 | wait f hg hf hk=>rw[hg]at hb;cases hb
 | pass f hg hf hk=>rw[hg]at hb;cases hb
 | one f hg hf=>rw[hg]at hb;cases hb
 | H8 v hg hf=>rw[hg]at hb;cases hb
 | ret f v hg hf h0=>rw[hg]at hb;cases hb
 | _=>exact⟨rfl,λx hx=>by cases hx<;>exact⟨by show(_:Nat)≠11;simp[ev],by show(_:Nat)≠1;simp[ev]⟩⟩
theorem Tr.inr(t:Tr C i w e w')(hi:i<C.N)(h:w.v.FI C.N C.F):∀x,e=some x->(x.kind=1∨x.kind=2∨x.kind=6->0<=x.au/\x.au<C.F)/\(x.kind=2->0<=x.x/\x.x<C.F):=by
 have hF:=h.wj;intro x hx;cases t with
 | gE e he =>
  subst hx;simp only[quiet,xb,vJ]at he;constructor<;>intro h'<;>omega
 | start f hg hf =>
  have:=sB h hi hf;cases hx;exact⟨λ_=>⟨by show(0:Int)<=(f:Int);omega,by show(f:Int)<C.F;omega⟩,λh'=>by cases h'⟩
 | push c f hg hf =>
  have:=sB h hi hf;have z:=h.ps i c hi hg;have hc:c<w.v.nf:=by
   rcases zG c w.v.nf with h' | h'
   ·exact h'
   ·have:=h.free c h';rw[z.2.1]at this;cases this
  cases hx;exact⟨λ_=>⟨by show(0:Int)<=(c:Int);omega,by show(c:Int)<C.F;omega⟩,λ_=>⟨by show(0:Int)<=(f:Int);omega,by show(f:Int)<C.F;omega⟩⟩
 | H8 v hg hf =>
  have:=sB h hi hf;cases hx;exact⟨λ_=>⟨by show(0:Int)<=(0:Int);omega,by show(0:Int)<C.F;omega⟩,λh'=>by cases h'⟩
 | ret f v hg hf h0 =>
  have:=sB h hi hf;cases hx;exact⟨λ_=>⟨by show(0:Int)<=(f:Int);omega,by show(f:Int)<C.F;omega⟩,λh'=>by cases h'⟩
 | _=>cases hx<;>exact⟨λh'=>by simp[ev]at h',λh'=>by simp[ev]at h'⟩
theorem Tr.k0(t:Tr C i w e w'):∀x,e=some x->x.kind≠0:=by
 intro x hx;cases t with
 | gE e he =>
  subst hx;simp only[quiet,xb,vJ]at he;omega
 | _=>cases hx<;>(show(_:Nat)≠0;simp[ev])
theorem Tr.v1(t:Tr C i w e w')(hi:i<C.N)(h:w.v.FI C.N C.F):∀x,e=some x->x.kind=1->x.v=1:=by
 intro x hx hk;cases t with
 | gE e he =>
  subst hx;simp only[quiet,xb,vJ]at he;omega
 | start f hg hf =>
  cases hx;show w.v.mark f+1=1;rw[h.yP i f hi hg hf];rfl
 | _=>cases hx<;>(exfalso;simp[ev]at hk)
def Q0(w:afs):Prop:=w.v.g 0= .start/\w.fx 0=-1/\w.v.hold 0=some 0/\w.v.nf=1
theorem Q0.aH(t:Tr C i w e w')(h0:i≠0)(hi:i<C.N)(h:w.v.FI C.N C.F)(q:Q0 w):Q0 w'/\∀x,e=some x->x.kind≠11/\x.kind≠1:=by
 obtain⟨q1,q2,q3,q4⟩:=q;have hb:busy (w.v.g i)=false:=by
  cases hb:busy (w.v.g i)with
  | false=>rfl
  | true =>
   exfalso
   have:=h.hs i hi hb;cases hh:w.v.hold i with
   | none=>exact this hh
   | some f =>
    have hf:=sB h hi hh;obtain rfl:f=0:=by omega
    have a:=h.hold 0 0 I q3;have b:=h.hold i 0 hi hh;rw[q1]at a;rcases a with ⟨a,_⟩ | ⟨_,a⟩
    ·cases a
    ·rcases b with ⟨_,b⟩ | ⟨_,b⟩<;>rw[a]at b<;>cases b;exact h0 rfl
 obtain⟨t1,t2⟩:=t.idle hb;obtain⟨o1,o2,o3⟩:=t.Ub (Ne.symm h0);exact⟨⟨by rw[o1,q1],by rw[o3,q2],by rw[o2,q3],by rw[t1,q4]⟩,t2⟩
end
end Am
end
section
namespace Mo
open Go Go.RowKit SL GX
noncomputable section
variable {z w:World}{L:List aZ}
structure mS where
 jd:List Int
 nO:List Int
deriving Inhabited,DecidableEq
abbrev ad9(B:Nat)(S:mS)(a0:fO)(c0:Nat)(a1:fO)(c1:Nat):aZ:=pts B (.cells #[.slice a0 S.jd.length c0,.slice a1 S.nO.length c1] 30)
abbrev Du(a:fO)(c:Nat)(l:List aj):aZ:=rowOf 47 6 gW (.slice a l.length c) l
structure NZ where
 aea:Int
 Index:Int
 Func:Int
 aeb:Int
 Ped:Int
 Arg:Int
 V:Int
deriving Inhabited,DecidableEq
structure Ps where
 Left:Int
 Ow:Int
 aeR:List NZ
 Deep:Int
deriving Inhabited,DecidableEq
structure N0 where
 Me:Int
 abY:Int
 Reg:List Int
 afa:List Int
 At:Int
 aeS:Int
 End:Int
 Kids:Int
deriving Inhabited,DecidableEq
structure W1 where
 V:Int
 aeb:Int
 aeT:Int
 abY:Int
 Span:Int
deriving Inhabited,DecidableEq
def jV(K:Nat)(O:bK)(po:Int):Nat->(List bZ)->Int->Option ((List bZ))
 | 0,_,_=>none
 | k2+1,y9,IQ=>(if IQ<(((J O.bY po.toNat).aq.length:Nat):Int)then if bG IQ (J O.bY po.toNat).aq.length then if(y9.length+1)*40<=140737488355328 then(jV K O po k2 (y9++[J (J O.bY po.toNat).aq IQ.toNat]) (wi (IQ+1)))else none else none else some y9)
def jW(K:Nat)(O:bK):Nat->(List aC)->Int->Option ((List aC))
 | 0,_,_=>none
 | k1+1,Mq,po=>(if po<((O.bY.length:Nat):Int)then eV (if bG po O.bY.length then eV ((jV K O po K ([]:List bZ) 0)) (λLd=>if(Mq.length+1)*48<=140737488355328 then some (Mq++[{J O.bY po.toNat with aq:=Ld}])else none)else none) (λoc=>(jW K O k1 oc (wi (po+1))))else some Mq)
def jX(K:Nat)(O:bK):Nat->(List Int)->Int->Option ((List Int))
 | 0,_,_=>none
 | k3+1,Pu,IU=>(if IU<((O.oY.length:Nat):Int)then if bG IU O.oY.length then if(Pu.length+1)*8<=140737488355328 then(jX K O k3 (Pu++[(J O.oY IU.toNat)]) (wi (IU+1)))else none else none else some Pu)
def jY(K:Nat)(O:bK):Nat->(List Int)->Int->Option ((List Int))
 | 0,_,_=>none
 | k4+1,Pv,IV=>(if IV<((O.dy.length:Nat):Int)then if bG IV O.dy.length then if(Pv.length+1)*8<=140737488355328 then(jY K O k4 (Pv++[(J O.dy IV.toNat)]) (wi (IV+1)))else none else none else some Pv)
def jZ(K:Nat)(O:bK)(l6:List aC)(IW:List Int)(Pw:List Int):Nat->(List Int)->Int->Option (bK)
 | 0,_,_=>none
 | k5+1,Px,IX=>(if IX<((O.fz.length:Nat):Int)then if bG IX O.fz.length then if(Px.length+1)*8<=140737488355328 then(jZ K O l6 IW Pw k5 (Px++[(J O.fz IX.toNat)]) (wi (IX+1)))else none else none else some ({O with bY:=l6,oY:=IW,dy:=Pw,fz:=Px}))
def pI(K:Nat)(O:bK):Option (bK):=
 eV ((jW K O K ([]:List aC) 0)) (λl6=>eV ((jX K O K ([]:List Int) 0)) (λIW=>eV ((jY K O K ([]:List Int) 0)) (λPw=>(jZ K O l6 IW Pw K ([]:List Int) 0))))
abbrev zD (B:Nat) (S:bK) (a0:fO) (c0:Nat) (a1:fO) (c1:Nat) (a6:fO) (c6:Nat) (a7:fO) (c7:Nat) (q:Nat):aZ:=pts B (.cells #[.slice a0 q c0,.slice a1 S.oY.length c1,Z S.cZ,Z S.aF,Z S.fE,Z S.gB,.slice a6 S.dy.length c6,.slice a7 S.fz.length c7] 32)
theorem Be(H:pI K O=some r0)(h:jb z (L) w)(fR:Bt L cX eU O.bY)(nN:bE L 1 cQ ef O.oY)(iE:bE L 1 cQ bC O.dy)(jx:bE L 1 cQ bQ O.fz) :
 Calls Tryz.prog 30 #[oQ #[aW cX O.bY.length dM,aW ef O.oY.length fy,Z O.cZ,Z O.aF,Z O.fE,Z O.gB,aW bC O.dy.length cA,aW bQ O.fz.length cF]] w λe w=>∃y1 y2 y3 y4 y5 y6 y7 y8,e=.returned (oQ #[aW y1 r0.bY.length y2,aW y3 r0.oY.length y4,Z r0.cZ,Z r0.aF,Z r0.fE,Z r0.gB,aW y5 r0.dy.length y6,aW y7 r0.fz.length y8])/\Fit z (aB (qb y1 y2 r0.bY::XF y3 y4 r0.oY::xh y5 y6 r0.dy::xh y7 y8 r0.fz::L)) w:=by
 unfold pI at H;refine ke func30 117 rfl λj=>ks<|kN h (#[aW cX O.bY.length dM,aW ef O.oY.length fy,Z O.cZ,Z O.aF,Z O.fE,Z O.gB,aW bC O.dy.length cA,aW bQ O.fz.length cF]) 32 λb1 w h=>kN h (#[aW none 0 0,aW none 0 0,Z 0,Z 0,Z 0,Z 0,aW none 0 0,aW none 0 0]) 32 λb2 w h=>G<|ks<|kM (h.pick 1)<|kN h (#[aW none 0 0,aW none 0 0,Z 0,Z 0,Z 0,Z 0,aW none 0 0,aW none 0 0]) 32 λb3 w h=>kA h (CX b3 O cX dM ef fy bC cA bQ cF) λw h=>G<|aL dm<|λ_ r=>Uy (wn rfl) r h 0 ([aW none 0 0]) (zD b3 O none 0 ef fy bC cA bQ cF 0) λw h=>qq r<|G<|DM H λo8 H Lj=>λ_ r=>cW (β:=Unit) (λ_ a w=>∃E2:fO,∃E3:Nat,∃l6:List aC,l6=o8/\∃j,kI 117 (lk [(1,pA b1 0),(2,pA b2 0),(3,pA b3 0)] j) a/\Fit z (aB (CX b1 O cX dM ef fy bC cA bQ cF::gG b2 #[aW none 0 0,aW none 0 0,Z 0,Z 0,Z 0,Z 0,aW none 0 0,aW none 0 0] 32::zD b3 O E2 E3 ef fy bC cA bQ cF (l6.length)::qb E2 E3 l6::L)) w) ?_ ?_
 ·refine qq r<|iq<|wb<|?_;replace h:=h.CM (e:=99) (sz:=4) (own:=lS);refine λ_ r=>dO (β:=Nat) id (λm a w=>∃gZ:fO,∃fG:Nat,∃Mq:List aC,∃po:Int,(jW K O m Mq po)=some o8/\∃j,kI 117 (lk [(1,pA b1 0),(2,pA b2 0),(3,pA b3 0),(4,Z po)] j) a/\Fit z (aB (CX b1 O cX dM ef fy bC cA bQ cF::gG b2 #[aW none 0 0,aW none 0 0,Z 0,Z 0,Z 0,Z 0,aW none 0 0,aW none 0 0] 32::zD b3 O gZ fG ef fy bC cA bQ cF (Mq.length)::qb gZ fG Mq::L)) w) K ⟨none,0,([]:List aC),0,H,r.fj (h.se 4 [3,2,1,0])⟩<|?_;clear h r H;rintro k1 a w ⟨gZ,fG,Mq,po,H,j,r,h⟩;cases k1 with
  | zero=>exact absurd H (by simp[jW])
  | succ k1 =>
   rw[jW]at H;refine qq r<|wq<|aL lJ<|kL h 0<|ko [Z ((O.bY.length:Nat):Int),dx (po<((O.bY.length:Nat):Int))]<|G<|eB H (λyz H=>?_) λyz H=>?_
   ·refine gw<|DM H λo18 H XZ=>λ_ r=>cW (β:=Unit) (λ_ a w=>∃P1:fO,∃VT:Nat,∃oc:List aC,oc=o18/\∃j,kI 117 (lk [(1,pA b1 0),(2,pA b2 0),(3,pA b3 0),(4,Z po)] j) a/\Fit z (aB (CX b1 O cX dM ef fy bC cA bQ cF::gG b2 #[aW none 0 0,aW none 0 0,Z 0,Z 0,Z 0,Z 0,aW none 0 0,aW none 0 0] 32::zD b3 O P1 VT ef fy bC cA bQ cF (oc.length)::qb P1 VT oc::L)) w) ?_ ?_
    ·refine qq r<|wb<|aL dm<|kL h 0<|qg H λsW H=>bS<|kp (pA (dW cX) (j6 cX+po.toNat*4)) (DR 99 dM rfl rfl fR sW)<|xm (oQ #[Z (J O.bY po.toNat).aS,Z (J O.bY po.toNat).dc,Z (J O.bY po.toNat).bD,aW ((eU po.toNat).1) (J O.bY po.toNat).aq.length ((eU po.toNat).2)]) (cs:=[Z (J O.bY po.toNat).aS,Z (J O.bY po.toNat).dc,Z (J O.bY po.toNat).bD,aW ((eU po.toNat).1) (J O.bY po.toNat).aq.length ((eU po.toNat).2)]) ⟨fR.cell sW (h.dn 4) 0 rfl,fR.cell sW (h.dn 4) 1 rfl,fR.cell sW (h.dn 4) 2 rfl,fR.cell sW (h.dn 4) 3 rfl,cz⟩<|?_;refine kN h (#[Z 0,Z 0,Z 0,aW none 0 0]) 99 λM9 w h=>kA h (qB M9 (J O.bY po.toNat) ((eU po.toNat).1) ((eU po.toNat).2)) λw h=>G<|aL [U]<|kL h 3<|bS<|G<|aL [U]<|kS h 3 (gG M9 #[Z (J O.bY po.toNat).aS,Z (J O.bY po.toNat).dc,Z (J O.bY po.toNat).bD,aW none 0 0] 99) λw h=>G<|DM H λo25 H XK=>λ_ r=>cW (β:=Unit) (λ_ a w=>∃VU:fO,∃VV:Nat,∃Ld:List bZ,Ld=o25/\∃j,kI 117 (lk [(1,pA b1 0),(2,pA b2 0),(3,pA b3 0),(4,Z po),(5,pA M9 0)] j) a/\Fit z (aB (CX b1 O cX dM ef fy bC cA bQ cF::gG b2 #[aW none 0 0,aW none 0 0,Z 0,Z 0,Z 0,Z 0,aW none 0 0,aW none 0 0] 32::zD b3 O gZ fG ef fy bC cA bQ cF (Mq.length)::qb gZ fG Mq::gG M9 #[Z (J O.bY po.toNat).aS,Z (J O.bY po.toNat).dc,Z (J O.bY po.toNat).bD,aW VU Ld.length VV] 99::IA VU VV Ld::L)) w) ?_ ?_
     ·refine qq r<|iq<|wb<|?_;replace h:=h.fU (e:=146) (sz:=5) (enc:=cL);refine λ_ r=>dO (β:=Nat) id (λm a w=>∃TI:fO,∃TJ:Nat,∃y9:List bZ,∃IQ:Int,(jV K O po m y9 IQ)=some o25/\∃j,kI 117 (lk [(1,pA b1 0),(2,pA b2 0),(3,pA b3 0),(4,Z po),(5,pA M9 0),(6,aW ((eU po.toNat).1) (J O.bY po.toNat).aq.length ((eU po.toNat).2)),(7,Z IQ)] j) a/\Fit z (aB (CX b1 O cX dM ef fy bC cA bQ cF::gG b2 #[aW none 0 0,aW none 0 0,Z 0,Z 0,Z 0,Z 0,aW none 0 0,aW none 0 0] 32::zD b3 O gZ fG ef fy bC cA bQ cF (Mq.length)::qb gZ fG Mq::gG M9 #[Z (J O.bY po.toNat).aS,Z (J O.bY po.toNat).dc,Z (J O.bY po.toNat).bD,aW TI y9.length TJ] 99::IA TI TJ y9::L)) w) K ⟨none,0,([]:List bZ),0,H,r.fj (h.se 6 [2,3,4,5,1,0])⟩<|?_;clear h r H;rintro k2 a w ⟨TI,TJ,y9,IQ,H,j,r,h⟩;cases k2 with
      | zero=>exact absurd H (by simp[jV])
      | succ k2 =>
       rw[jV]at H;refine qq r<|wq<|aL [U,U,Z (((J O.bY po.toNat).aq.length:Nat):Int),dx (IQ<(((J O.bY po.toNat).aq.length:Nat):Int))]<|G<|eB H (λtd H=>?_) λtd H=>?_
       ·refine gw<|wq<|wb<|qg H λuT H=>qg H λHs H=>nK [(M9,3,[aW TI y9.length TJ]),(dW ((eU po.toNat).1),j6 ((eU po.toNat).1)+IQ.toNat*5,gK (J (J O.bY po.toNat).aq IQ.toNat))] [0,4] 10 h (λh=>⟨⟨(h.pick 4).cell 3 rfl,cz⟩,⟨(fR.u5 sW).cell uT (h.dn 6) 0 rfl,(fR.u5 sW).cell uT (h.dn 6) 1 rfl,(fR.u5 sW).cell uT (h.dn 6) 2 rfl,(fR.u5 sW).cell uT (h.dn 6) 3 rfl,(fR.u5 sW).cell uT (h.dn 6) 4 rfl,cz⟩,cz⟩) λw h hd =>nl hd 7 [(0,37,pA M9 3),(2,39,aW ((eU po.toNat).1) (J O.bY po.toNat).aq.length ((eU po.toNat).2)),(3,40,Z IQ)]<|oK hd 6 4 rfl (pA (dW ((eU po.toNat).1)) (j6 ((eU po.toNat).1)+IQ.toNat*5)) (λw=>EU 146 ((eU po.toNat).2) rfl rfl (fR.u5 sW) uT)<|fW hd 0 5 1 rfl<|wD hd 1 4 5 rfl rfl<|lI 6 rfl<|kV h (nc (J (J O.bY po.toNat).aq IQ.toNat)) 146 λb32 w h=>G<|λ_ r=>xE<|lM 7 rfl<|qh h.m6 λh=>kQ (n0:=y9.length) (c:=1) (bytes:=40) (wn rfl) rfl rfl r rfl bp bp iv (E:=146) (xs:=y9) bp bp h (news:=[J (J O.bY po.toNat).aq IQ.toNat]) (m:=1) rfl ((h.pick 1).news rfl) Hs rfl λE4 E5 w _ h r=>qq r<|G<|mM<|iN 1 8 rfl (pA M9 3)<|lI 9 rfl<|qh h.m6 λh=>kS h 3 (gG M9 #[Z (J O.bY po.toNat).aS,Z (J O.bY po.toNat).dc,Z (J O.bY po.toNat).bD,aW E4 (y9++[J (J O.bY po.toNat).aq IQ.toNat]).length E5] 99) λw h=>G<|mM<|nJ<|bn<|tn<|wl<|ko [U,Z (wi (IQ+1)),Z (wi (IQ+1))]<|G<|?_;exact λ_ r=>⟨_,⟨E4,E5,(y9++[J (J O.bY po.toNat).aq IQ.toNat]),(wi (IQ+1)),H,r.fj (h.se 7 [3,4,5,6,0,1])⟩,gU _⟩
       refine wx<|te<|te<|bh<|tn<|?_;exact λ_ r=>⟨(),TI,TJ,y9,gM H,r.fj h⟩
     clear h r;rintro _ a w ⟨VU,VV,Ld,rfl,j,r,h⟩;replace H:=DJ XK;refine qq r<|wl<|ko dm<|kL (h.pick 2) 0<|kM (h.pick 4)<|kV h (#[Z (J O.bY po.toNat).aS,Z (J O.bY po.toNat).dc,Z (J O.bY po.toNat).bD,aW VU Ld.length VV]) 99 λb36 w h=>qh h.m6 λh=>?_;replace h:=eT (x:=({J O.bY po.toNat with aq:=Ld})) h;refine qg H λKh H=>qh h.m5 λh=>λ_ r=>Au (n0:=Mq.length) (c:=1) (bytes:=48) (sz:=4) (wn rfl) rfl rfl r rfl bp bp (E:=99) (xs:=Mq) bp bp rfl rfl rfl h ((h.pick 2).news rfl) Kh rfl λabZ ab0 w _ h r=>qq r<|ko dm<|qh h.m4 λh=>kS h 0 (zD b3 O abZ ab0 ef fy bC cA bQ cF ((Mq++[{J O.bY po.toNat with aq:=Ld}]).length)) λw h=>kl<|bn<|tn<|?_;exact λ_ r=>⟨(),abZ,ab0,(Mq++[{J O.bY po.toNat with aq:=Ld}]),gM H,r.fj (h.se 6 [3,4,0,1])⟩
    clear h r;rintro _ a w ⟨P1,VT,oc,rfl,j,r,h⟩;replace H:=DJ XZ;refine qq r<|wl<|ko [U,Z (wi (po+1)),Z (wi (po+1))]<|G<|?_;exact λ_ r=>⟨_,⟨P1,VT,oc,(wi (po+1)),H,r.fj h⟩,gU _⟩
   refine wx<|te<|te<|bh<|tn<|?_;exact λ_ r=>⟨(),gZ,fG,Mq,gM H,r.fj h⟩
 clear h r;rintro _ a w ⟨E2,E3,l6,rfl,j,r,h⟩;replace H:=DJ Lj;refine qq r<|aL [U]<|qh h.m2 λh=>kS h 1 (gG b3 #[aW E2 l6.length E3,aW none 0 0,Z O.cZ,Z O.aF,Z O.fE,Z O.gB,aW bC O.dy.length cA,aW bQ O.fz.length cF] 32) λw h=>G<|DM H λo44 H YX=>λ_ r=>cW (β:=Unit) (λ_ a w=>∃Dv:fO,∃Dw:Nat,∃IW:List Int,IW=o44/\∃j,kI 117 (lk [(1,pA b1 0),(2,pA b2 0),(3,pA b3 0)] j) a/\Fit z (aB (CX b1 O cX dM ef fy bC cA bQ cF::gG b2 #[aW none 0 0,aW none 0 0,Z 0,Z 0,Z 0,Z 0,aW none 0 0,aW none 0 0] 32::gG b3 #[aW E2 l6.length E3,aW Dv IW.length Dw,Z O.cZ,Z O.aF,Z O.fE,Z O.gB,aW bC O.dy.length cA,aW bQ O.fz.length cF] 32::qb E2 E3 l6::XF Dv Dw IW::L)) w) ?_ ?_
 ·refine qq r<|iq<|wb<|?_;replace h:=h.fU (e:=2) (sz:=1) (enc:=cQ);refine λ_ r=>dO (β:=Nat) id (λm a w=>∃M5:fO,∃M6:Nat,∃Pu:List Int,∃IU:Int,(jX K O m Pu IU)=some o44/\∃j,kI 117 (lk [(1,pA b1 0),(2,pA b2 0),(3,pA b3 0),(8,Z IU)] j) a/\Fit z (aB (CX b1 O cX dM ef fy bC cA bQ cF::gG b2 #[aW none 0 0,aW none 0 0,Z 0,Z 0,Z 0,Z 0,aW none 0 0,aW none 0 0] 32::gG b3 #[aW E2 l6.length E3,aW M5 Pu.length M6,Z O.cZ,Z O.aF,Z O.fE,Z O.gB,aW bC O.dy.length cA,aW bQ O.fz.length cF] 32::qb E2 E3 l6::XF M5 M6 Pu::L)) w) K ⟨none,0,([]:List Int),0,H,r.fj (h.se 5 [2,3,1,4,0])⟩<|?_;clear h r H;rintro k3 a w ⟨M5,M6,Pu,IU,H,j,r,h⟩;cases k3 with
  | zero=>exact absurd H (by simp[jX])
  | succ k3 =>
   rw[jX]at H;refine qq r<|wq<|aL dm<|kL h 1<|ko [Z ((O.oY.length:Nat):Int),dx (IU<((O.oY.length:Nat):Int))]<|G<|eB H (λEV H=>?_) λEV H=>?_
   ·refine gw<|wq<|wb<|qg H λOC H=>qg H λc54 H=>nK [(b3,1,[aW M5 Pu.length M6]),(b1,1,[aW ef O.oY.length fy]),(dW ef,j6 ef+IU.toNat*1,[Z (J O.oY IU.toNat)])] [0,2,5] 11 h (λh=>⟨⟨(h.pick 2).cell 1 rfl,cz⟩,⟨h.cell 1 rfl,cz⟩,⟨nN.cell OC (h.dn 5) 0 rfl,cz⟩,cz⟩) λw h hd =>nl hd 8 [(0,62,pA b3 1),(2,64,pA b1 1),(4,66,Z IU)]<|fW hd 0 7 1 rfl<|fW hd 1 6 3 rfl<|oK hd 5 5 rfl (pA (dW ef) (j6 ef+IU.toNat*1)) (λw=>EU 2 fy rfl rfl nN OC)<|fW hd 2 4 6 rfl<|lI 7 rfl<|kV h (#[Z (J O.oY IU.toNat)]) 2 λb51 w h=>G<|λ_ r=>xE<|lM 8 rfl<|qh h.m5 λh=>kQ (n0:=Pu.length) (c:=1) (bytes:=8) (wn rfl) rfl rfl r rfl bp bp aO (E:=2) (xs:=Pu) bp bp h (news:=[(J O.oY IU.toNat)]) (m:=1) rfl ((h.pick 1).news rfl) c54 rfl λQb Qc w _ h r=>qq r<|G<|mM<|iN 1 9 rfl (pA b3 1)<|lI 10 rfl<|qh h.m4 λh=>kS h 1 (gG b3 #[aW E2 l6.length E3,aW Qb (Pu++[(J O.oY IU.toNat)]).length Qc,Z O.cZ,Z O.aF,Z O.fE,Z O.gB,aW bC O.dy.length cA,aW bQ O.fz.length cF] 32) λw h=>G<|mM<|nJ<|bn<|tn<|wl<|ko [U,Z (wi (IU+1)),Z (wi (IU+1))]<|G<|?_;exact λ_ r=>⟨_,⟨Qb,Qc,(Pu++[(J O.oY IU.toNat)]),(wi (IU+1)),H,r.fj (h.se 6 [3,4,0,5,1])⟩,gU _⟩
   refine wx<|te<|te<|bh<|tn<|?_;exact λ_ r=>⟨(),M5,M6,Pu,gM H,r.fj h⟩
 clear h r;rintro _ a w ⟨Dv,Dw,IW,rfl,j,r,h⟩;replace H:=DJ YX;refine qq r<|aL dm<|qh h.m2 λh=>λ_ r=>Uy (wn rfl) r h 6 ([aW none 0 0,aW none 0 0]) (gG b3 #[aW E2 l6.length E3,aW Dv IW.length Dw,Z O.cZ,Z O.aF,Z O.fE,Z O.gB,aW none 0 0,aW none 0 0] 32) λw h=>qq r<|G<|DM H λo59 H aec=>λ_ r=>cW (β:=Unit) (λ_ a w=>∃GP:fO,∃GQ:Nat,∃Pw:List Int,Pw=o59/\∃j,kI 117 (lk [(1,pA b1 0),(2,pA b2 0),(3,pA b3 0)] j) a/\Fit z (aB (CX b1 O cX dM ef fy bC cA bQ cF::gG b2 #[aW none 0 0,aW none 0 0,Z 0,Z 0,Z 0,Z 0,aW none 0 0,aW none 0 0] 32::gG b3 #[aW E2 l6.length E3,aW Dv IW.length Dw,Z O.cZ,Z O.aF,Z O.fE,Z O.gB,aW GP Pw.length GQ,aW none 0 0] 32::qb E2 E3 l6::XF Dv Dw IW::xh GP GQ Pw::L)) w) ?_ ?_
 ·refine qq r<|iq<|wb<|?_;replace h:=h.fU (e:=3) (sz:=1) (enc:=cQ);refine λ_ r=>dO (β:=Nat) id (λm a w=>∃TK:fO,∃TL:Nat,∃Pv:List Int,∃IV:Int,(jY K O m Pv IV)=some o59/\∃j,kI 117 (lk [(1,pA b1 0),(2,pA b2 0),(3,pA b3 0),(9,Z IV)] j) a/\Fit z (aB (CX b1 O cX dM ef fy bC cA bQ cF::gG b2 #[aW none 0 0,aW none 0 0,Z 0,Z 0,Z 0,Z 0,aW none 0 0,aW none 0 0] 32::gG b3 #[aW E2 l6.length E3,aW Dv IW.length Dw,Z O.cZ,Z O.aF,Z O.fE,Z O.gB,aW TK Pv.length TL,aW none 0 0] 32::qb E2 E3 l6::XF Dv Dw IW::xh TK TL Pv::L)) w) K ⟨none,0,([]:List Int),0,H,r.fj (h.se 6 [2,3,1,4,5,0])⟩<|?_;clear h r H;rintro k4 a w ⟨TK,TL,Pv,IV,H,j,r,h⟩;cases k4 with
  | zero=>exact absurd H (by simp[jY])
  | succ k4 =>
   rw[jY]at H;refine qq r<|wq<|aL lJ<|kL h 6<|ko [Z ((O.dy.length:Nat):Int),dx (IV<((O.dy.length:Nat):Int))]<|G<|eB H (λZK H=>?_) λZK H=>?_
   ·refine gw<|wq<|wb<|qg H λWJ H=>qg H λc69 H=>nK [(b3,6,[aW TK Pv.length TL]),(b1,6,[aW bC O.dy.length cA]),(dW bC,j6 bC+IV.toNat*1,[Z (J O.dy IV.toNat)])] [0,1,3,4,7] 14 h (λh=>⟨⟨(h.pick 2).cell 6 rfl,cz⟩,⟨h.cell 6 rfl,cz⟩,⟨iE.cell WJ (h.dn 6) 0 rfl,cz⟩,cz⟩) λw h hd =>mU hd 9 82 [([0,1],pA b3 6),([3,4],pA b1 6),([6],Z IV)]<|fW hd 0 8 2 rfl<|fW hd 1 7 5 rfl<|oK hd 6 7 rfl (pA (dW bC) (j6 bC+IV.toNat*1)) (λw=>EU 3 cA rfl rfl iE WJ)<|fW hd 2 5 8 rfl<|lI 9 rfl<|kV h (#[Z (J O.dy IV.toNat)]) 3 λO1 w h=>G<|λ_ r=>xE<|lM 10 rfl<|qh h.m6 λh=>kQ (n0:=Pv.length) (c:=1) (bytes:=8) (wn rfl) rfl rfl r rfl bp bp aO (E:=3) (xs:=Pv) bp bp h (news:=[(J O.dy IV.toNat)]) (m:=1) rfl ((h.pick 1).news rfl) c69 rfl λQU QV w _ h r=>qq r<|G<|mM<|iN 2 11 rfl (pA b3 6)<|iN 1 12 rfl (pA b3 6)<|lI 13 rfl<|qh h.m4 λh=>kS h 6 (gG b3 #[aW E2 l6.length E3,aW Dv IW.length Dw,Z O.cZ,Z O.aF,Z O.fE,Z O.gB,aW QU (Pv++[(J O.dy IV.toNat)]).length QV,aW none 0 0] 32) λw h=>G<|mM<|nJ<|bn<|tn<|wl<|ko [U,Z (wi (IV+1)),Z (wi (IV+1))]<|G<|?_;exact λ_ r=>⟨_,⟨QU,QV,(Pv++[(J O.dy IV.toNat)]),(wi (IV+1)),H,r.fj (h.se 7 [3,4,0,5,6,1])⟩,gU _⟩
   refine wx<|te<|te<|bh<|tn<|?_;exact λ_ r=>⟨(),TK,TL,Pv,gM H,r.fj h⟩
 clear h r;rintro _ a w ⟨GP,GQ,Pw,rfl,j,r,h⟩;replace H:=DJ aec;refine qq r<|wq<|iq<|wb<|?_;replace h:=h.fU (e:=3) (sz:=1) (enc:=cQ);refine λ_ r=>dO (β:=Nat) id (λm a w=>∃QW:fO,∃QX:Nat,∃Px:List Int,∃IX:Int,(jZ K O l6 IW Pw m Px IX)=some r0/\∃j,kI 117 (lk [(1,pA b1 0),(2,pA b2 0),(3,pA b3 0),(10,Z IX)] j) a/\Fit z (aB (CX b1 O cX dM ef fy bC cA bQ cF::gG b2 #[aW none 0 0,aW none 0 0,Z 0,Z 0,Z 0,Z 0,aW none 0 0,aW none 0 0] 32::gG b3 #[aW E2 l6.length E3,aW Dv IW.length Dw,Z O.cZ,Z O.aF,Z O.fE,Z O.gB,aW GP Pw.length GQ,aW QW Px.length QX] 32::qb E2 E3 l6::XF Dv Dw IW::xh GP GQ Pw::xh QW QX Px::L)) w) K ⟨none,0,([]:List Int),0,H,r.fj (h.se 7 [1,2,3,4,5,6,0])⟩<|?_;clear h r H;rintro k5 a w ⟨QW,QX,Px,IX,H,j,r,h⟩;cases k5 with
 | zero=>exact absurd H (by simp[jZ])
 | succ k5 =>
  rw[jZ]at H;refine qq r<|wq<|aL lJ<|kL h 7<|ko [Z ((O.fz.length:Nat):Int),dx (IX<((O.fz.length:Nat):Int))]<|G<|eB H (λc74 H=>?_) λc74 H=>?_
  ·refine gw<|wq<|wb<|qg H λc75 H=>qg H λc79 H=>nK [(b3,7,[aW QW Px.length QX]),(b1,7,[aW bQ O.fz.length cF]),(dW bQ,j6 bQ+IX.toNat*1,[Z (J O.fz IX.toNat)])] [0,1,3,4,7] 14 h (λh=>⟨⟨(h.pick 2).cell 7 rfl,cz⟩,⟨h.cell 7 rfl,cz⟩,⟨jx.cell c75 (h.dn 7) 0 rfl,cz⟩,cz⟩) λw h hd =>mU hd 9 103 [([0],pA b3 6),([1],pA b3 7),([3],pA b1 6),([4],pA b1 7),([6],Z IX)]<|fW hd 0 8 2 rfl<|fW hd 1 7 5 rfl<|oK hd 6 7 rfl (pA (dW bQ) (j6 bQ+IX.toNat*1)) (λw=>EU 3 cF rfl rfl jx c75)<|fW hd 2 5 8 rfl<|lI 9 rfl<|kV h (#[Z (J O.fz IX.toNat)]) 3 λb76 w h=>G<|λ_ r=>xE<|lM 10 rfl<|qh h.m7 λh=>kQ (n0:=Px.length) (c:=1) (bytes:=8) (wn rfl) rfl rfl r rfl bp bp aO (E:=3) (xs:=Px) bp bp h (news:=[(J O.fz IX.toNat)]) (m:=1) rfl ((h.pick 1).news rfl) c79 rfl λab1 ab2 w _ h r=>qq r<|G<|mM<|iN 2 11 rfl (pA b3 6)<|iN 1 12 rfl (pA b3 7)<|lI 13 rfl<|qh h.m4 λh=>kS h 7 (gG b3 #[aW E2 l6.length E3,aW Dv IW.length Dw,Z O.cZ,Z O.aF,Z O.fE,Z O.gB,aW GP Pw.length GQ,aW ab1 (Px++[(J O.fz IX.toNat)]).length ab2] 32) λw h=>G<|mM<|nJ<|bn<|tn<|wl<|ko [U,Z (wi (IX+1)),Z (wi (IX+1))]<|G<|?_;exact λ_ r=>⟨_,⟨ab1,ab2,(Px++[(J O.fz IX.toNat)]),(wi (IX+1)),H,r.fj (h.se 8 [3,4,0,5,6,7,1])⟩,gU _⟩
  refine wx<|te<|te<|bh<|tn<|ks<|kM (h.pick 2)<|qh h.m1 λh=>kA h (gG b2 #[aW E2 l6.length E3,aW Dv IW.length Dw,Z O.cZ,Z O.aF,Z O.fE,Z O.gB,aW GP Pw.length GQ,aW QW Px.length QX] 32) λw h=>cu<|kC h<|?_;cases H;exact⟨E2,E3,Dv,Dw,GP,GQ,QW,QX,rfl,h.se 7 [3,4,5,6]⟩
def oF(K:Nat)(Y:Int):Nat->Int->Int->Option (Int)
 | 0,_,_=>none
 | k1+1,g4,g5=>(if g5<Y then(oF K Y k1 (wi (g4+(wi ((1:Int)+(if Y<(wi ((2:Int)*g5))then Y else(wi ((2:Int)*g5))))))) (if Y<(wi ((2:Int)*g5))then Y else(wi ((2:Int)*g5))))else some g4)
def xB(K:Nat)(O:Int)(Y:Int):Option (Int):=
 eV (sx O Y) (λr1=>(if r1=true then(oF K Y K (wi ((4:Int)+O)) O)else some 0))
theorem GR(H:xB K O Y=some r0)(h:jb z (L) w) :
 nR 109 #[Z O,Z Y] w z (Z r0) (L):=by
 unfold xB at H;refine ke func109 26 rfl λj=>iq<|wq<|ks<|gy H λr1 e2 H=>ko dm<|fD (zN e2 h :) λw h=>ko [vB (!r1)]<|G<|DN H (λc3 H=>?_) λc3 H=>?_
 ·refine gw<|aL [U,Z (wi ((4:Int)+O)),Z (wi ((4:Int)+O))]<|G<|wq<|aL dm<|G<|wb<|λ_ r=>dO (β:=Nat) id (λm a w=>∃g4:Int,∃g5:Int,(oF K Y m g4 g5)=some r0/\∃j,kI 26 (lk [(1,Z Y),(5,Z g4),(6,Z g5)] j) a/\Fit z (aB (L)) w) K ⟨(wi ((4:Int)+O)),O,H,r.fj h⟩<|?_;clear h r H;rintro k1 a w ⟨g4,g5,H,j,r,h⟩;cases k1 with
  | zero=>exact absurd H (by simp[oF])
  | succ k1 =>
   rw[oF]at H;refine qq r<|wq<|aL [U,U,dx (g5<Y)]<|G<|eB H (λc6 H=>?_) λc6 H=>?_
   ·refine gw<|wb<|aL [U,Z (wi ((2:Int)*g5)),U,Z (if Y<(wi ((2:Int)*g5))then Y else(wi ((2:Int)*g5))),Z (if Y<(wi ((2:Int)*g5))then Y else(wi ((2:Int)*g5)))]<|G<|wl<|ko [U,Z (if Y<(wi ((2:Int)*g5))then Y else(wi ((2:Int)*g5))),Z (wi ((1:Int)+(if Y<(wi ((2:Int)*g5))then Y else(wi ((2:Int)*g5))))),Z (wi (g4+(wi ((1:Int)+(if Y<(wi ((2:Int)*g5))then Y else(wi ((2:Int)*g5))))))),Z (wi (g4+(wi ((1:Int)+(if Y<(wi ((2:Int)*g5))then Y else(wi ((2:Int)*g5)))))))]<|kl<|bn<|tn<|?_;exact λ_ r=>⟨_,⟨(wi (g4+(wi ((1:Int)+(if Y<(wi ((2:Int)*g5))then Y else(wi ((2:Int)*g5))))))),(if Y<(wi ((2:Int)*g5))then Y else(wi ((2:Int)*g5))),H,r.fj h⟩,gU _⟩
   refine wx<|te<|te<|bh<|tn<|aL dm<|cu<|?_;cases H;exact gR h
 refine iq<|wr<|tr<|?_;cases H;exact gR h
def vt(K:Nat)(O:Int)(Y:eK):Option (Int):=
 xF (eV (qf O) (λr4=>(if r4=true then eV (qk Y) (λr7=>(if r7=true then some (.inl ())else some (.inr 0)))else some (.inr 0)))) (eV (q7 Y.cr) (λAB=>eV (mH O) (λwU=>eV (xB K Y.dQ Y.jE) (λiP=>some (wi ((wi ((wi ((1:Int)+AB))+wU))+(wi (O*iP))))))))
theorem GS(H:vt K O Y=some r0)(h:jb z (L) w) :
 nR 62 #[Z O,j4 Y] w z (Z r0) (L):=by
 unfold vt at H;refine ke func62 28 rfl λj=>ks<|kN h (k8 Y) 27 λb1 w h=>bS<|G<|?_;obtain⟨o3,H,EE⟩:=Dx H;refine λ_ r=>cW (β:=Unit) (λ_ a w=>.inl ()=o3/\∃j,kI 28 (lk [(0,Z O),(3,pA b1 0)] j) a/\Fit z (aB (K4 b1 Y::L)) w) ?_ ?_
 ·refine qq r<|ks<|gy H λr4 e5 H=>bS<|fD (xp e5 h :) λw h=>ko [vB (!r4),vB (!r4)]<|qI H (λc6 H=>?_) λc6 H=>?_
  ·refine λ_ r=>ldm (mT r (nT c6)) r (j4 Y) (cs:=EO Y) (h.held 0 rfl)<|?_;refine gy H λr7 e8 H=>Zz (nT c6) (xq e8 h :) λw h=>cS (nT c6) [11] [vB (!r7)]<|ny (nT c6) (vB (!r7))<|G<|DN H (λc9 H=>?_) λc9 H=>?_
   ·refine gw<|?_;exact λ_ r=>⟨(),gM H,r.fj h⟩
   refine iq<|wr<|tr<|λ_ r=>qD (Z 0) rfl r<|?_;replace H:=uD H EE;cases H;exact⟨rfl,h.se 1 []⟩
  refine bW (nF c6) [9,10,11]<|nv (nF c6) (vB true)<|G<|λ_ r=>fV r (b:=true) rfl<|qq r<|iq<|wr<|tr<|λ_ r=>qD (Z 0) rfl r<|?_;replace H:=uD H EE;cases H;exact⟨rfl,h.se 1 []⟩
 clear h r;rintro _ a w ⟨rfl,j,r,h⟩;replace H:=Dy EE;refine qq r<|wq<|gy H λAB UP H=>gy H λwU XL H=>gy H λiP Jm H=>nK [(b1,0,[Z Y.cr]),(b1,1,[Z Y.dQ]),(b1,2,[Z Y.jE])] [0,2,3,5,6,8,10,12,13] 16 h (λh=>⟨⟨h.cell 0 rfl,cz⟩,⟨h.cell 1 rfl,cz⟩,⟨h.cell 2 rfl,cz⟩,cz⟩) λw h hd =>mU hd 11 13 [([0],pA b1 0),([4,7],Z O),([8],pA b1 1),([10],pA b1 2)]<|fW hd 0 10 1 rfl<|fW hd 1 9 9 rfl<|fW hd 2 8 11 rfl<|lI 2 rfl<|fD (vz UP h :) λw h=>G<|uI ⟨⟨h.cell 0 rfl,cz⟩,⟨h.cell 1 rfl,cz⟩,⟨h.cell 2 rfl,cz⟩,cz⟩ λhd =>nl hd 6 [(3,16,Z (wi ((1:Int)+AB)))]<|lI 5 rfl<|fD (sY XL h :) λw h=>G<|uI ⟨⟨h.cell 0 rfl,cz⟩,⟨h.cell 1 rfl,cz⟩,⟨h.cell 2 rfl,cz⟩,cz⟩ λhd =>nl hd 4 [(6,19,Z (wi ((wi ((1:Int)+AB))+wU)))]<|lI 12 rfl<|fD (GR Jm h :) λw h=>G<|uI ⟨⟨h.cell 0 rfl,cz⟩,⟨h.cell 1 rfl,cz⟩,⟨h.cell 2 rfl,cz⟩,cz⟩ λhd =>nl hd 0 [(13,26,Z (wi (O*iP))),(14,27,Z (wi ((wi ((wi ((1:Int)+AB))+wU))+(wi (O*iP))))),(15,4,Z (wi ((wi ((wi ((1:Int)+AB))+wU))+(wi (O*iP)))))]<|nJ<|tn<|wr<|?_;cases H;exact gR (h.se 1 [])
def rH(O:ae)(Y:Int):Option (ae):=
 some ({O with sG:=Y})
theorem wR(H:rH O Y=some q0)(h:jb z (gz B0 O ku kr ji k6 L) w) :
 wT 64 #[pA B0 0,Z Y] w z (.tuple #[]) λx1 x2 x3 x4=>gz B0 q0 x1 x2 x3 x4 L:=by
 unfold rH at H;refine ke func64 10 rfl λj=>aL dm<|G<|λ_ r=>fV r (b:=true) rfl<|qq r<|wl<|ko wc<|kS h 4 (gG B0 #[Z O.mq,Z O.fe,aW ku O.cell.length kr,aW ji O.log.length k6,Z Y,vB O.watched] 92) λw h=>kl<|?_;cases H;exact xv4 ku kr ji k6 h
def j0(K:Nat)(O:ag)(dS:ae):Nat->Int->Option (Bool)
 | 0,_=>none
 | k1+1,u9=>(if u9<((O.ai.length:Nat):Int)then eV (nM O dS u9) (λlV=>(if lV=true then(j0 K O dS k1 (wi (u9+1)))else some false))else some true)
def pJ(K:Nat)(O:ag)(dS:ae)(Y:aj):Option (Bool):=
 (if Y.aE=11 then some true else(if Y.aE=10 then(j0 K O dS K 0)else some false))
theorem Bf(H:pJ K O dS Y=some r0)(h:jb z (iu B0 O fM mm mF kJ lq gZ fG aU gf dS ku kr ji k6 L) w) :
 nR 65 #[pA B0 0,dZ Y] w z (vB r0) (iu B0 O fM mm mF kJ lq gZ fG aU gf dS ku kr ji k6 L):=by
 unfold pJ at H;refine ke func65 25 rfl λj=>ks<|kN h (tW Y) 47 λiK w h=>bS<|G<|wq<|aL [U]<|kL h 2<|ko [vB (Y.aE==11)]<|G<|eB H (λwX H=>?_) λwX H=>?_
 ·refine iq<|wr<|tr<|?_;cases H;exact gR (h.se 9 [1,2,3,4,5,6,7,8])
 refine gw<|wq<|aL [U]<|kL h 2<|ko [vB (Y.aE != 10)]<|G<|qx H (λpU H=>?_) λpU H=>?_
 ·refine gw<|wq<|aL lJ<|kL (h.pick 1) 9<|ko [Z ((O.ai.length:Nat):Int),U]<|G<|wb<|λ_ r=>dO (β:=Nat) id (λm a w=>∃u9:Int,(j0 K O dS m u9)=some r0/\∃j,kI 25 (lk [(0,pA B0 0),(16,Z ((O.ai.length:Nat):Int)),(17,Z u9)] j) a/\Fit z (aB (ux B0 O (if_ 33 (pA fM 0)) mm mF kJ lq gZ fG aU gf::gz fM dS ku kr ji k6 (qb mm mF O.code::qP kJ lq O.dz::rC gZ fG O.aG::qQ B0 aU gf O.ai::L))) w) K ⟨0,H,r.fj (h.se 9 [1,6,7,8,2,3,4,5])⟩<|?_;clear h r H;rintro k1 a w ⟨u9,H,j,r,h⟩;cases k1 with
  | zero=>exact absurd H (by simp[j0])
  | succ k1 =>
   rw[j0]at H;refine qq r<|aL [dx (u9<((O.ai.length:Nat):Int))]<|G<|wq<|eB H (λBo H=>?_) λBo H=>?_
   ·refine gw<|wq<|wb<|aL dm<|G<|ks<|gy H λlV IB H=>ko dm<|qh h.m3.m3.m3.m7.m7.m7.m7.m7 λh=>fD (zo IB h :) λw h=>ko [vB (!lV)]<|G<|DN H (λlO H=>?_) λlO H=>?_
    ·refine wk<|bn<|tn<|wl<|ko [Z (wi (u9+1)),Z (wi (u9+1))]<|G<|?_;exact λ_ r=>⟨_,⟨(wi (u9+1)),H,r.fj (h.se 8 [0,5,6,7,1,2,3,4])⟩,gU _⟩
    refine iq<|wr<|br<|tr<|tr<|br<|tr<|?_;cases H;exact gR h
   refine wx<|te<|te<|bh<|tn<|iq<|wr<|?_;cases H;exact gR (h.se 8 [0,4,5,6,7,1,2,3])
 refine iq<|wr<|tr<|?_;cases H;exact gR (h.se 9 [1,2,3,4,5,6,7,8])
def rN(Y:aj):Option (Bool):=
 (if Y.aE=11 then some true else(if Y.aE=10 then none else some false))
theorem ya(H:rN Y=some r0)(h:jb z (L) w) :
 nR 65 #[pN,dZ Y] w z (vB r0) (L):=by
 unfold rN at H;refine ke func65 25 rfl λj=>ks<|kN h (tW Y) 47 λb1 w h=>bS<|G<|wq<|aL [U]<|kL h 2<|ko [vB (Y.aE==11)]<|G<|eB H (λc2 H=>?_) λc2 H=>?_
 ·refine iq<|wr<|tr<|?_;cases H;exact gR (h.se 1 [])
 refine gw<|wq<|aL [U]<|kL h 2<|ko [vB (Y.aE != 10)]<|G<|qx H (λc3 H=>?_) λc3 H=>?_
 ·refine gw<|wq<|ks<|?_;cases H
 refine iq<|wr<|tr<|?_;cases H;exact gR (h.se 1 [])
def mc(K:Nat)(p2:Int)(p4:mS):Nat->ae->ag->aM->(List aj)->Int->Option (ae×(List aj))
 | 0,_,_,_,_,_=>none
 | k1+1,S64,Ug,LG,MI,Fi=>(if Fi<((p4.jd.length:Nat):Int)then if bG Fi p4.jd.length then eV (uX (J p4.jd Fi.toNat) p2) (λMH=>eV (rH S64 MH) (λS79=>ob5 (aX K Ug S79 MH LG) (λIF WI SH Qd S89=>(if IF.aE=0 then(mc K p2 p4 k1 Qd SH S89 MI (wi (Fi+1)))else if(MI.length+1)*48<=140737488355328 then eV (pJ K SH Qd ({IF with At:=Fi})) (λQf=>(if Qf=true then some (Qd,MI++[{IF with At:=Fi}])else(mc K p2 p4 k1 Qd SH S89 (MI++[{IF with At:=Fi}]) (wi (Fi+1)))))else none))))else none else some (S64,MI))
def qw(K:Nat)(p2:Int)(p4:mS):Nat->ae->(List aj)->Int->Option (ae×(List aj))
 | 0,_,_,_=>none
 | k2+1,N1,BQ,vH=>(if vH<((p4.jd.length:Nat):Int)then if bG vH p4.jd.length then eV (uX (J p4.jd vH.toNat) p2) (λYY=>eV (rH N1 YY) (λN2=>sQ (nW YY (⟨p4.nO⟩:aM)) (λEo ab3=>(if Eo.aE=0 then(qw K p2 p4 k2 N2 BQ (wi (vH+1)))else if(BQ.length+1)*48<=140737488355328 then eV (rN ({Eo with At:=vH})) (λAW=>(if AW=true then some (N2,BQ++[{Eo with At:=vH}])else(qw K p2 p4 k2 N2 (BQ++[{Eo with At:=vH}]) (wi (vH+1)))))else none))))else none else some (N1,BQ))
def sj(K:Nat)(O:aJ)(Y:List Int)(p2:Int)(p3:eK)(p4:mS):Option ((List aj)×(List aN)×Int):=
 xF ((if((p4.jd.length:Nat):Int)>1048576 then some (.inr (([]:List aj),([]:List aN),2))else(if((p4.nO.length:Nat):Int)>1048576 then some (.inr (([]:List aj),([]:List aN),2))else some (.inl ())))) (eV (mP K O Y p2 p3) (λwU=>(if wU=0 then eV (vt K p2 p3) (λqy=>sQ (v9 qy) (λBz lV=>(match Bz with | some gu=>(if lV=0 then pL (lE K gu O Y p2 p3) (λMA yB U3=>(match MA with | some OG=>(if yB=0 then eV (pE U3 true) (λS46=>if p4.nO.length*8<=140737488355328 then sQ ((mc K p2 p4 K S46 OG (⟨p4.nO⟩:aM) ([]:List aj) 0)) (λWE ZQ=>eV (oU WE) (λab4=>some (ZQ,ab4,0)))else none)else some (([]:List aj),([]:List aN),yB)) | none=>(if yB=0 then eV (pE U3 true) (λYZ=>if p4.nO.length*8<=140737488355328 then sQ ((qw K p2 p4 K YZ ([]:List aj) 0)) (λTM QY=>eV (oU TM) (λab5=>some (QY,ab5,0)))else none)else some (([]:List aj),([]:List aN),yB))))else some (([]:List aj),([]:List aN),lV)) | none=>(if lV=0 then none else some (([]:List aj),([]:List aN),lV)))))else some (([]:List aj),([]:List aN),wU))))
end
noncomputable section
variable {z w:World}{L:List aZ}
theorem GU(H:sj K O Y p2 p3 p4=some (r0,r1,r2))(h:jb z (xh ku kr p4.jd::xh ji k6 p4.nO::L) w)(aV:Bt L bu aI O.ah)(Ke:bE L 1 cQ Kf Y)(JL:bE L 1 xg (some ⟨0,0,none⟩) Oy)(uq:bE L 5 gF (some ⟨1,0,none⟩) wS) :
 Calls Tryz.prog 40 #[oQ #[aW bu O.ah.length bV],aW Kf Y.length Lf,Z p2,j4 p3,oQ #[aW ku p4.jd.length kr,aW ji p4.nO.length k6]] w λe w=>∃y1 y2 ab6,e=.returned (.tuple #[aW y1 r0.length y2,aW ab6 r1.length r1.length,Z r2])/\Fit z (aB (xh ku kr p4.jd::xh ji k6 p4.nO::Du y1 y2 r0::Sg ab6 r1.length r1::L)) w:=by
 unfold sj at H;refine ke func40 108 rfl λj=>ks<|kN h (#[aW bu O.ah.length bV]) 24 λb5 w h=>kN h (k8 p3) 27 λb6 w h=>kN h (#[aW ku p4.jd.length kr,aW ji p4.nO.length k6]) 30 λb7 w h=>ko lJ<|G<|?_;obtain⟨o9,H,K7⟩:=Dx H;refine λ_ r=>cW (β:=Unit) (λ_ a w=>.inl ()=o9/\∃j,kI 108 (lk [(1,aW Kf Y.length Lf),(2,Z p2),(5,pA b5 0),(8,pA b6 0),(9,pA b7 0)] j) a/\Fit z (aB (gG b5 #[aW bu O.ah.length bV] 24::K4 b6 p3::ad9 b7 p4 ku kr ji k6::xh ku kr p4.jd::xh ji k6 p4.nO::L)) w) ?_ ?_
 ·refine qq r<|aL [U]<|kL h 0<|ko [Z ((p4.jd.length:Nat):Int),dx (((p4.jd.length:Nat):Int)>1048576),dx (((p4.jd.length:Nat):Int)>1048576)]<|qI H (λod H=>?_) λod H=>?_
  ·refine bW (dT od) [29,30,31,32]<|nv (dT od) (vB true)<|G<|λ_ r=>fV r (b:=true) rfl<|qq r<|aL lJ<|cu<|tr<|λ_ r=>Ji (aW none 0 0) (aW none 0 0) (Z 2) rfl r<|?_;replace h:=h.fU (e:=47) (sz:=6) (enc:=gW);replace h:=h.fU (e:=159) (sz:=6) (enc:=gS);replace H:=uD H K7;cases H;exact⟨none,0,none,rfl,h.se 7 [5,6,1,0]⟩
  refine cS (dF od) [29] [pA b7 1]<|tc (dF od) h 1<|cS (dF od) [31,32] [Z ((p4.nO.length:Nat):Int),dx (((p4.nO.length:Nat):Int)>1048576)]<|ny (dF od) (dx (((p4.nO.length:Nat):Int)>1048576))<|G<|eB H (λuS H=>?_) λuS H=>?_
  ·refine aL lJ<|cu<|tr<|λ_ r=>Ji (aW none 0 0) (aW none 0 0) (Z 2) rfl r<|?_;replace h:=h.fU (e:=47) (sz:=6) (enc:=gW);replace h:=h.fU (e:=159) (sz:=6) (enc:=gS);replace H:=uD H K7;cases H;exact⟨none,0,none,rfl,h.se 7 [5,6,1,0]⟩
  refine gw<|?_;exact λ_ r=>⟨(),gM H,r.fj (h.se 5 [2,1,0,3,4])⟩
 clear h r;rintro _ a w ⟨rfl,j,r,h⟩;replace H:=Dy K7;refine qq r<|wq<|ks<|xm (oQ #[aW bu O.ah.length bV]) (cs:=[aW bu O.ah.length bV]) ⟨h.cell 0 rfl,cz⟩<|?_;refine ko dm<|kM (h.pick 1)<|gy H λwU XL H=>fD (uK (Kf:=Kf) (Lf:=Lf) (Ke:=(bE.up 5 Ke)) (bu:=bu) (bV:=bV) (aV:=(yc.up 5 aV)) (uq:=bE.up 5 uq) (aI:=aI) XL h :) λw h=>bS<|G<|aL [U,vB (wU != 0)]<|G<|qx H (λwX H=>?_) λwX H=>?_
 ·refine gw<|aL [U]<|kM (h.pick 1)<|gy H λqy U1 H=>fD (GS U1 h :) λw h=>v7 H λBz lV IB H=>?_;cases Bz with
  | some gu =>
   refine xc5 (Hh IB h :) λH9 mQ ur BF D0 w h=>ko [.tuple #[pA H9 0,Z lV],U,U,U,U]<|G<|wq<|aL [U,vB (lV != 0)]<|G<|qx H (λBp H=>?_) λBp H=>?_
   ·refine gw<|aL dm<|xm (oQ #[aW bu O.ah.length bV]) (cs:=[aW bu O.ah.length bV]) ⟨(h.pick 3).cell 0 rfl,cz⟩<|?_;refine ko dm<|kM (h.pick 4)<|tG H λMA yB U3 Lm H=>?_;cases MA with
    | some OG =>
     have hc:=AP (xL:=Kf) (yD:=Lf) (E1:=(bE.up 5 Ke)) (jm:=bu) (lF:=bV) (lG:=(yc.up 5 aV)) (uq:=bE.up 5 uq) (iL:=aI) (H:=Lm) (h:=h);intro _ r;refine cl (wn rfl) r hc ?_;clear hc h;rintro _ w ⟨Y0,ZC,ZD,x35,Fv,Hz,Fs,DV,C7,DD,IE,Qi,x44,rfl,h⟩;refine⟨_,rfl,?_⟩;refine ko [.tuple #[pA Y0 0,Z yB],U,U,U,U]<|G<|wq<|aL [U,vB (yB != 0)]<|G<|qx H (λJA H=>?_) λJA H=>?_
     ·refine gw<|ks<|gy H λS46 e47 H=>bS<|kP (vo e47 h :) λx48 x49 x50 Ro w h=>G<|aL [U]<|kL (h.pick 10) 1<|qg H λWG H=>ZA (Ax (va:=ji) (c:=k6) (l:=p4.nO) (h:=h) (hv:=(bE.FU aO (h.pick 12) (λh=>(h.pick 12)))) WG :) λb53 w h=>bS<|G<|iq<|qd2 H λo63 H aed=>λ_ r=>cW (β:=Unit) (λ_ a w=>∃GP:fO,∃GQ:Nat,∃Ho:fO,∃Hq:Nat,∃VW:fO,∃VX:Nat,∃WE:ae,∃ZQ:List aj,(WE,ZQ)=o63/\∃j,kI 108 (lk [(14,pA H9 0),(18,aW VW ZQ.length VX)] j) a/\Fit z (aB (gz H9 WE GP GQ Ho Hq (Du VW VX ZQ::xh ku kr p4.jd::xh ji k6 p4.nO::L))) w) ?_ ?_
      ·refine qq r<|aL [U]<|kL (h.pick 11) 0<|ko [Z ((p4.jd.length:Nat):Int),U]<|G<|wb<|?_;replace h:=h.fU (e:=47) (sz:=6) (enc:=gW);refine λ_ r=>dO (β:=Nat) id (λm a w=>∃Y1:fO,∃Y2:Nat,∃QU:fO,∃QV:Nat,∃TN:fO,∃TP:Nat,∃S64:ae,∃Ug:ag,∃LG:aM,∃MI:List aj,∃Fi:Int,(mc K p2 p4 m S64 Ug LG MI Fi)=some o63/\∃j,kI 108 (lk [(2,Z p2),(14,pA H9 0),(16,pA Y0 0),(17,pA b53 0),(18,aW TN MI.length TP),(71,aW ku p4.jd.length kr),(72,Z ((p4.jd.length:Nat):Int)),(73,Z Fi)] j) a/\Fit z (aB (gz H9 S64 Y1 Y2 QU QV (WB Y0 Ug H9 ZC ZD x35 Fv Hz Fs DV C7 (vu b53 LG::Du TN TP MI::xh ku kr p4.jd::xh ji k6 p4.nO::L)))) w) K ⟨x48,x49,x50,Ro,none,0,S46,OG,(⟨p4.nO⟩:aM),([]:List aj),0,H,r.fj (h.se 15 [2,3,4,5,6,7,8,9,1,0,13,14])⟩<|?_;clear h r H;rintro k1 a w ⟨Y1,Y2,QU,QV,TN,TP,S64,Ug,LG,MI,Fi,H,j,r,h⟩;cases k1 with
       | zero=>exact absurd H (by simp[mc])
       | succ k1 =>
        rw[mc]at H;refine qq r<|aL [dx (Fi<((p4.jd.length:Nat):Int))]<|G<|wq<|eB H (λc75 H=>?_) λc75 H=>?_
        ·refine gw<|wq<|wb<|ks<|qg H λc76 H=>bS<|ki (h.pick 10) c76<|xl (Z (J p4.jd Fi.toNat)) ((h.pick 10).bL aO (f:=0) (aT c76) rfl)<|?_;refine ko dm<|G<|ks<|gy H λMH e78 H=>ko dm<|fD (zn e78 h :) λw h=>bS<|G<|ks<|gy H λS79 e80 H=>ko dm<|kP (wR e80 h :) λx81 x82 x83 Qh w h=>G<|ks<|qb5 H λIF WI SH Qd S89 e90 H=>ko wc<|qh h.m8.m3.m3.m3.m8.m8.m8.m8.m8 λh=>kP (wM (JL:=bE.up 3 JL) e90 h :) λx91 x92 Ya Ye w h=>ko [.tuple #[dZ IF,Z WI],U,U]<|kN h (gg) 47 λb95 w h=>kA h (fC b95 IF) λw h=>bS<|G<|wq<|aL [U]<|kL h 2<|ko [vB (IF.aE==0)]<|G<|eB H (λc96 H=>?_) λc96 H=>?_
         ·refine wx<|te<|bh<|tn<|wl<|ko [Z (wi (Fi+1)),Z (wi (Fi+1))]<|G<|?_;exact λ_ r=>⟨_,⟨x91,x92,Ya,Ye,TN,TP,Qd,SH,S89,MI,(wi (Fi+1)),H,r.fj (h.se 13 [6,7,8,1,2,3,4,5,9,10,11,12])⟩,gU _⟩
         refine gw<|aL dm<|kS h 0 (fC b95 {IF with At:=Fi}) λw h=>G<|aL [U]<|kM h<|kV h (tW {IF with At:=Fi}) 47 λb97 w h=>qh h.m11 λh=>qg H λYf H=>λ_ r=>kQ (n0:=MI.length) (c:=1) (bytes:=48) (wn rfl) rfl rfl r rfl bp bp eP (E:=47) (xs:=MI) bp bp h (news:=[{IF with At:=Fi}]) (m:=1) rfl ((h.pick 1).news rfl) Yf rfl λab7 ab8 w _ h r=>qq r<|bS<|G<|aL [U]<|kM (h.pick 2)<|gy H λQf aee H=>qh h.Mz.Mz.Mz.Mz.Mz.Mz.Mz.Mz λh=>fD (Bf aee h :) λw h=>G<|ED H (λaef H=>?_) λaef H=>?_
         ·refine wx<|λ_ r=>DH eF<|qq r<|te<|te<|bh<|tn<|?_;exact λ_ r=>⟨(),x91,x92,Ya,Ye,ab7,ab8,Qd,(MI++[{IF with At:=Fi}]),gM H,r.fj (h.se 14 [5,6,7,8,12,13])⟩
         refine wk<|bn<|tn<|wl<|ko [Z (wi (Fi+1)),Z (wi (Fi+1))]<|G<|?_;exact λ_ r=>⟨_,⟨x91,x92,Ya,Ye,ab7,ab8,Qd,SH,S89,(MI++[{IF with At:=Fi}]),(wi (Fi+1)),H,r.fj (h.se 14 [5,6,7,0,1,2,3,4,11,8,12,13])⟩,gU _⟩
        refine wx<|te<|te<|bh<|tn<|?_;exact λ_ r=>⟨(),Y1,Y2,QU,QV,TN,TP,S64,MI,gM H,r.fj (h.se 12 [0,1,2,9,10,11])⟩
      clear h r;rintro _ a w ⟨GP,GQ,Ho,Hq,VW,VX,WE,ZQ,rfl,j,r,h⟩;replace H:=kk2 aed;refine qq r<|ks<|gy H λab4 SM H=>ko dm<|ZA (wN SM h :) λDb w h=>ko lJ<|cu<|?_;cases H;exact xw3 VW VX Db (h.se 7 [5,6,4,3])
     refine aL wc<|cu<|tr<|λ_ r=>Ji (aW none 0 0) (aW none 0 0) (Z yB) rfl r<|?_;replace h:=h.fU (e:=47) (sz:=6) (enc:=gW);replace h:=h.fU (e:=159) (sz:=6) (enc:=gS);cases H;exact⟨none,0,none,rfl,h.se 15 [13,14,1,0]⟩
    | none =>
     refine kP (AQ (xL:=Kf) (yD:=Lf) (E1:=(bE.up 5 Ke)) (jm:=bu) (lF:=bV) (lG:=(yc.up 5 aV)) (uq:=bE.up 5 uq) (iL:=aI) Lm h :) λD6 GC GD afb w h=>ko [.tuple #[pN,Z yB],U,U,U,U]<|G<|wq<|aL [U,vB (yB != 0)]<|G<|qx H (λYh H=>?_) λYh H=>?_
     ·refine gw<|ks<|gy H λYZ aeg H=>bS<|kP (vo aeg h :) λaeh aei aej Fe w h=>G<|aL [U]<|kL (h.pick 5) 1<|qg H λaek H=>ZA (Ax (va:=ji) (c:=k6) (l:=p4.nO) (h:=h) (hv:=(bE.FU aO (h.pick 7) (λh=>(h.pick 7)))) aek :) λab9 w h=>bS<|G<|iq<|qd2 H λacd H ace=>λ_ r=>cW (β:=Unit) (λ_ a w=>∃W2:fO,∃W3:Nat,∃W4:fO,∃W5:Nat,∃Py:fO,∃Pz:Nat,∃TM:ae,∃QY:List aj,(TM,QY)=acd/\∃j,kI 108 (lk [(14,pA H9 0),(18,aW Py QY.length Pz)] j) a/\Fit z (aB (gz H9 TM W2 W3 W4 W5 (Du Py Pz QY::xh ku kr p4.jd::xh ji k6 p4.nO::L))) w) ?_ ?_
      ·refine qq r<|aL [U]<|kL (h.pick 6) 0<|ko [Z ((p4.jd.length:Nat):Int),U]<|G<|wb<|?_;replace h:=h.fU (e:=47) (sz:=6) (enc:=gW);refine λ_ r=>dO (β:=Nat) id (λm a w=>∃TQ:fO,∃TR:Nat,∃TS:fO,∃TT:Nat,∃Mr:fO,∃Ms:Nat,∃N1:ae,∃BQ:List aj,∃vH:Int,(qw K p2 p4 m N1 BQ vH)=some acd/\∃j,kI 108 (lk [(2,Z p2),(14,pA H9 0),(16,pN),(17,pA ab9 0),(18,aW Mr BQ.length Ms),(71,aW ku p4.jd.length kr),(72,Z ((p4.jd.length:Nat):Int)),(73,Z vH)] j) a/\Fit z (aB (gz H9 N1 TQ TR TS TT (vu ab9 (⟨p4.nO⟩:aM)::Du Mr Ms BQ::xh ku kr p4.jd::xh ji k6 p4.nO::L))) w) K ⟨aeh,aei,aej,Fe,none,0,YZ,([]:List aj),0,H,r.fj (h.se 10 [2,3,4,1,0,8,9])⟩<|?_;clear h r H;rintro k2 a w ⟨TQ,TR,TS,TT,Mr,Ms,N1,BQ,vH,H,j,r,h⟩;cases k2 with
       | zero=>exact absurd H (by simp[qw])
       | succ k2 =>
        rw[qw]at H;refine qq r<|aL [dx (vH<((p4.jd.length:Nat):Int))]<|G<|wq<|eB H (λael H=>?_) λael H=>?_
        ·refine gw<|wq<|wb<|ks<|qg H λacf H=>bS<|ki (h.pick 5) acf<|xl (Z (J p4.jd vH.toNat)) ((h.pick 5).bL aO (f:=0) (aT acf) rfl)<|?_;refine ko dm<|G<|ks<|gy H λYY aem H=>ko dm<|fD (zn aem h :) λw h=>bS<|G<|ks<|gy H λN2 aen H=>ko dm<|kP (wR aen h :) λY3 Y4 Y5 Y6 w h=>G<|ks<|v7 H λEo ab3 aeo H=>ko wc<|qh h.m3 λh=>fD (uP aeo h :) λw h=>ko [.tuple #[dZ Eo,Z ab3],U,U]<|kN h (gg) 47 λacg w h=>kA h (fC acg Eo) λw h=>bS<|G<|wq<|aL [U]<|kL h 2<|ko [vB (Eo.aE==0)]<|G<|eB H (λaep H=>?_) λaep H=>?_
         ·refine wx<|te<|bh<|tn<|wl<|ko [Z (wi (vH+1)),Z (wi (vH+1))]<|G<|?_;exact λ_ r=>⟨_,⟨Y3,Y4,Y5,Y6,Mr,Ms,N2,BQ,(wi (vH+1)),H,r.fj (h.se 8 [2,3,4,1,5,6,7])⟩,gU _⟩
         refine gw<|aL dm<|kS h 0 (fC acg {Eo with At:=vH}) λw h=>G<|aL [U]<|kM h<|kV h (tW {Eo with At:=vH}) 47 λafc w h=>qh h.m6 λh=>qg H λSN H=>λ_ r=>kQ (n0:=BQ.length) (c:=1) (bytes:=48) (wn rfl) rfl rfl r rfl bp bp eP (E:=47) (xs:=BQ) bp bp h (news:=[{Eo with At:=vH}]) (m:=1) rfl ((h.pick 1).news rfl) SN rfl λW6 W7 w _ h r=>qq r<|bS<|G<|aL [U]<|kM (h.pick 2)<|gy H λAW aeq H=>fD (ya aeq h :) λw h=>G<|ED H (λaer H=>?_) λaer H=>?_
         ·refine wx<|λ_ r=>DH eF<|qq r<|te<|te<|bh<|tn<|?_;exact λ_ r=>⟨(),Y3,Y4,Y5,Y6,W6,W7,N2,(BQ++[{Eo with At:=vH}]),gM H,r.fj (h.se 9 [4,5,6,0,7,8])⟩
         refine wk<|bn<|tn<|wl<|ko [Z (wi (vH+1)),Z (wi (vH+1))]<|G<|?_;exact λ_ r=>⟨_,⟨Y3,Y4,Y5,Y6,W6,W7,N2,(BQ++[{Eo with At:=vH}]),(wi (vH+1)),H,r.fj (h.se 9 [4,5,6,3,0,7,8])⟩,gU _⟩
        refine wx<|te<|te<|bh<|tn<|?_;exact λ_ r=>⟨(),TQ,TR,TS,TT,Mr,Ms,N1,BQ,gM H,r.fj (h.se 7 [0,1,2,4,5,6])⟩
      clear h r;rintro _ a w ⟨W2,W3,W4,W5,Py,Pz,TM,QY,rfl,j,r,h⟩;replace H:=kk2 ace;refine qq r<|ks<|gy H λab5 aes H=>ko dm<|ZA (wN aes h :) λFf w h=>ko lJ<|cu<|?_;cases H;exact xw3 Py Pz Ff (h.se 7 [5,6,4,3])
     refine aL wc<|cu<|tr<|λ_ r=>Ji (aW none 0 0) (aW none 0 0) (Z yB) rfl r<|?_;replace h:=h.fU (e:=47) (sz:=6) (enc:=gW);replace h:=h.fU (e:=159) (sz:=6) (enc:=gS);cases H;exact⟨none,0,none,rfl,h.se 10 [8,9,1,0]⟩
   refine aL wc<|cu<|tr<|λ_ r=>Ji (aW none 0 0) (aW none 0 0) (Z lV) rfl r<|?_;replace h:=h.fU (e:=47) (sz:=6) (enc:=gW);replace h:=h.fU (e:=159) (sz:=6) (enc:=gS);cases H;exact⟨none,0,none,rfl,h.se 10 [8,9,1,0]⟩
  | none =>
   refine fD (Hj IB h :) λw h=>ko [.tuple #[pN,Z lV],U,U,U,U]<|G<|wq<|aL [U,vB (lV != 0)]<|G<|qx H (λaet H=>?_) λaet H=>?_
   ·refine gw<|aL dm<|xm (oQ #[aW bu O.ah.length bV]) (cs:=[aW bu O.ah.length bV]) ⟨h.cell 0 rfl,cz⟩<|?_;refine ko dm<|kM (h.pick 1)<|?_;cases H
   refine aL wc<|cu<|tr<|λ_ r=>Ji (aW none 0 0) (aW none 0 0) (Z lV) rfl r<|?_;replace h:=h.fU (e:=47) (sz:=6) (enc:=gW);replace h:=h.fU (e:=159) (sz:=6) (enc:=gS);cases H;exact⟨none,0,none,rfl,h.se 7 [5,6,1,0]⟩
 refine aL wc<|cu<|tr<|λ_ r=>Ji (aW none 0 0) (aW none 0 0) (Z wU) rfl r<|?_;replace h:=h.fU (e:=47) (sz:=6) (enc:=gW);replace h:=h.fU (e:=159) (sz:=6) (enc:=gS);cases H;exact⟨none,0,none,rfl,h.se 7 [5,6,1,0]⟩
def pK(O:mS):Option (Bool):=
 (if((O.jd.length:Nat):Int)>1048576 then some true else some (decide (((O.nO.length:Nat):Int)>1048576)))
theorem yM(H:pK O=some r0)(h:jb z (L) w)(QZ:bE L 1 cQ Ep O.jd)(Q1:bE L 1 cQ Er O.nO) :
 nR 66 #[oQ #[aW Ep O.jd.length IY,aW Er O.nO.length IZ]] w z (vB r0) (L):=by
 unfold pK at H;refine ke func66 13 rfl λj=>ks<|kN h (#[aW Ep O.jd.length IY,aW Er O.nO.length IZ]) 30 λb1 w h=>bS<|G<|aL [U]<|kL h 0<|ko [Z ((O.jd.length:Nat):Int),dx (((O.jd.length:Nat):Int)>1048576),dx (((O.jd.length:Nat):Int)>1048576)]<|qI H (λc2 H=>?_) λc2 H=>?_
 ·refine bW (dT c2) [8,9,10,11]<|nv (dT c2) (vB true)<|bS<|cu<|?_;cases H;exact gR (h.se 1 [])
 refine cS (dF c2) [8] [pA b1 1]<|tc (dF c2) h 1<|cS (dF c2) [10,11] [Z ((O.nO.length:Nat):Int),dx (((O.nO.length:Nat):Int)>1048576)]<|ny (dF c2) (dx (((O.nO.length:Nat):Int)>1048576))<|ko [dx (((O.nO.length:Nat):Int)>1048576)]<|cu<|?_;cases H;exact gR (h.se 1 [])
def nk(K:Nat)(O:bK):Option (Int):=
 eV (pK (⟨O.dy,O.fz⟩:mS)) (λr2=>(if r2=true then some 2 else eV (ni K (⟨O.bY⟩:aJ) O.oY O.cZ (⟨O.aF,O.fE,O.gB⟩:eK)) (λr5=>some r5)))
theorem yN(H:nk K O=some r0)(h:jb z (L) w)(fR:Bt L cX eU O.bY)(nN:bE L 1 cQ ef O.oY)(iE:bE L 1 cQ bC O.dy)(jx:bE L 1 cQ bQ O.fz) :
 nR 41 #[oQ #[aW cX O.bY.length dM,aW ef O.oY.length fy,Z O.cZ,Z O.aF,Z O.fE,Z O.gB,aW bC O.dy.length cA,aW bQ O.fz.length cF]] w z (Z r0) (L):=by
 unfold nk at H;refine ke func41 15 rfl λj=>ks<|kN h (#[aW cX O.bY.length dM,aW ef O.oY.length fy,Z O.cZ,Z O.aF,Z O.fE,Z O.gB,aW bC O.dy.length cA,aW bQ O.fz.length cF]) 32 λb1 w h=>bS<|G<|wq<|aL [U]<|xm (oQ #[aW bC O.dy.length cA,aW bQ O.fz.length cF]) (cs:=[aW bC O.dy.length cA,aW bQ O.fz.length cF]) (h.held 6 rfl)<|?_;refine gy H λr2 e3 H=>fD (yM (Ep:=bC) (IY:=cA) (QZ:=(bE.up 1 iE)) (Er:=bQ) (IZ:=cF) (Q1:=(bE.up 1 jx)) e3 h :) λw h=>G<|ED H (λc4 H=>?_) λc4 H=>?_
 ·refine iq<|wr<|tr<|?_;cases H;exact gR (h.se 1 [])
 refine gw<|aL [U]<|xm (oQ #[aW cX O.bY.length dM]) (cs:=[aW cX O.bY.length dM]) ⟨h.cell 0 rfl,cz⟩<|?_;refine bS<|kL h 1<|bS<|kL h 2<|bS<|xm (oQ #[Z O.aF,Z O.fE,Z O.gB]) (cs:=[Z O.aF,Z O.fE,Z O.gB]) (h.held 3 rfl)<|?_;refine gy H λr5 e6 H=>fD (yC (Kf:=ef) (Lf:=fy) (Ke:=(bE.up 1 nN)) (bu:=cX) (bV:=dM) (aV:=(yc.up 1 fR)) (aI:=eU) e6 h :) λw h=>bS<|cu<|?_;cases H;exact gR (h.se 1 [])
def j3(K:Nat)(lV:List aj):Nat->Int->Option ((List aj)×Bool×Bool)
 | 0,_=>none
 | k1+1,qG=>(if qG<((lV.length:Nat):Int)then eV (if bG qG lV.length then(if(J lV qG.toNat).aE=1 then some ((J lV qG.toNat).Frame==0)else some false)else none) (λg34=>(if g34=true then if bG qG lV.length then(if(J lV qG.toNat).rT=0 then(if(J lV qG.toNat).X=(-1)then some (lV,true,(J lV qG.toNat).V==1)else some (lV,true,false))else some (lV,true,false))else none else(j3 K lV k1 (wi (qG+1)))))else some (lV,true,false))
def nu(K:Nat)(O:bK):Option ((List aj)×Bool×Bool):=
 eV (pI K O) (λr5=>pL (sj K (⟨r5.bY⟩:aJ) r5.oY r5.cZ (⟨r5.aF,r5.fE,r5.gB⟩:eK) (⟨r5.dy,r5.fz⟩:mS)) (λlV pZ yZ=>eV (nk K O) (λzg=>(if yZ=zg then(if yZ=0 then eV (rf K O) (λRc=>(if Rc=true then(j3 K lV K 0)else some (lV,true,true)))else some (([]:List aj),false,true))else some (([]:List aj),false,false)))))
theorem Bg(H:nu K O=some (r0,r1,r2))(h:jb z (L) w)(fR:Bt L cX eU O.bY)(nN:bE L 1 cQ ef O.oY)(iE:bE L 1 cQ bC O.dy)(jx:bE L 1 cQ bQ O.fz)(JL:bE L 1 xg (some ⟨0,0,none⟩) Oy)(uq:bE L 5 gF (some ⟨1,0,none⟩) wS) :
 Calls Tryz.prog 45 #[oQ #[aW cX O.bY.length dM,aW ef O.oY.length fy,Z O.cZ,Z O.aF,Z O.fE,Z O.gB,aW bC O.dy.length cA,aW bQ O.fz.length cF]] w λe w=>∃y1 y2,e=.returned (.tuple #[aW y1 r0.length y2,vB r1,vB r2])/\Fit z (aB (Du y1 y2 r0::L)) w:=by
 unfold nu at H;refine ke func45 85 rfl λj=>ks<|kN h (#[aW cX O.bY.length dM,aW ef O.oY.length fy,Z O.cZ,Z O.aF,Z O.fE,Z O.gB,aW bC O.dy.length cA,aW bQ O.fz.length cF]) 32 λb4 w h=>ko lJ<|G<|ks<|kM h<|gy H λr5 e6 H=>xc8 (Be (cX:=cX) (dM:=dM) (fR:=(yc.up 1 fR)) (ef:=ef) (fy:=fy) (nN:=(bE.up 1 nN)) (bC:=bC) (cA:=cA) (iE:=(bE.up 1 iE)) (bQ:=bQ) (cF:=cF) (jx:=(bE.up 1 jx)) (eU:=eU) e6 h :) λx7 x8 x9 Bh wC zb vv ye w h=>kN h (#[aW none 0 0,aW none 0 0,Z 0,Z 0,Z 0,Z 0,aW none 0 0,aW none 0 0]) 32 λb15 w h=>kA h (CX b15 r5 x7 x8 x9 Bh wC zb vv ye) λw h=>G<|aL [U]<|xm (oQ #[aW x7 r5.bY.length x8]) (cs:=[aW x7 r5.bY.length x8]) ⟨h.cell 0 rfl,cz⟩<|?_;refine bS<|kL h 1<|bS<|kL h 2<|bS<|xm (oQ #[Z r5.aF,Z r5.fE,Z r5.gB]) (cs:=[Z r5.aF,Z r5.fE,Z r5.gB]) (h.held 3 rfl)<|?_;refine bS<|xm (oQ #[aW wC r5.dy.length zb,aW vv r5.fz.length ye]) (cs:=[aW wC r5.dy.length zb,aW vv r5.fz.length ye]) (h.held 6 rfl)<|?_;refine qh h.m1 λh=>?_;obtain⟨aeu,ach,h⟩:=RR (cn:=Sf) (afv:=146) (rU:=5) (iS:=cL) (um:=aC.aq) (λh=>tV h) h;refine tG H λlV pZ yZ Ll H=>qh h.m4.m4 λh=>xc3 (GU (Kf:=x9) (Lf:=Bh) (Ke:=(bE.FU aO (h.pick 4) (λh=>(h.pick 2)))) (bu:=x7) (bV:=x8) (aV:=(yc.cast (yc.UB iv eF (h.pick 2) (λh=>h)) ach)) (JL:=bE.up 4 JL) (uq:=bE.up 4 uq) (aI:=(λi_=>(J aeu i_).2)) Ll h :) λmQ ur BF w h=>qh h.m4 λh=>?_;replace h:=MQ (own:=lS) (λh=>eT h) h ach;refine ko [.tuple #[aW mQ lV.length ur,aW BF pZ.length pZ.length,Z yZ],U,U,U,U,U,U]<|G<|ks<|kM (h.pick 7)<|gy H λzg X6 H=>fD (yN (cX:=cX) (dM:=dM) (fR:=(yc.up 8 fR)) (ef:=ef) (fy:=fy) (nN:=(bE.up 8 nN)) (bC:=bC) (cA:=cA) (iE:=(bE.up 8 iE)) (bQ:=bQ) (cF:=cF) (jx:=(bE.up 8 jx)) (eU:=eU) X6 h :) λw h=>bS<|G<|wq<|aL [U,U,vB (yZ != zg)]<|G<|qx H (λrK H=>?_) λrK H=>?_
 ·refine gw<|wq<|aL [U,vB (yZ != 0)]<|G<|qx H (λzX H=>?_) λzX H=>?_
  ·refine gw<|ks<|kM (h.pick 7)<|gy H λRc Lm H=>fD (Ab (cX:=cX) (dM:=dM) (fR:=(yc.up 8 fR)) (ef:=ef) (fy:=fy) (nN:=(bE.up 8 nN)) (bC:=bC) (cA:=cA) (iE:=(bE.up 8 iE)) (bQ:=bQ) (cF:=cF) (jx:=(bE.up 8 jx)) (eU:=eU) Lm h :) λw h=>bS<|G<|wq<|aL [U,vB (!Rc)]<|G<|DN H (λuT H=>?_) λuT H=>?_
   ·refine gw<|wq<|iq<|wb<|λ_ r=>dO (β:=Nat) id (λm a w=>∃qG:Int,(j3 K lV m qG)=some (r0,r1,r2)/\∃j,kI 85 (lk [(6,aW mQ lV.length ur),(11,Z qG)] j) a/\Fit z (aB (Du mQ ur lV::L)) w) K ⟨0,H,r.fj (h.se 8 [3])⟩<|?_;clear h r H;rintro k1 a w ⟨qG,H,j,r,h⟩;cases k1 with
    | zero=>exact absurd H (by simp[j3])
    | succ k1 =>
     rw[j3]at H;refine qq r<|wq<|aL [U,U,Z ((lV.length:Nat):Int),dx (qG<((lV.length:Nat):Int))]<|G<|eB H (λBu H=>?_) λBu H=>?_
     ·refine gw<|wq<|wb<|DM H λo36 H aev=>λ_ r=>cW (β:=Unit) (λ_ a w=>∃g34:Bool,g34=o36/\∃j,kI 85 (lk [(6,aW mQ lV.length ur),(11,Z qG),(60,vB g34)] j) a/\Fit z (aB (Du mQ ur lV::L)) w) ?_ ?_
      ·refine qq r<|wl<|qg H λKh H=>ko dm<|ki h Kh<|bS<|xl (Z (J lV qG.toNat).aE) (h.bL eP (f:=2) (aT Kh) rfl)<|?_;refine ko [vB ((J lV qG.toNat).aE==1),vB ((J lV qG.toNat).aE==1)]<|qI H (λKd H=>?_) λKd H=>?_
       ·refine cS (beq_iff_eq.mpr Kd) [54,55] [aW mQ lV.length ur,Z qG]<|λ_ r=>My (mT r (beq_iff_eq.mpr Kd)) r (mg mQ qG 6) (tH 47 rfl h Kh)<|?_;refine cS (beq_iff_eq.mpr Kd) [57] [sU mQ qG 6 3]<|λ_ r=>ld (mT r (beq_iff_eq.mpr Kd)) r (Z (J lV qG.toNat).Frame) (h.bL eP (f:=3) (aT Kh) rfl)<|?_;refine cS (beq_iff_eq.mpr Kd) [59] [vB ((J lV qG.toNat).Frame==0)]<|nv (beq_iff_eq.mpr Kd) (vB ((J lV qG.toNat).Frame==0))<|G<|?_;exact λ_ r=>⟨(),((J lV qG.toNat).Frame==0),gM H,r.fj h⟩
       refine bW (bN Kd) [54,55,56,57,58,59]<|ny (bN Kd) (vB false)<|G<|?_;exact λ_ r=>⟨(),false,gM H,r.fj h⟩
      clear h r;rintro _ a w ⟨g34,rfl,j,r,h⟩;replace H:=DJ aev;refine qq r<|ED H (λCF H=>?_) λCF H=>?_
      ·refine wq<|qg H λDC H=>qI H (λxK H=>?_) λxK H=>?_
       ·refine qI H (λBB H=>?_) λBB H=>?_
        ·refine nK [(dW mQ,qG.toNat*6+1,[Z (J lV qG.toNat).rT]),(dW mQ,qG.toNat*6+4,[Z (J lV qG.toNat).X]),(dW mQ,qG.toNat*6+5,[Z (J lV qG.toNat).V])] [3,4,6,10,11,13,18,19] 26 h (λh=>⟨⟨h.bL eP (f:=1) (aT DC) rfl,cz⟩,⟨h.bL eP (f:=4) (aT DC) rfl,cz⟩,⟨h.bL eP (f:=5) (aT DC) rfl,cz⟩,cz⟩) λw h hd =>mU hd 23 61 [([0,1],aW mQ lV.length ur),([2],Z qG)]<|oK hd 22 3 rfl (mg mQ qG 6) (λw=>tH 47 rfl h DC)<|nl hd 21 [(4,65,sU mQ qG 6 1)]<|fW hd 0 20 5 rfl<|mU hd 18 61 [([6,7],vB ((J lV qG.toNat).rT==0))]<|λ_ r=>DA hd 17 8 rfl (mT r (beq_iff_eq.mpr xK)) r (aW mQ lV.length ur)<|?_;refine λ_ r=>DA hd 16 9 rfl (mT r (beq_iff_eq.mpr xK)) r (Z qG)<|?_;refine λ_ r=>DA hd 15 10 rfl (mT r (beq_iff_eq.mpr xK)) r (mg mQ qG 6) (hrun:=λw=>tH 47 rfl h DC)<|?_;refine λ_ r=>DA hd 14 11 rfl (mT r (beq_iff_eq.mpr xK)) r (sU mQ qG 6 4)<|?_;refine λ_ r=>Xt hd 1 13 12 r (mT r (beq_iff_eq.mpr xK)) rfl rfl<|?_;refine λ_ r=>DA hd 12 13 rfl (mT r (beq_iff_eq.mpr xK)) r (vB ((J lV qG.toNat).X==(-1)))<|?_;refine oK hd 11 14 rfl (vB ((J lV qG.toNat).X==(-1))) (λw=>G7 (b:=((J lV qG.toNat).rT==0)) rfl bp (beq_iff_eq.mpr xK) bp)<|nl hd 10 [(15,76,vB ((J lV qG.toNat).X==(-1)))]<|λ_ r=>DA hd 9 16 rfl (mT r (beq_iff_eq.mpr BB)) r (aW mQ lV.length ur)<|?_;refine λ_ r=>DA hd 8 17 rfl (mT r (beq_iff_eq.mpr BB)) r (Z qG)<|?_;refine λ_ r=>DA hd 7 18 rfl (mT r (beq_iff_eq.mpr BB)) r (mg mQ qG 6) (hrun:=λw=>tH 47 rfl h DC)<|?_;refine λ_ r=>DA hd 6 19 rfl (mT r (beq_iff_eq.mpr BB)) r (sU mQ qG 6 5)<|?_;refine nl hd 4 [(23,2,aW mQ lV.length ur),(24,3,vB true)]<|λ_ r=>Xt hd 2 3 20 r (mT r (beq_iff_eq.mpr BB)) rfl rfl<|?_;refine λ_ r=>DA hd 2 21 rfl (mT r (beq_iff_eq.mpr BB)) r (vB ((J lV qG.toNat).V==1))<|?_;refine oK hd 1 22 rfl (vB ((J lV qG.toNat).V==1)) (λw=>G7 (b:=((J lV qG.toNat).X==(-1))) rfl bp (beq_iff_eq.mpr BB) bp)<|nl hd 0 [(25,4,vB ((J lV qG.toNat).V==1))]<|nJ<|tn<|wr<|br<|tr<|tr<|br<|tr<|?_;cases H;exact xw2 mQ ur h
        refine nK [(dW mQ,qG.toNat*6+1,[Z (J lV qG.toNat).rT]),(dW mQ,qG.toNat*6+4,[Z (J lV qG.toNat).X])] [3,4,6,10,11] 26 h (λh=>⟨⟨h.bL eP (f:=1) (aT DC) rfl,cz⟩,⟨h.bL eP (f:=4) (aT DC) rfl,cz⟩,cz⟩) λw h hd =>mU hd 23 61 [([0,1],aW mQ lV.length ur),([2],Z qG)]<|oK hd 22 3 rfl (mg mQ qG 6) (λw=>tH 47 rfl h DC)<|nl hd 21 [(4,65,sU mQ qG 6 1)]<|fW hd 0 20 5 rfl<|mU hd 18 61 [([6,7],vB ((J lV qG.toNat).rT==0))]<|λ_ r=>DA hd 17 8 rfl (mT r (beq_iff_eq.mpr xK)) r (aW mQ lV.length ur)<|?_;refine λ_ r=>DA hd 16 9 rfl (mT r (beq_iff_eq.mpr xK)) r (Z qG)<|?_;refine λ_ r=>DA hd 15 10 rfl (mT r (beq_iff_eq.mpr xK)) r (mg mQ qG 6) (hrun:=λw=>tH 47 rfl h DC)<|?_;refine λ_ r=>DA hd 14 11 rfl (mT r (beq_iff_eq.mpr xK)) r (sU mQ qG 6 4)<|?_;refine λ_ r=>Xt hd 1 13 12 r (mT r (beq_iff_eq.mpr xK)) rfl rfl<|?_;refine λ_ r=>DA hd 12 13 rfl (mT r (beq_iff_eq.mpr xK)) r (vB ((J lV qG.toNat).X==(-1)))<|?_;refine oK hd 11 14 rfl (vB ((J lV qG.toNat).X==(-1))) (λw=>G7 (b:=((J lV qG.toNat).rT==0)) rfl bp (beq_iff_eq.mpr xK) bp)<|nl hd 10 [(15,76,vB ((J lV qG.toNat).X==(-1)))]<|λ_ r=>eof hd 9 16 rfl (mT r (bN BB)) r<|?_;refine λ_ r=>eof hd 8 17 rfl (mT r (bN BB)) r<|?_;refine λ_ r=>eof hd 7 18 rfl (mT r (bN BB)) r<|?_;refine λ_ r=>eof hd 6 19 rfl (mT r (bN BB)) r<|?_;refine nl hd 4 [(23,2,aW mQ lV.length ur),(24,3,vB true)]<|λ_ r=>eof hd 3 20 rfl (mT r (bN BB)) r<|?_;refine λ_ r=>eof hd 2 21 rfl (mT r (bN BB)) r<|?_;refine oK hd 1 22 rfl (vB false) (λw=>I1 (b:=((J lV qG.toNat).X==(-1))) rfl bp (bN BB) bp)<|nl hd 0 [(25,4,vB false)]<|nJ<|tn<|wr<|br<|tr<|tr<|br<|tr<|?_;cases H;exact xw2 mQ ur h
       refine nK [(dW mQ,qG.toNat*6+1,[Z (J lV qG.toNat).rT])] [3,4] 26 h (λh=>⟨⟨h.bL eP (f:=1) (aT DC) rfl,cz⟩,cz⟩) λw h hd =>mU hd 23 61 [([0,1],aW mQ lV.length ur),([2],Z qG)]<|oK hd 22 3 rfl (mg mQ qG 6) (λw=>tH 47 rfl h DC)<|nl hd 21 [(4,65,sU mQ qG 6 1)]<|fW hd 0 20 5 rfl<|mU hd 18 61 [([6,7],vB ((J lV qG.toNat).rT==0))]<|λ_ r=>eof hd 17 8 rfl (mT r (bN xK)) r<|?_;refine λ_ r=>eof hd 16 9 rfl (mT r (bN xK)) r<|?_;refine λ_ r=>eof hd 15 10 rfl (mT r (bN xK)) r<|?_;refine λ_ r=>eof hd 14 11 rfl (mT r (bN xK)) r<|?_;refine λ_ r=>eof hd 13 12 rfl (mT r (bN xK)) r<|?_;refine λ_ r=>eof hd 12 13 rfl (mT r (bN xK)) r<|?_;refine oK hd 11 14 rfl (vB false) (λw=>I1 (b:=((J lV qG.toNat).rT==0)) rfl bp (bN xK) bp)<|nl hd 10 [(15,76,vB false)]<|λ_ r=>eof hd 9 16 rfl (mT r (c:=false) rfl) r<|?_;refine λ_ r=>eof hd 8 17 rfl (mT r (c:=false) rfl) r<|?_;refine λ_ r=>eof hd 7 18 rfl (mT r (c:=false) rfl) r<|?_;refine λ_ r=>eof hd 6 19 rfl (mT r (c:=false) rfl) r<|?_;refine nl hd 4 [(23,2,aW mQ lV.length ur),(24,3,vB true)]<|λ_ r=>eof hd 3 20 rfl (mT r (c:=false) rfl) r<|?_;refine λ_ r=>eof hd 2 21 rfl (mT r (c:=false) rfl) r<|?_;refine nl hd 0 [(22,83,vB false),(25,4,vB false)]<|nJ<|tn<|wr<|br<|tr<|tr<|br<|tr<|?_;cases H;exact xw2 mQ ur h
      refine wk<|bn<|tn<|wl<|ko [U,Z (wi (qG+1)),Z (wi (qG+1))]<|G<|?_;exact λ_ r=>⟨_,⟨(wi (qG+1)),H,r.fj h⟩,gU _⟩
     refine wx<|te<|te<|bh<|tn<|aL wc<|cu<|?_;cases H;exact xw2 mQ ur h
   refine aL wc<|cu<|tr<|?_;cases H;exact xw2 mQ ur (h.se 8 [3])
  refine aL lJ<|cu<|tr<|λ_ r=>Ji (aW none 0 0) (vB false) (vB true) rfl r<|?_;replace h:=h.fU (e:=47) (sz:=6) (enc:=gW);cases H;exact⟨none,0,rfl,h.se 9 [0]⟩
 refine aL lJ<|cu<|tr<|λ_ r=>Ji (aW none 0 0) (vB false) (vB false) rfl r<|?_;replace h:=h.fU (e:=47) (sz:=6) (enc:=gW);cases H;exact⟨none,0,rfl,h.se 9 [0]⟩
def bH(K:Nat)(O:bK)(r2:List aj):Nat->(List Int)->(List Bool)->Int->Option (Bool)
 | 0,_,_,_=>none
 | k1+1,oc,uo,dD=>(if dD<((r2.length:Nat):Int)then if bG dD r2.length then(if(J r2 dD.toNat).aE=9 then(bH K O r2 k1 oc uo (wi (dD+1)))else(if(J r2 dD.toNat).aE=10 then(bH K O r2 k1 oc uo (wi (dD+1)))else(if(J r2 dD.toNat).aE=11 then(bH K O r2 k1 oc uo (wi (dD+1)))else(if(J r2 dD.toNat).aE=3 then(bH K O r2 k1 oc uo (wi (dD+1)))else xF ((if(J r2 dD.toNat).Frame<0 then some (.inr false)else(if(J r2 dD.toNat).Frame>=(((List.replicate O.aF.toNat (0:Int)).length:Nat):Int)then some (.inr false)else some (.inl ())))) (if bG (J r2 dD.toNat).Frame uo.length then(if(J uo (J r2 dD.toNat).Frame.toNat)=((J r2 dD.toNat).aE==7)then eV ((if(J r2 dD.toNat).aE=2 then some ((J r2 dD.toNat).aE==2)else some ((J r2 dD.toNat).aE==6))) (λqG=>(if qG=true then xF ((if(J r2 dD.toNat).Frame>0 then(if(J r2 dD.toNat).X<0 then some (.inr false)else(if(J r2 dD.toNat).X>=(((List.replicate O.aF.toNat (0:Int)).length:Nat):Int)then some (.inr false)else some (.inl ())))else some (.inl ()))) (eV ((if(J r2 dD.toNat).Frame>0 then some ((J r2 dD.toNat).aE==2)else some false)) (λg42=>(if g42=true then if bG (J r2 dD.toNat).X oc.length then(if(J r2 dD.toNat).aE=6 then if bG (J r2 dD.toNat).Frame (oc.set (J r2 dD.toNat).X.toNat (wi ((J oc (J r2 dD.toNat).X.toNat)+1))).length then(if(J (oc.set (J r2 dD.toNat).X.toNat (wi ((J oc (J r2 dD.toNat).X.toNat)+1))) (J r2 dD.toNat).Frame.toNat)=0 then(bH K O r2 k1 (oc.set (J r2 dD.toNat).X.toNat (wi ((J oc (J r2 dD.toNat).X.toNat)+1))) uo (wi (dD+1)))else some false)else none else(bH K O r2 k1 (oc.set (J r2 dD.toNat).X.toNat (wi ((J oc (J r2 dD.toNat).X.toNat)+1))) uo (wi (dD+1))))else none else(if(J r2 dD.toNat).Frame>0 then if bG (J r2 dD.toNat).X oc.length then(if(J r2 dD.toNat).aE=6 then if bG (J r2 dD.toNat).Frame (oc.set (J r2 dD.toNat).X.toNat (wi ((J oc (J r2 dD.toNat).X.toNat)-1))).length then(if(J (oc.set (J r2 dD.toNat).X.toNat (wi ((J oc (J r2 dD.toNat).X.toNat)-1))) (J r2 dD.toNat).Frame.toNat)=0 then(bH K O r2 k1 (oc.set (J r2 dD.toNat).X.toNat (wi ((J oc (J r2 dD.toNat).X.toNat)-1))) uo (wi (dD+1)))else some false)else none else(bH K O r2 k1 (oc.set (J r2 dD.toNat).X.toNat (wi ((J oc (J r2 dD.toNat).X.toNat)-1))) uo (wi (dD+1))))else none else(if(J r2 dD.toNat).aE=6 then if bG (J r2 dD.toNat).Frame oc.length then(if(J oc (J r2 dD.toNat).Frame.toNat)=0 then(bH K O r2 k1 oc uo (wi (dD+1)))else some false)else none else(bH K O r2 k1 oc uo (wi (dD+1))))))))else(if(J r2 dD.toNat).aE=4 then(bH K O r2 k1 oc (uo.set (J r2 dD.toNat).Frame.toNat true) (wi (dD+1)))else(if(J r2 dD.toNat).aE=5 then if bG (J r2 dD.toNat).Frame oc.length then(if(J oc (J r2 dD.toNat).Frame.toNat)=0 then(bH K O r2 k1 oc (uo.set (J r2 dD.toNat).Frame.toNat false) (wi (dD+1)))else some false)else none else(if(J r2 dD.toNat).aE=7 then if bG (J r2 dD.toNat).Frame oc.length then(if(J oc (J r2 dD.toNat).Frame.toNat)=0 then(bH K O r2 k1 oc (uo.set (J r2 dD.toNat).Frame.toNat false) (wi (dD+1)))else some false)else none else(bH K O r2 k1 oc uo (wi (dD+1))))))))else some false)else none)))))else none else some true)
def kZ(K:Nat)(O:bK):Option (Bool):=
 pL (nu K O) (λr2 r3 r4=>xF ((if r4=true then(if r3=true then some (.inl ())else some (.inr r4))else some (.inr r4))) (if 0<=O.aF/\O.aF*8<=140737488355328 then if 0<=O.aF/\O.aF*1<=140737488355328 then(bH K O r2 K (List.replicate O.aF.toNat (0:Int)) (List.replicate O.aF.toNat false) 0)else none else none))
theorem vZ(H:kZ K O=some r0)(h:jb z (L) w)(fR:Bt L cX eU O.bY)(nN:bE L 1 cQ ef O.oY)(iE:bE L 1 cQ bC O.dy)(jx:bE L 1 cQ bQ O.fz)(JL:bE L 1 xg (some ⟨0,0,none⟩) Oy)(uq:bE L 5 gF (some ⟨1,0,none⟩) wS) :
 nR 13 #[oQ #[aW cX O.bY.length dM,aW ef O.oY.length fy,Z O.cZ,Z O.aF,Z O.fE,Z O.gB,aW bC O.dy.length cA,aW bQ O.fz.length cF]] w z (vB r0) (L):=by
 unfold kZ at H;refine ke func13 146 rfl λj=>ks<|kN h (#[aW cX O.bY.length dM,aW ef O.oY.length fy,Z O.cZ,Z O.aF,Z O.fE,Z O.gB,aW bC O.dy.length cA,aW bQ O.fz.length cF]) 32 λb1 w h=>bS<|G<|ks<|kM h<|tG H λr2 r3 r4 e5 H=>Wn (Bg (cX:=cX) (dM:=dM) (fR:=(yc.up 1 fR)) (ef:=ef) (fy:=fy) (nN:=(bE.up 1 nN)) (bC:=bC) (cA:=cA) (iE:=(bE.up 1 iE)) (bQ:=bQ) (cF:=cF) (jx:=(bE.up 1 jx)) (JL:=bE.up 1 JL) (uq:=bE.up 1 uq) (eU:=eU) e5 h :) λx6 x7 w h=>ko [.tuple #[aW x6 r2.length x7,vB r3,vB r4],U,U,U,U,U,U]<|G<|?_;obtain⟨o9,H,K7⟩:=Dx H;refine λ_ r=>cW (β:=Unit) (λ_ a w=>.inl ()=o9/\∃j,kI 146 (lk [(1,pA b1 0),(3,aW x6 r2.length x7)] j) a/\Fit z (aB (CX b1 O cX dM ef fy bC cA bQ cF::Du x6 x7 r2::L)) w) ?_ ?_
 ·refine qq r<|aL [U,vB (!r4),vB (!r4)]<|qI H (λod H=>?_) λod H=>?_
  ·refine cS (nT od) [20,21] [vB r3,vB (!r3)]<|ny (nT od) (vB (!r3))<|G<|DN H (λuS H=>?_) λuS H=>?_
   ·refine gw<|?_;exact λ_ r=>⟨(),gM H,r.fj (h.se 2 [1,0])⟩
   refine aL dm<|cu<|tr<|λ_ r=>qD (vB r4) rfl r<|?_;replace H:=uD H K7;cases H;exact⟨rfl,h.se 2 []⟩
  refine bW (nF od) [20,21]<|nv (nF od) (vB true)<|G<|λ_ r=>fV r (b:=true) rfl<|qq r<|aL dm<|cu<|tr<|λ_ r=>qD (vB r4) rfl r<|?_;replace H:=uD H K7;cases H;exact⟨rfl,h.se 2 []⟩
 clear h r;rintro _ a w ⟨rfl,j,r,h⟩;replace H:=Dy K7;refine qq r<|aL dm<|kL h 3<|qg H λCE H=>λ_ r=>oX (i:=O.aF) (bytes:=8) (zc:=#[Z 0]) (0:Int) (wn rfl) rfl rfl r rfl bp bp CE aO (E:=3) bp bp rfl rfl h λnh w _ h r=>qq r<|bS<|G<|aL dm<|kL (h.pick 1) 3<|qg H λwX H=>λ_ r=>oX (i:=O.aF) (bytes:=1) (zc:=#[vB false]) false (wn rfl) rfl rfl r rfl bp bp wX Aq (E:=4) bp bp rfl rfl h λCq w _ h r=>qq r<|bS<|G<|wq<|iq<|wb<|λ_ r=>dO (β:=Nat) id (λm a w=>∃oc:List Int,∃uo:List Bool,∃dD:Int,(bH K O r2 m oc uo dD)=some r0/\∃j,kI 146 (lk [(3,aW x6 r2.length x7),(6,aW nh (List.replicate O.aF.toNat (0:Int)).length O.aF.toNat),(7,aW Cq (List.replicate O.aF.toNat false).length O.aF.toNat),(8,Z dD)] j) a/\Fit z (aB (Du x6 x7 r2::rowOf 3 1 cQ (aW nh (List.replicate O.aF.toNat (0:Int)).length O.aF.toNat) oc::rowOf 4 1 xg (aW Cq (List.replicate O.aF.toNat false).length O.aF.toNat) uo::L)) w) K ⟨(List.replicate O.aF.toNat (0:Int)),(List.replicate O.aF.toNat false),0,H,r.fj (h.se 4 [3,1,0])⟩<|?_;clear h r H;rintro k1 a w ⟨oc,uo,dD,H,j,r,h⟩;cases k1 with
 | zero=>exact absurd H (by simp[bH])
 | succ k1 =>
  rw[bH]at H;refine qq r<|wq<|aL [U,U,Z ((r2.length:Nat):Int),dx (dD<((r2.length:Nat):Int))]<|G<|eB H (λsW H=>?_) λsW H=>?_
  ·refine gw<|wq<|wb<|ks<|qg H λlO H=>ko dm<|ki h lO<|xm (dZ (J r2 dD.toNat)) (cs:=dB (J r2 dD.toNat)) ⟨h.bL eP (f:=0) (aT lO) rfl,h.bL eP (f:=1) (aT lO) rfl,h.bL eP (f:=2) (aT lO) rfl,h.bL eP (f:=3) (aT lO) rfl,h.bL eP (f:=4) (aT lO) rfl,h.bL eP (f:=5) (aT lO) rfl,cz⟩<|?_;refine kN h (gg) 47 λJo w h=>kA h (fC Jo (J r2 dD.toNat)) λw h=>G<|aL [U]<|kL h 3<|bS<|G<|wq<|aL [U]<|kL h 2<|ko [vB ((J r2 dD.toNat).aE==9),vB ((J r2 dD.toNat).aE==9)]<|qI H (λC0 H=>?_) λC0 H=>?_
   ·refine bW (beq_iff_eq.mpr C0) [48,49,50]<|nv (beq_iff_eq.mpr C0) (vB true)<|bS<|bW (rfl:true=true) [53,54,55]<|ko dm<|bW (rfl:true=true) [58,59,60]<|bS<|G<|λ_ r=>fV r (b:=true) rfl<|qq r<|wx<|te<|bh<|tn<|wl<|ko [U,Z (wi (dD+1)),Z (wi (dD+1))]<|G<|?_;exact λ_ r=>⟨_,⟨oc,uo,(wi (dD+1)),H,r.fj (h.se 4 [1,2,3])⟩,gU _⟩
   refine cS (bN C0) [48] [pA Jo 2]<|tc (bN C0) h 2<|cS (bN C0) [50] [vB ((J r2 dD.toNat).aE==10)]<|ny (bN C0) (vB ((J r2 dD.toNat).aE==10))<|ko [vB ((J r2 dD.toNat).aE==10)]<|qI H (λw4 H=>?_) λw4 H=>?_
   ·refine bW (beq_iff_eq.mpr w4) [53,54,55]<|nv (beq_iff_eq.mpr w4) (vB true)<|bS<|bW (rfl:true=true) [58,59,60]<|bS<|G<|λ_ r=>fV r (b:=true) rfl<|qq r<|wx<|te<|bh<|tn<|wl<|ko [U,Z (wi (dD+1)),Z (wi (dD+1))]<|G<|?_;exact λ_ r=>⟨_,⟨oc,uo,(wi (dD+1)),H,r.fj (h.se 4 [1,2,3])⟩,gU _⟩
   refine cS (bN w4) [53] [pA Jo 2]<|tc (bN w4) h 2<|cS (bN w4) [55] [vB ((J r2 dD.toNat).aE==11)]<|ny (bN w4) (vB ((J r2 dD.toNat).aE==11))<|ko [vB ((J r2 dD.toNat).aE==11)]<|qI H (λxN H=>?_) λxN H=>?_
   ·refine bW (beq_iff_eq.mpr xN) [58,59,60]<|nv (beq_iff_eq.mpr xN) (vB true)<|G<|λ_ r=>fV r (b:=true) rfl<|qq r<|wx<|te<|bh<|tn<|wl<|ko [U,Z (wi (dD+1)),Z (wi (dD+1))]<|G<|?_;exact λ_ r=>⟨_,⟨oc,uo,(wi (dD+1)),H,r.fj (h.se 4 [1,2,3])⟩,gU _⟩
   refine cS (bN xN) [58] [pA Jo 2]<|tc (bN xN) h 2<|cS (bN xN) [60] [vB ((J r2 dD.toNat).aE==3)]<|ny (bN xN) (vB ((J r2 dD.toNat).aE==3))<|G<|eB H (λxH H=>?_) λxH H=>?_
   ·refine wx<|te<|bh<|tn<|wl<|ko [U,Z (wi (dD+1)),Z (wi (dD+1))]<|G<|?_;exact λ_ r=>⟨_,⟨oc,uo,(wi (dD+1)),H,r.fj (h.se 4 [1,2,3])⟩,gU _⟩
   refine gw<|?_;obtain⟨o27,H,Y7⟩:=Dx H;refine λ_ r=>cW (β:=Unit) (λ_ a w=>.inl ()=o27/\∃j,kI 146 (lk [(3,aW x6 r2.length x7),(6,aW nh (List.replicate O.aF.toNat (0:Int)).length O.aF.toNat),(7,aW Cq (List.replicate O.aF.toNat false).length O.aF.toNat),(8,Z dD),(9,pA Jo 0),(10,Z (J r2 dD.toNat).Frame)] j) a/\Fit z (aB (Du x6 x7 r2::rowOf 3 1 cQ (aW nh (List.replicate O.aF.toNat (0:Int)).length O.aF.toNat) oc::rowOf 4 1 xg (aW Cq (List.replicate O.aF.toNat false).length O.aF.toNat) uo::fC Jo (J r2 dD.toNat)::L)) w) ?_ ?_
   ·refine qq r<|aL [U,dx ((J r2 dD.toNat).Frame<0),dx ((J r2 dD.toNat).Frame<0)]<|qI H (λzX H=>?_) λzX H=>?_
    ·refine bW (dT zX) [65,66,67,68]<|nv (dT zX) (vB true)<|G<|λ_ r=>fV r (b:=true) rfl<|qq r<|iq<|wr<|tr<|br<|tr<|tr<|br<|tr<|λ_ r=>qD (vB false) rfl r<|?_;replace H:=uD H Y7;cases H;exact⟨rfl,h.se 4 []⟩
    refine cS (dF zX) [65,66,67,68] [Z (J r2 dD.toNat).Frame,aW nh (List.replicate O.aF.toNat (0:Int)).length O.aF.toNat,Z (((List.replicate O.aF.toNat (0:Int)).length:Nat):Int),dx ((J r2 dD.toNat).Frame>=(((List.replicate O.aF.toNat (0:Int)).length:Nat):Int))]<|ny (dF zX) (dx ((J r2 dD.toNat).Frame>=(((List.replicate O.aF.toNat (0:Int)).length:Nat):Int)))<|G<|eB H (λB8 H=>?_) λB8 H=>?_
    ·refine iq<|wr<|tr<|br<|tr<|tr<|br<|tr<|λ_ r=>qD (vB false) rfl r<|?_;replace H:=uD H Y7;cases H;exact⟨rfl,h.se 4 []⟩
    refine gw<|?_;exact λ_ r=>⟨(),gM H,r.fj (h.se 4 [1,2,3,0])⟩
   clear h r;rintro _ a w ⟨rfl,j,r,h⟩;replace H:=Dy Y7;refine qq r<|wq<|wq<|qg H λtd H=>nK [(dW Cq,(J r2 dD.toNat).Frame.toNat*1,[vB (J uo (J r2 dD.toNat).Frame.toNat)]),(Jo,2,[Z (J r2 dD.toNat).aE])] [2,4,6] 8 h (λh=>⟨⟨(h.pick 2).bL Aq (f:=0) (aT td) rfl,cz⟩,⟨(h.pick 3).cell 2 rfl,cz⟩,cz⟩) λw h hd =>nl hd 6 [(0,70,aW Cq (List.replicate O.aF.toNat false).length O.aF.toNat),(1,71,Z (J r2 dD.toNat).Frame)]<|oK hd 5 2 rfl (pA (dW Cq) ((J r2 dD.toNat).Frame.toNat*1)) (λw=>tH 4 rfl (h.pick 2) td)<|nl hd 4 [(4,74,pA Jo 2)]<|fW hd 0 3 3 rfl<|fW hd 1 2 5 rfl<|nl hd 0 [(6,76,vB ((J r2 dD.toNat).aE==7)),(7,77,vB (!((J uo (J r2 dD.toNat).Frame.toNat)==((J r2 dD.toNat).aE==7))))]<|nJ<|tn<|qI H (λuT H=>?_) λuT H=>?_
   ·refine λ_ r=>iO r (b:=(!((J uo (J r2 dD.toNat).Frame.toNat)==((J r2 dD.toNat).aE==7)))) (by rw[show((J uo (J r2 dD.toNat).Frame.toNat)==((J r2 dD.toNat).aE==7))=true from(beq_iff_eq.mpr uT)];rfl)<|qq r<|gw<|aL [U]<|kL (h.pick 3) 2<|G<|wb<|DM H λo34 H aew=>λ_ r=>cW (β:=Unit) (λ_ a w=>∃qG:Bool,qG=o34/\∃j,kI 146 (lk [(3,aW x6 r2.length x7),(6,aW nh (List.replicate O.aF.toNat (0:Int)).length O.aF.toNat),(7,aW Cq (List.replicate O.aF.toNat false).length O.aF.toNat),(8,Z dD),(9,pA Jo 0),(10,Z (J r2 dD.toNat).Frame),(79,Z (J r2 dD.toNat).aE),(80,vB qG)] j) a/\Fit z (aB (Du x6 x7 r2::rowOf 3 1 cQ (aW nh (List.replicate O.aF.toNat (0:Int)).length O.aF.toNat) oc::rowOf 4 1 xg (aW Cq (List.replicate O.aF.toNat false).length O.aF.toNat) uo::fC Jo (J r2 dD.toNat)::L)) w) ?_ ?_
    ·refine qq r<|aL [vB ((J r2 dD.toNat).aE==2),vB ((J r2 dD.toNat).aE==2)]<|G<|eB H (λHs H=>?_) λHs H=>?_
     ·refine gw<|?_;exact λ_ r=>⟨(),((J r2 dD.toNat).aE==2),gM H,r.fj h⟩
     refine wl<|ko [vB ((J r2 dD.toNat).aE==6),vB ((J r2 dD.toNat).aE==6)]<|G<|?_;exact λ_ r=>⟨(),((J r2 dD.toNat).aE==6),gM H,r.fj h⟩
    clear h r;rintro _ a w ⟨qG,rfl,j,r,h⟩;replace H:=DJ aew;refine qq r<|ED H (λKg H=>?_) λKg H=>?_
    ·obtain⟨o38,H,Y8⟩:=Dx H;refine λ_ r=>cW (β:=Unit) (λ_ a w=>.inl ()=o38/\∃j,kI 146 (lk [(3,aW x6 r2.length x7),(6,aW nh (List.replicate O.aF.toNat (0:Int)).length O.aF.toNat),(7,aW Cq (List.replicate O.aF.toNat false).length O.aF.toNat),(8,Z dD),(9,pA Jo 0),(10,Z (J r2 dD.toNat).Frame)] j) a/\Fit z (aB (Du x6 x7 r2::rowOf 3 1 cQ (aW nh (List.replicate O.aF.toNat (0:Int)).length O.aF.toNat) oc::rowOf 4 1 xg (aW Cq (List.replicate O.aF.toNat false).length O.aF.toNat) uo::fC Jo (J r2 dD.toNat)::L)) w) ?_ ?_
     ·refine qq r<|aL [U,dx ((J r2 dD.toNat).Frame>0),dx ((J r2 dD.toNat).Frame>0)]<|qI H (λCF H=>?_) λCF H=>?_
      ·refine cS (dT CF) [86] [pA Jo 4]<|tc (dT CF) (h.pick 3) 4<|cS (dT CF) [88,89] [dx ((J r2 dD.toNat).X<0),dx ((J r2 dD.toNat).X<0)]<|qI H (λDC H=>?_) λDC H=>?_
       ·refine bW (dT DC) [90,91,92,93,94]<|λ_ r=>My (mT r (dT CF)) r (vB true) (G7 (b:=(decide ((J r2 dD.toNat).X<0))) rfl bp (dT DC) bp)<|?_;refine nv (dT CF) (vB true)<|G<|λ_ r=>fV r (b:=true) rfl<|qq r<|iq<|wr<|tr<|br<|br<|tr<|tr<|br<|tr<|λ_ r=>qD (vB false) rfl r<|?_;replace H:=uD H Y8;cases H;exact⟨rfl,h.se 4 []⟩
       refine cS (dF DC) [90] [pA Jo 4]<|tc (dF DC) (h.pick 3) 4<|cS (dF DC) [92,93,94] [aW nh (List.replicate O.aF.toNat (0:Int)).length O.aF.toNat,Z (((List.replicate O.aF.toNat (0:Int)).length:Nat):Int),dx ((J r2 dD.toNat).X>=(((List.replicate O.aF.toNat (0:Int)).length:Nat):Int))]<|λ_ r=>My (mT r (dT CF)) r (dx ((J r2 dD.toNat).X>=(((List.replicate O.aF.toNat (0:Int)).length:Nat):Int))) (I1 (b:=(decide ((J r2 dD.toNat).X<0))) rfl bp (dF DC) bp)<|?_;refine nv (dT CF) (dx ((J r2 dD.toNat).X>=(((List.replicate O.aF.toNat (0:Int)).length:Nat):Int)))<|G<|eB H (λxK H=>?_) λxK H=>?_
       ·refine iq<|wr<|tr<|br<|br<|tr<|tr<|br<|tr<|λ_ r=>qD (vB false) rfl r<|?_;replace H:=uD H Y8;cases H;exact⟨rfl,h.se 4 []⟩
       refine gw<|?_;exact λ_ r=>⟨(),gM H,r.fj h⟩
      refine bW (dF CF) [86,87,88,89]<|KW false [90,91,92,93,94]<|bW (dF CF) [95]<|ny (dF CF) (vB false)<|G<|λ_ r=>iO r (b:=false) rfl<|qq r<|gw<|?_;exact λ_ r=>⟨(),gM H,r.fj h⟩
     clear h r;rintro _ a w ⟨rfl,j,r,h⟩;replace H:=Dy Y8;refine qq r<|wq<|DM H λo44 H YX=>λ_ r=>cW (β:=Unit) (λ_ a w=>∃g42:Bool,g42=o44/\∃j,kI 146 (lk [(3,aW x6 r2.length x7),(6,aW nh (List.replicate O.aF.toNat (0:Int)).length O.aF.toNat),(7,aW Cq (List.replicate O.aF.toNat false).length O.aF.toNat),(8,Z dD),(9,pA Jo 0),(10,Z (J r2 dD.toNat).Frame),(103,vB g42)] j) a/\Fit z (aB (Du x6 x7 r2::rowOf 3 1 cQ (aW nh (List.replicate O.aF.toNat (0:Int)).length O.aF.toNat) oc::rowOf 4 1 xg (aW Cq (List.replicate O.aF.toNat false).length O.aF.toNat) uo::fC Jo (J r2 dD.toNat)::L)) w) ?_ ?_
     ·refine qq r<|wl<|ko [U,dx ((J r2 dD.toNat).Frame>0),dx ((J r2 dD.toNat).Frame>0)]<|qI H (λJA H=>?_) λJA H=>?_
      ·refine cS (dT JA) [100] [pA Jo 2]<|tc (dT JA) (h.pick 3) 2<|cS (dT JA) [102] [vB ((J r2 dD.toNat).aE==2)]<|nv (dT JA) (vB ((J r2 dD.toNat).aE==2))<|G<|?_;exact λ_ r=>⟨(),((J r2 dD.toNat).aE==2),gM H,r.fj h⟩
      refine bW (dF JA) [100,101,102]<|ny (dF JA) (vB false)<|G<|?_;exact λ_ r=>⟨(),false,gM H,r.fj h⟩
     clear h r;rintro _ a w ⟨g42,rfl,j,r,h⟩;replace H:=DJ YX;refine qq r<|ED H (λSG H=>?_) λSG H=>?_
     ·refine wl<|ko dm<|kL (h.pick 3) 4<|qg H λOE H=>ki (h.pick 1) OE<|xl (Z (J oc (J r2 dD.toNat).X.toNat)) ((h.pick 1).bL aO (f:=0) (aT OE) rfl)<|?_;refine ko [Z (wi ((J oc (J r2 dD.toNat).X.toNat)+1))]<|ki (h.pick 1) OE<|qh h.m1 λh=>λ_ r=>EN (wn rfl) r aO h (J r2 dD.toNat).X.toNat 0 (Z (wi ((J oc (J r2 dD.toNat).X.toNat)+1))) (J oc (J r2 dD.toNat).X.toNat) (wi ((J oc (J r2 dD.toNat).X.toNat)+1)) (aT OE) λw h=>qq r<|G<|aL [U]<|kL (h.pick 3) 2<|ko [vB ((J r2 dD.toNat).aE==6),vB ((J r2 dD.toNat).aE==6)]<|qI H (λKc H=>?_) λKc H=>?_
      ·refine qg H λEV H=>cS (beq_iff_eq.mpr Kc) [124,125] [aW nh (List.replicate O.aF.toNat (0:Int)).length O.aF.toNat,Z (J r2 dD.toNat).Frame]<|λ_ r=>My (mT r (beq_iff_eq.mpr Kc)) r (pA (dW nh) ((J r2 dD.toNat).Frame.toNat*1)) (tH 3 rfl h EV)<|?_;refine λ_ r=>ld (mT r (beq_iff_eq.mpr Kc)) r (Z (J (oc.set (J r2 dD.toNat).X.toNat (wi ((J oc (J r2 dD.toNat).X.toNat)+1))) (J r2 dD.toNat).Frame.toNat)) (h.bL aO (f:=0) (aT EV) rfl)<|?_;refine cS (beq_iff_eq.mpr Kc) [128] [vB ((J (oc.set (J r2 dD.toNat).X.toNat (wi ((J oc (J r2 dD.toNat).X.toNat)+1))) (J r2 dD.toNat).Frame.toNat) != 0)]<|nv (beq_iff_eq.mpr Kc) (vB ((J (oc.set (J r2 dD.toNat).X.toNat (wi ((J oc (J r2 dD.toNat).X.toNat)+1))) (J r2 dD.toNat).Frame.toNat) != 0))<|G<|qx H (λOC H=>?_) λOC H=>?_
       ·refine wk<|bn<|bn<|tn<|wl<|ko [U,Z (wi (dD+1)),Z (wi (dD+1))]<|G<|?_;exact λ_ r=>⟨_,⟨(oc.set (J r2 dD.toNat).X.toNat (wi ((J oc (J r2 dD.toNat).X.toNat)+1))),uo,(wi (dD+1)),H,r.fj (h.se 4 [1,0,2])⟩,gU _⟩
       refine iq<|wr<|br<|br<|tr<|tr<|br<|tr<|?_;cases H;exact gR (h.se 4 [])
      refine bW (bN Kc) [124,125,126,127,128]<|ny (bN Kc) (vB false)<|G<|λ_ r=>iO r (b:=false) rfl<|qq r<|wk<|bn<|bn<|tn<|wl<|ko [U,Z (wi (dD+1)),Z (wi (dD+1))]<|G<|?_;exact λ_ r=>⟨_,⟨(oc.set (J r2 dD.toNat).X.toNat (wi ((J oc (J r2 dD.toNat).X.toNat)+1))),uo,(wi (dD+1)),H,r.fj (h.se 4 [1,0,2])⟩,gU _⟩
     refine aL [U,dx ((J r2 dD.toNat).Frame>0)]<|G<|eB H (λc51 H=>?_) λc51 H=>?_
     ·refine wl<|ko dm<|kL (h.pick 3) 4<|qg H λWG H=>ki (h.pick 1) WG<|xl (Z (J oc (J r2 dD.toNat).X.toNat)) ((h.pick 1).bL aO (f:=0) (aT WG) rfl)<|?_;refine ko [Z (wi ((J oc (J r2 dD.toNat).X.toNat)-1))]<|ki (h.pick 1) WG<|qh h.m1 λh=>λ_ r=>EN (wn rfl) r aO h (J r2 dD.toNat).X.toNat 0 (Z (wi ((J oc (J r2 dD.toNat).X.toNat)-1))) (J oc (J r2 dD.toNat).X.toNat) (wi ((J oc (J r2 dD.toNat).X.toNat)-1)) (aT WG) λw h=>qq r<|G<|aL [U]<|kL (h.pick 3) 2<|ko [vB ((J r2 dD.toNat).aE==6),vB ((J r2 dD.toNat).aE==6)]<|qI H (λW8 H=>?_) λW8 H=>?_
      ·refine qg H λc54 H=>cS (beq_iff_eq.mpr W8) [124,125] [aW nh (List.replicate O.aF.toNat (0:Int)).length O.aF.toNat,Z (J r2 dD.toNat).Frame]<|λ_ r=>My (mT r (beq_iff_eq.mpr W8)) r (pA (dW nh) ((J r2 dD.toNat).Frame.toNat*1)) (tH 3 rfl h c54)<|?_;refine λ_ r=>ld (mT r (beq_iff_eq.mpr W8)) r (Z (J (oc.set (J r2 dD.toNat).X.toNat (wi ((J oc (J r2 dD.toNat).X.toNat)-1))) (J r2 dD.toNat).Frame.toNat)) (h.bL aO (f:=0) (aT c54) rfl)<|?_;refine cS (beq_iff_eq.mpr W8) [128] [vB ((J (oc.set (J r2 dD.toNat).X.toNat (wi ((J oc (J r2 dD.toNat).X.toNat)-1))) (J r2 dD.toNat).Frame.toNat) != 0)]<|nv (beq_iff_eq.mpr W8) (vB ((J (oc.set (J r2 dD.toNat).X.toNat (wi ((J oc (J r2 dD.toNat).X.toNat)-1))) (J r2 dD.toNat).Frame.toNat) != 0))<|G<|qx H (λXJ H=>?_) λXJ H=>?_
       ·refine wk<|bn<|bn<|tn<|wl<|ko [U,Z (wi (dD+1)),Z (wi (dD+1))]<|G<|?_;exact λ_ r=>⟨_,⟨(oc.set (J r2 dD.toNat).X.toNat (wi ((J oc (J r2 dD.toNat).X.toNat)-1))),uo,(wi (dD+1)),H,r.fj (h.se 4 [1,0,2])⟩,gU _⟩
       refine iq<|wr<|br<|br<|tr<|tr<|br<|tr<|?_;cases H;exact gR (h.se 4 [])
      refine bW (bN W8) [124,125,126,127,128]<|ny (bN W8) (vB false)<|G<|λ_ r=>iO r (b:=false) rfl<|qq r<|wk<|bn<|bn<|tn<|wl<|ko [U,Z (wi (dD+1)),Z (wi (dD+1))]<|G<|?_;exact λ_ r=>⟨_,⟨(oc.set (J r2 dD.toNat).X.toNat (wi ((J oc (J r2 dD.toNat).X.toNat)-1))),uo,(wi (dD+1)),H,r.fj (h.se 4 [1,0,2])⟩,gU _⟩
     refine gw<|aL [U]<|kL (h.pick 3) 2<|ko [vB ((J r2 dD.toNat).aE==6),vB ((J r2 dD.toNat).aE==6)]<|qI H (λRd H=>?_) λRd H=>?_
     ·refine qg H λRb H=>cS (beq_iff_eq.mpr Rd) [124,125] [aW nh (List.replicate O.aF.toNat (0:Int)).length O.aF.toNat,Z (J r2 dD.toNat).Frame]<|λ_ r=>My (mT r (beq_iff_eq.mpr Rd)) r (pA (dW nh) ((J r2 dD.toNat).Frame.toNat*1)) (tH 3 rfl (h.pick 1) Rb)<|?_;refine λ_ r=>ld (mT r (beq_iff_eq.mpr Rd)) r (Z (J oc (J r2 dD.toNat).Frame.toNat)) ((h.pick 1).bL aO (f:=0) (aT Rb) rfl)<|?_;refine cS (beq_iff_eq.mpr Rd) [128] [vB ((J oc (J r2 dD.toNat).Frame.toNat) != 0)]<|nv (beq_iff_eq.mpr Rd) (vB ((J oc (J r2 dD.toNat).Frame.toNat) != 0))<|G<|qx H (λc58 H=>?_) λc58 H=>?_
      ·refine wk<|bn<|bn<|tn<|wl<|ko [U,Z (wi (dD+1)),Z (wi (dD+1))]<|G<|?_;exact λ_ r=>⟨_,⟨oc,uo,(wi (dD+1)),H,r.fj (h.se 4 [0,1,2])⟩,gU _⟩
      refine iq<|wr<|br<|br<|tr<|tr<|br<|tr<|?_;cases H;exact gR (h.se 4 [])
     refine bW (bN Rd) [124,125,126,127,128]<|ny (bN Rd) (vB false)<|G<|λ_ r=>iO r (b:=false) rfl<|qq r<|wk<|bn<|bn<|tn<|wl<|ko [U,Z (wi (dD+1)),Z (wi (dD+1))]<|G<|?_;exact λ_ r=>⟨_,⟨oc,uo,(wi (dD+1)),H,r.fj (h.se 4 [0,1,2])⟩,gU _⟩
    refine aL [vB ((J r2 dD.toNat).aE==4),vB ((J r2 dD.toNat).aE==4)]<|G<|eB H (λUQ H=>?_) λUQ H=>?_
    ·refine wl<|ko dm<|ki (h.pick 2) td<|qh h.m2 λh=>λ_ r=>EN (wn rfl) r Aq h (J r2 dD.toNat).Frame.toNat 0 (vB true) (J uo (J r2 dD.toNat).Frame.toNat) true (aT td) λw h=>qq r<|kl<|bn<|bn<|tn<|wl<|ko [U,Z (wi (dD+1)),Z (wi (dD+1))]<|G<|?_;exact λ_ r=>⟨_,⟨oc,(uo.set (J r2 dD.toNat).Frame.toNat true),(wi (dD+1)),H,r.fj (h.se 4 [1,2,0])⟩,gU _⟩
    refine wq<|aL [vB ((J r2 dD.toNat).aE==5),vB ((J r2 dD.toNat).aE==5)]<|G<|eB H (λME H=>?_) λME H=>?_
    ·refine gw<|λ_ r=>fV r (beq_iff_eq.mpr ME)<|qq r<|wq<|ks<|qg H λc61 H=>ko dm<|ki (h.pick 1) c61<|xl (Z (J oc (J r2 dD.toNat).Frame.toNat)) ((h.pick 1).bL aO (f:=0) (aT c61) rfl)<|?_;refine ko [vB ((J oc (J r2 dD.toNat).Frame.toNat) != 0)]<|G<|qx H (λc62 H=>?_) λc62 H=>?_
     ·refine gw<|wl<|ko dm<|ki (h.pick 2) td<|qh h.m2 λh=>λ_ r=>EN (wn rfl) r Aq h (J r2 dD.toNat).Frame.toNat 0 (vB false) (J uo (J r2 dD.toNat).Frame.toNat) false (aT td) λw h=>qq r<|kl<|bn<|bn<|tn<|wl<|ko [U,Z (wi (dD+1)),Z (wi (dD+1))]<|G<|?_;exact λ_ r=>⟨_,⟨oc,(uo.set (J r2 dD.toNat).Frame.toNat false),(wi (dD+1)),H,r.fj (h.se 4 [1,2,0])⟩,gU _⟩
     refine iq<|wr<|tr<|br<|br<|tr<|tr<|br<|tr<|?_;cases H;exact gR (h.se 4 [])
    refine wl<|ko [vB ((J r2 dD.toNat).aE==7),vB ((J r2 dD.toNat).aE==7)]<|G<|eB H (λc63 H=>?_) λc63 H=>?_
    ·refine wq<|ks<|qg H λZK H=>ko dm<|ki (h.pick 1) ZK<|xl (Z (J oc (J r2 dD.toNat).Frame.toNat)) ((h.pick 1).bL aO (f:=0) (aT ZK) rfl)<|?_;refine ko [vB ((J oc (J r2 dD.toNat).Frame.toNat) != 0)]<|G<|qx H (λWJ H=>?_) λWJ H=>?_
     ·refine gw<|wl<|ko dm<|ki (h.pick 2) td<|qh h.m2 λh=>λ_ r=>EN (wn rfl) r Aq h (J r2 dD.toNat).Frame.toNat 0 (vB false) (J uo (J r2 dD.toNat).Frame.toNat) false (aT td) λw h=>qq r<|kl<|bn<|bn<|tn<|wl<|ko [U,Z (wi (dD+1)),Z (wi (dD+1))]<|G<|?_;exact λ_ r=>⟨_,⟨oc,(uo.set (J r2 dD.toNat).Frame.toNat false),(wi (dD+1)),H,r.fj (h.se 4 [1,2,0])⟩,gU _⟩
     refine iq<|wr<|tr<|br<|br<|tr<|tr<|br<|tr<|?_;cases H;exact gR (h.se 4 [])
    refine wk<|bn<|bn<|tn<|wl<|ko [U,Z (wi (dD+1)),Z (wi (dD+1))]<|G<|?_;exact λ_ r=>⟨_,⟨oc,uo,(wi (dD+1)),H,r.fj (h.se 4 [0,1,2])⟩,gU _⟩
   refine λ_ r=>fV r (b:=(!((J uo (J r2 dD.toNat).Frame.toNat)==((J r2 dD.toNat).aE==7)))) (by rw[show((J uo (J r2 dD.toNat).Frame.toNat)==((J r2 dD.toNat).aE==7))=false from(bN uT)];rfl)<|qq r<|iq<|wr<|tr<|br<|tr<|tr<|br<|tr<|?_;cases H;exact gR (h.se 4 [])
  refine wx<|te<|te<|bh<|tn<|iq<|wr<|?_;cases H;exact gR (h.se 3 [])
end
open Go SL GX
section
variable {K:Nat}
theorem VY{x n:Int}(h1:1<=n)(h2:n<=1000) :∃i:Nat,uX x n=some (i:Int)/\ij x n=some (i:Int)/\(i:Int)<n:=by
 obtain⟨i,e1,e2⟩:=Pr (x:=x) h1 h2;refine⟨i,?_,e1,e2⟩;rw[<-e1];unfold uX ij;rw[ez]
theorem PA{f m afu:Nat}(hf:f<=m)(hm:m<=4096)(hG:cq f m afu=m)(hT:tq f m afu<=100000):∀(d g k:Nat) (z:Int),g+d=afu->d<k->(∀x,g<=x->x<afu->cq f m x<m)->0<=z->z+((tq f m afu-tq f m g:Nat):Int)<=1000000->tq f m g<=tq f m afu->
 oF K (m:Int) k z (cq f m g:Nat)=some (z+((tq f m afu-tq f m g:Nat):Int))
 | d,g,k,z,hd,hk,hx,hz,hz2,ht=>by
  obtain⟨k,rfl⟩ :∃n,k=n+1:=⟨k-1,I⟩;have hl:=Pp hf g;rw[oF];by_cases e:g=afu
  ·subst e;rw[hG,ez,Nat.sub_self];simp
  ·obtain⟨d,rfl⟩ :∃n,d=n+1:=⟨d-1,I⟩;have h1:=hx g (j5 _) I;have hn:cq f m (g+1)=min (2*cq f m g) m:=rfl;have hT':tq f m (g+1)=tq f m g+1+cq f m (g+1):=rfl;have VK:∀y,g+1+y<=afu->tq f m (g+1)<=tq f m (g+1+y):=λy=>by
    induction y with
    | zero=>intro _;exact j5 _
    | succ y ih=>intro h;have:=ih I;show _<=tq f m (g+1+y)+1+cq f m (g+1+y+1);omega
   have hle:tq f m (g+1)<=tq f m afu:=by have:=VK (afu-(g+1)) I;rwa [show g+1+(afu-(g+1))=afu by omega]at this
   have hc:(if(m:Int)<wi ((2:Int)*((cq f m g:Nat):Int))then(m:Int)else wi ((2:Int)*((cq f m g:Nat):Int)))=((cq f m (g+1):Nat):Int):=by
    rw[eI I];split<;>omega
   rw[pR,hc,eI (x:=(1:Int)+_) I,eI (x:=z+_) I,
    PA hf hm hG hT d (g+1) k _ I I (λx h1 h2=>hx x I h2) I I hle]
   congr 1;omega
theorem Y9{N F:Nat}{kY:eK}{f m:Nat}(hl:WR kY.cr kY.dQ kY.jE)(hF:kY.cr=F)(hf:kY.dQ=f)(hm:kY.jE=m)(ZL:1<=N)(hN:N<=64)(hK:5000<K) :
 ∃afu,cq f m afu=m/\vt K (N:Int) kY=some ((4+10*F+N+N*(4+f+tq f m afu):Nat):Int)/\4+10*F+N+N*(4+f+tq f m afu)<=1048576:=by
 have f1:=hl.f1;have f2:=hl.f2;have a1:=hl.a1;have a2:=hl.a2;have m2:=hl.m2;have WV:f<=m:=by omega
 have h1:1<=f:=by omega
 obtain⟨G',x1,x2,x3,x4,x5⟩:=VL (K:=K) (N:=N) (F:=F) (kY:=kY) (f:=f) (m:=m) hl hF hf hm ZL hN hK;obtain⟨afu,g1,g2,g3,g4,g5,g6,g7⟩:=NX h1 WV (m-f) 0 (by show m-f<=m-f;omega);have hGG:afu=G':=by
  rcases Nat.lt_trichotomy afu G' with h | h | h
  ·have:=x2 afu h;omega
  ·exact h
  ·have:=g3 G' I h;omega
 subst hGG;refine⟨afu,x1,?_,x5⟩;have hGb:afu<=4096:=by
  rcases zG 4096 afu with h | h
  ·exfalso
   have:∀x,x<=afu->x<=tq f m x:=λx=>by
    induction x with
    | zero=>intro _;omega
    | succ x ih=>intro h;have:=ih I;show _<=tq f m x+1+_;omega
   have hp:∀x,x<=afu->f+x<=cq f m x∨cq f m x=m:=λx=>by
    induction x with
    | zero=>intro _;exact .inl (by show f+0<=f;omega)
    | succ x ih =>
     intro h;have hn:cq f m (x+1)=min (2*cq f m x) m:=rfl;have:=Kb h1 WV x;rcases ih I with h' | h'<;>omega
   rcases hp 4096 I with h' | h'
   ·have:=Pp WV 4096;omega
   ·have:=g3 4096 I h;omega
  ·exact h
 have hd:=PA (K:=K) (f:=f) (m:=m) (afu:=afu) WV I x1 I afu 0 K (4+f) I I (λx h1 h2=>g3 x h1 h2) I (by have:tq f m 0=0:=rfl;omega) (BT _);have z0:tq f m 0=0:=rfl;have c0:cq f m 0=f:=rfl;rw[z0,c0,Nat.sub_zero]at hd;have hmul:N*(4+f+tq f m afu)<=1048576:=by omega
 have hmi:(N:Int)*(4+(f:Int)+((tq f m afu:Nat):Int))=((N*(4+f+tq f m afu):Nat):Int):=by rw[Int.natCast_mul];congr 1
 unfold vt qf qk q7 mH xB sx;rw[pR,tP (show(N:Int)<=64 by omega),ax,aP rfl,pR,pR,pR,pR,tP (show kY.jE<=4096 by omega),ax,aP rfl,eJ,
  ct I,ez,ax,ez,ez,ax,ax,aP rfl,hf,hm,eI (x:=(4:Int)+(f:Int)) I,hd,ax,hmi,hF]
 rw[eI (x:=(F:Int)*10) I,eI (x:=(1:Int)+(F:Int)*10) I,eI (x:=(2:Int)+(N:Int)) I,eI (x:=(1:Int)+(1+(F:Int)*10)) I,eI (x:=(1:Int)+(1+(F:Int)*10)+_) I,eI (x:=((N*(4+f+tq f m afu):Nat):Int)) I,eI I]
 congr 1
 omega
section
variable {C:Am.kH}{p:aJ}{s:Am.St}{S:ag}{M:ae}{sz n i:Nat}{D:aM}
theorem VZ(b:vF C p s S M sz n)(a:Int):vF C p s S {M with sG:=a} sz n:=
 { b with ar:=⟨b.ar.size,b.ar.s1,b.ar.fit,b.ar.mark,b.ar.cl,b.ar.lg⟩}
theorem TU(h:Ta C p s S)(hn:C.N<=64):∀(e k g:Nat),g+e=C.N->e<k->∃b,j0 K S M k (g:Int)=some b/\(b=true->∀j,g<=j->j<C.N->s.pc j= .halted)
 | e,k,g,he,hk=>by
  obtain⟨k,rfl⟩ :∃m,k=m+1:=⟨k-1,I⟩;rw[j0];by_cases hg:g<C.N
  ·obtain⟨e,rfl⟩ :∃m,e=m+1:=⟨e-1,I⟩;rw[aP (by rw[h.wl];omega),QS h hg,ax];by_cases ZN:(act S g).aD=13
   ·rw[aP (by simp[ZN]),Ca I];obtain⟨b,b1,b2⟩:=TU h hn e k (g+1) I I;refine⟨b,b1,λhb j hj hjN => ?_⟩;by_cases ej:j=g
    ·subst ej;exact abU (h.wk j hg).3 ZN
    ·exact b2 hb j I hjN
   ·rw[ct (by simp[ZN])];exact⟨false,rfl,λhb=>by cases hb⟩
  ·rw[ct (by rw[h.wl];omega)];exact⟨true,rfl,λ_ j h1 h2=>I⟩
theorem V0(h:Ta C p s S)(hn:C.N<=64)(hK:100<K)(v:aj) :∃b,pJ K S M v=some b/\(b=true->v.aE=11∨v.aE=10/\∀j,j<C.N->s.pc j= .halted):=by
 unfold pJ;by_cases h1:v.aE=11
 ·rw[aP h1];exact⟨true,rfl,λ_=>.inl h1⟩
 ·rw[ct h1];by_cases h2:v.aE=10
  ·rw[aP h2];obtain⟨b,b1,b2⟩:=TU (K:=K) (M:=M) h hn C.N K 0 I I;rw[pT]at b1;exact⟨b,b1,λhb=>.inr ⟨h2,λj hj=>b2 hb j I hj⟩⟩
  ·rw[ct h2];exact⟨false,rfl,λhb=>by cases hb⟩
def GV(g i:Nat)(l:List aj):Option Am.Ev->List aj
 | none=>l
 | some e=>l++[⟨(g:Int),(i:Int),(e.kind:Int),e.au,e.x,e.v⟩]
def aci(C:Am.kH)(s:Am.St)(l:List aj):Prop:=∃l0 e,l=l0++[e]/\(e.aE=11∨e.aE=10/\∀j,j<C.N->s.pc j= .halted)
theorem N3{afv:Am.St->List aj->Nat->Prop}{sc:mS}(hK:2000000<K)(hp:sc.jd.length<=1048576)
 (hI:∀(s:Am.St) (S:ag) (M:ae) (l:List aj) (g i:Nat) (d:Int),vF C p s S M sz g->afv s l g->i<C.N->g<sc.jd.length->ij (GX.J sc.jd g) (C.N:Int)=some (i:Int)->afv (Am.aH C s i d).s (GV g i l (Am.aH C s i d).ev) (g+1)) :
 ∀(e k g:Nat) (s:Am.St) (S:ag) (M:ae) (D:aM) (l:List aj),vF C p s S M sz g->afv s l g->l.length<=g->g+e=sc.jd.length->e<k->
 ∃M' l' s' g',mc K (C.N:Int) sc k M S D l (g:Int)=some (M',l')/\afv s' l' g'/\l'.length<=g'/\g'<=sc.jd.length/\M'.log.length<=2000000000/\(g'=sc.jd.length∨aci C s' l')
 | e,k,g,s,S,M,D,l,b,gP,hl,he,hk=>by
  obtain⟨k,rfl⟩ :∃m,k=m+1:=⟨k-1,I⟩;have n64:=b.ok.n64;have n1:=b.ok.n1;have afd:=b.ar.lg;have GZ:=b.n;rw[mc];by_cases hg:g<sc.jd.length
  ·obtain⟨e,rfl⟩ :∃m,e=m+1:=⟨e-1,I⟩;obtain⟨i,hm,hm',hin⟩:=VY (x:=GX.J sc.jd g) (n:=(C.N:Int)) I I;have hi:i<C.N:=by omega
   have bw:=VZ b (i:Int);obtain⟨S',M',e1,e2,e3,e4⟩:=NW (K:=K) (D:=D) bw hi I;have b':=TF bw hi e2 e3 I;have hII:=hI s S M l g i (Cl D) b gP hi hg hm';have NB:=b'.ar.lg;have hn:=b'.n;rw[pR,aP ⟨I,I⟩,cO,hm,ax];unfold rH;rw[ax,e1,RA];cases L7:(Am.aH C s i (Cl D)).ev with
   | none =>
    rw[L7]at hII;rw[aP (show(Tc i none).aE=0 from rfl),Ca I];exact N3 hK hp hI e k (g+1) _ _ _ _ l b' hII I I I
   | some x =>
    rw[L7]at hII;have hx0:x.kind≠0:=Am.Tr.k0 (Am.Fy b.fi b.dt hi (Cl D)) x L7;have hl':(l++[(⟨(g:Int),(i:Int),(x.kind:Int),x.au,x.x,x.v⟩:aj)]).length=l.length+1:=by simp
    rw[ct (show ¬(Tc i (some x)).aE=0 from λh=>hx0 (by have h:(x.kind:Int)=0:=h;omega)),pR];obtain⟨bo,b1,b2⟩:=V0 (K:=K) (M:=M') b'.jN n64 I {Tc i (some x)with At:=(g:Int)};rw[b1,ax];cases bo with
    | true =>
     rw[aP rfl];exact⟨_,_,_,g+1,rfl,hII,by rw[jM];show l.length+1<=g+1;omega,I,I,.inr ⟨l,_,rfl,b2 rfl⟩⟩
    | false =>
     rw[ct eF,Ca I];exact N3 hK hp hI e k (g+1) _ _ _ _ _ b' hII (by rw[jM];show l.length+1<=g+1;omega) I I
  ·rw[ez];exact⟨M,l,s,g,rfl,gP,hl,I,I,.inl I⟩
end
theorem V1{p:aJ}{args:List Int}{n e:Int}{kY:eK}{sc:mS}(hp:sc.jd.length<=1048576)(hd:sc.nO.length<=1048576)(r2:mP K p args n kY=some e)(he:e≠0):sj K p args n kY sc=some ([],[],e):=by
 unfold sj;rw[ez,ez,eJ,r2,ax,ct he]
theorem V2{p:aJ}{args:List Int}{N F f m:Nat}{kY:eK}{sc:mS}(hp:sc.jd.length<=1048576)(hd:sc.nO.length<=1048576)(hK:4000000<K)
 (hv:Valid p) (ha:(args.length:Int)=(GX.J p.ah 0).aS) (Mx:1<=N) (Wd:N<=64) (hl:WR kY.cr kY.dQ kY.jE) (hF:kY.cr=F) (hf:kY.dQ=f) (hm:kY.jE=m) (r2:mP K p args N kY=some 0)
 {afv:Am.St->List aj->Nat->Prop} (h0:afv (init (cfg p N F f m) args) [] 0)
 (hI:∀(s:Am.St) (S:ag) (M:ae) (sz:Nat) (l:List aj) (g i:Nat) (d:Int),vF (cfg p N F f m) p s S M sz g->afv s l g->i<N->g<sc.jd.length->ij (GX.J sc.jd g) (N:Int)=some (i:Int)->afv (Am.aH (cfg p N F f m) s i d).s (GV g i l (Am.aH (cfg p N F f m) s i d).ev) (g+1)) :
 ∃lg l' s' g',sj K p args N kY sc=some (l',lg,0)/\afv s' l' g'/\l'.length<=g'/\g'<=sc.jd.length/\(g'=sc.jd.length∨aci (cfg p N F f m) s' l'):=by
 have f1:=hl.f1;have f2:=hl.f2;have a1:=hl.a1;have a2:=hl.a2;have m2:=hl.m2;obtain⟨afu,q1,q4,q5⟩:=Y9 (K:=K) (N:=N) (F:=F) (kY:=kY) (f:=f) (m:=m) hl hF hf hm Mx Wd I;obtain⟨sz,hsz⟩ :∃sz:Nat,sz=4+10*F+N+N*(4+f+tq f m afu):=⟨_,rfl⟩;rw[<-hsz]at q4 q5;have hNW:N*(4+f)<=N*(4+f+tq f m afu):=Nat.mul_le_mul_left _ I;unfold sj;rw[ez,ez,eJ,r2,ax,aP rfl,q4,ax];unfold v9 yW;rw[aP (show((sz:Nat):Int)>=0 by omega),tP (show((sz:Nat):Int)<=1048576 by omega),ax,aP rfl,fc]
 try dsimp only
 rw[aP rfl];obtain⟨n1,n2⟩:=Yt (K:=K) (sz:=sz) (a:=0) (w:=false) (N:=N) (F:=F) (afs:=4+f) hv ha hl hF I I (by first | omega | (simp only;omega)) I I I r2;obtain⟨cs,e1,e2,e3⟩:=n1 I
 try dsimp only at e1 e2
 rw[show(⟨((sz:Nat):Int),0,([]:List Int),([]:List aN),0,false⟩:ae)=ar sz [] [] 0 false from rfl,e1,dw]
 try dsimp only
 have hfe:((f:Nat):Int)=kY.dQ:=hf.symm;have b:=TH (p:=p) (args:=args) (N:=N) (F:=F) (f:=f) (m:=m) (sz:=sz) (afu:=afu) (c:=cs) (l:=w7 false [] (tF 0 N F kY.dQ)) (w:=false) (x:=0) hv ha I I I I I I I q1 hsz q5 (by rw[hfe];exact e3) rfl;rw[<-hm]at b;rw[aP rfl];unfold pE;rw[ax,pR];have b':=QT b true;rw[hm]at b';obtain⟨M',l',s',g',x1,x2,x3,x4,x5,x6⟩:=N3 (K:=K) (afv:=afv) (sc:=sc) I hp (λs S M l g i d hb hi ZO hg Zj=>hI s S M sz l g i d hb hi ZO hg Zj) sc.jd.length K 0 _ _ _ ⟨sc.nO⟩ [] b' h0 (j5 _) I I;rw[pT]at x1;have x1:mc K (N:Int) sc K _ _ _ [] 0=some (M',l'):=x1;rw[hm,x1,fc,YV x5,ax];exact⟨_,l',s',g',rfl,x2,x3,x4,x6⟩
end
section
variable {K:Nat}
structure Small(c:bK):Prop where
 f:c.bY.length<=1048576
 k:∀i,i<c.bY.length->(J c.bY i).aq.length<=1048576
 a:c.oY.length<=1048576
 p:c.dy.length<=1048576
 d:c.fz.length<=1048576
theorem tw2{c:bK}(h:Small c){n:Nat}(hn:n<c.bY.length):∀(d k i:Nat) (l:List bZ),i+d=(J c.bY n).aq.length->d<k->l.length=i->jV K c (n:Int) k l (i:Int)=some (l++(J c.bY n).aq.drop i)
 | d,k,i,l,hd,hk,hl=>by
  obtain⟨k,rfl⟩ :∃m,k=m+1:=⟨k-1,I⟩;have:=h.k n hn;rw[jV,cO];by_cases hi:i<(J c.bY n).aq.length
  ·obtain⟨d,rfl⟩ :∃m,d=m+1:=⟨d-1,I⟩;rw[pR,aP ⟨I,I⟩,pR,cO,Ca I,tw2 h hn d k (i+1) _ I I (by simp[hl]),xy hi,pS];rfl
  ·rw[ez,yg I,zH]
theorem tw1{c:bK}(h:Small c)(hK:2000000<K):∀(d k i:Nat) (l:List aC),i+d=c.bY.length->d<k->l.length=i->jW K c k l (i:Int)=some (l++c.bY.drop i)
 | d,k,i,l,hd,hk,hl=>by
  obtain⟨k,rfl⟩ :∃m,k=m+1:=⟨k-1,I⟩;have:=h.f;rw[jW];by_cases hi:i<c.bY.length
  ·obtain⟨d,rfl⟩ :∃m,d=m+1:=⟨d-1,I⟩;have:=h.k i hi;have e:=tw2 (K:=K) h hi (J c.bY i).aq.length K 0 [] I I rfl;rw[pT,yQ,mY]at e;rw[pR,aP ⟨I,I⟩,e,ax,pR,ax,cO,Ca I,tw1 h hK d k (i+1) _ I I (by simp[hl]),xy hi,pS];rfl
  ·rw[ez,yg I,zH]
theorem tw3{c:bK}(h:Small c):∀(d k i:Nat) (l:List Int),i+d=c.oY.length->d<k->l.length=i->jX K c k l (i:Int)=some (l++c.oY.drop i)
 | d,k,i,l,hd,hk,hl=>by
  obtain⟨k,rfl⟩ :∃m,k=m+1:=⟨k-1,I⟩;have:=h.a;rw[jX];by_cases hi:i<c.oY.length
  ·obtain⟨d,rfl⟩ :∃m,d=m+1:=⟨d-1,I⟩;rw[pR,aP ⟨I,I⟩,pR,cO,Ca I,tw3 h d k (i+1) _ I I (by simp[hl]),xy hi,pS];rfl
  ·rw[ez,yg I,zH]
theorem tw4{c:bK}(h:Small c):∀(d k i:Nat) (l:List Int),i+d=c.dy.length->d<k->l.length=i->jY K c k l (i:Int)=some (l++c.dy.drop i)
 | d,k,i,l,hd,hk,hl=>by
  obtain⟨k,rfl⟩ :∃m,k=m+1:=⟨k-1,I⟩;have:=h.p;rw[jY];by_cases hi:i<c.dy.length
  ·obtain⟨d,rfl⟩ :∃m,d=m+1:=⟨d-1,I⟩;rw[pR,aP ⟨I,I⟩,pR,cO,Ca I,tw4 h d k (i+1) _ I I (by simp[hl]),xy hi,pS];rfl
  ·rw[ez,yg I,zH]
theorem tw5{c:bK}(h:Small c)(f:List aC)(a p:List Int):∀(d k i:Nat) (l:List Int),i+d=c.fz.length->d<k->l.length=i->jZ K c f a p k l (i:Int)=some {c with bY:=f,oY:=a,dy:=p,fz:=l++c.fz.drop i}
 | d,k,i,l,hd,hk,hl=>by
  obtain⟨k,rfl⟩ :∃m,k=m+1:=⟨k-1,I⟩;have:=h.d;rw[jZ];by_cases hi:i<c.fz.length
  ·obtain⟨d,rfl⟩ :∃m,d=m+1:=⟨d-1,I⟩;rw[pR,aP ⟨I,I⟩,pR,cO,Ca I,tw5 h f a p d k (i+1) _ I I (by simp[hl]),xy hi,pS];rfl
  ·rw[ez,yg I,zH]
theorem V3{c:bK}(h:Small c)(hK:2000000<K):pI K c=some c:=by
 have h1:=h.f;have h2:=h.a;have h3:=h.p;have h4:=h.d;have e1:=tw1 (K:=K) h hK c.bY.length K 0 [] I I rfl;have e2:=tw3 (K:=K) h c.oY.length K 0 [] I I rfl;have e3:=tw4 (K:=K) h c.dy.length K 0 [] I I rfl;have e4:=tw5 (K:=K) h c.bY c.oY c.dy c.fz.length K 0 [] I I rfl;rw[pT,yQ,mY]at e1 e2 e3 e4;unfold pI;rw[e1,ax,e2,ax,e3,ax,e4]
end
section
variable {K:Nat}
def Fj(e:aj):Am.Ev:=⟨e.aE.toNat,e.Frame,e.X,e.V⟩
def Q2(e:aj):Prop:=e.aE=1/\e.Frame=0
instance (e:aj):Decidable (Q2 e):=by unfold Q2;infer_instance
def Q3(l:List aj):Prop:=∀e∈l,¬Q2 e
def xC:List aj->Prop
 | []=>True
 | e::l=>if Q2 e then e.rT=0/\e.X=-1/\e.V=1 else xC l
theorem EI{e:aj}:∀{l:List aj},xC l->(Q3 l->Q2 e->e.rT=0/\e.X=-1/\e.V=1)->xC (l++[e])
 | [],_,h=>by
  show if Q2 e then _ else True;split
  ·next h'=>exact h (λ_ hx=>by cases hx) h'
  ·trivial
 | x::l,h1,h2=>by
  have h1:if Q2 x then x.rT=0/\x.X=-1/\x.V=1 else xC l:=h1;show if Q2 x then _ else xC (l++[e]);split
  ·next h'=>rw[aP h']at h1;exact h1
  ·next h' =>
   rw[ct h']at h1;exact EI h1 (λhn hs=>h2 (λy hy=>by
    rcases List.mem_cons.1 hy with rfl | hy
    ·exact h'
    ·exact hn y hy) hs)
structure Pre(C:Am.kH)(ps:List Int)(s:Am.St)(l:List aj)(g:Nat):Prop where
 q:Am.Q0 (Am.wv s)
 nf:∀e∈l,e.aE≠11
 pk:∀k,k<g->ij (GX.J ps k) (C.N:Int)≠some 0
structure Tl(C:Am.kH)(ps:List Int)(s:Am.St)(l:List aj)(g:Nat):Prop where
 pre:Q3 l->Pre C ps s l g
 first:xC l
theorem Q4{g i:Nat}{l:List aj}{o:Option Am.Ev}{e:aj}(h:e∈GV g i l o):e∈l∨∃x,o=some x/\e=⟨(g:Int),(i:Int),(x.kind:Int),x.au,x.x,x.v⟩:=by
 cases o with
 | none=>exact .inl h
 | some x =>
  rcases List.mem_append.1 (show e∈l++[_]from h)with h | h
  ·exact .inl h
  ·exact .inr ⟨x,rfl,List.mem_singleton.1 h⟩
theorem Q5{g i:Nat}{l:List aj}{o:Option Am.Ev}{e:aj}(h:e∈l):e∈GV g i l o:=by
 cases o with
 | none=>exact h
 | some x=>exact List.mem_append.2 (.inl h)
theorem TV{p:Am.Pc}(h:Am.sig p= .start) :∃x,p= .start x:=by
 cases p<;>first | exact⟨_,rfl⟩ | cases h
theorem Tl.aH{C:Am.kH}{p:aJ}{ps:List Int}{s:Am.St}{S:ag}{M:ae}{sz g i:Nat}{l:List aj}{d:Int}(b:vF C p s S M sz g)(t:Tl C ps s l g)(hi:i<C.N)(hm:ij (GX.J ps g) (C.N:Int)=some (i:Int)):Tl C ps (Am.aH C s i d).s (GV g i l (Am.aH C s i d).ev) (g+1):=by
 have tr:=Am.Fy b.fi b.dt hi d;have main:Q3 l->i=0->∃x,(Am.aH C s i d).ev=some x/\x.kind=1/\x.au=0/\x.x=-1:=by
  intro hn h0;subst h0;obtain⟨q1,q2,q3,q4⟩:=(t.pre hn).q;obtain⟨x,hx⟩:=TV (p:=s.pc 0) q1;have q2:Am.vq (s.pc 0)=-1:=q2;rw[hx]at q2;have q2:x=-1:=q2;have q3:s.hold 0=some 0:=q3;subst q2;refine⟨_,by unfold Am.aH;rw[hx];rfl,rfl,?_,rfl⟩;show(((s.hold 0).getD 0:Nat):Int)=0;rw[q3];rfl
 have other:Q3 l->i≠0->Am.Q0 (Am.wv (Am.aH C s i d).s)/\∀x,(Am.aH C s i d).ev=some x->x.kind≠11/\x.kind≠1:=λhn h0=>(t.pre hn).q.aH tr h0 hi b.fi;constructor
 ·intro hn;have hn':Q3 l:=λe he=>hn e (Q5 he);by_cases h0:i=0
  ·obtain⟨x,x1,x2,x3,x4⟩:=main hn' h0
   exfalso
   rw[x1]at hn;exact hn _ (List.mem_append.2 (.inr (List.mem_singleton.2 rfl))) ⟨by show(x.kind:Int)=1;rw[x2];rfl,x3⟩
  ·obtain⟨o1,o2⟩:=other hn' h0;refine⟨o1,λe he => ?_,λk hk => ?_⟩
   ·rcases Q4 he with he | ⟨x,hx,rfl⟩
    ·exact(t.pre hn').nf e he
    ·have:=(o2 x hx).1;show(x.kind:Int)≠11;omega
   ·by_cases ek:k=g
    ·subst ek;rw[hm];intro h;have:(i:Int)=0:=Option.some.inj h;omega
    ·exact(t.pre hn').pk k I
 ·cases L7:(Am.aH C s i d).ev with
  | none=>exact t.first
  | some x =>
   refine EI t.first λhn hs => ?_;have hk:x.kind=1:=by have:(x.kind:Int)=1:=hs.1;omega
   by_cases h0:i=0
   ·obtain⟨y,y1,y2,y3,y4⟩:=main hn h0;rw[L7]at y1;cases y1;exact⟨by show(i:Int)=0;omega,y4,tr.v1 hi b.fi x L7 hk⟩
   ·exact absurd hk ((other hn h0).2 x L7).2
theorem TW{r:List aj}(hb:r.length<=100000000):∀(e k g:Nat),g+e=r.length->e<k->xC (r.drop g)->(∃x∈r.drop g,Q2 x)->j3 K r k (g:Int)=some (r,true,true)
 | e,k,g,he,hk,h1,h2=>by
  obtain⟨k,rfl⟩ :∃m,k=m+1:=⟨k-1,I⟩;rw[j3];by_cases hg:g<r.length
  ·obtain⟨e,rfl⟩ :∃m,e=m+1:=⟨e-1,I⟩;rw[xy hg]at h1 h2;have h1:if Q2 (GX.J r g)then _ else xC (r.drop (g+1)):=h1;rw[pR,aP ⟨I,I⟩,cO];by_cases hs:Q2 (GX.J r g)
   ·rw[aP hs]at h1;obtain⟨a1,a2,a3⟩:=h1;rw[aP hs.1,ax,aP (by rw[hs.2];rfl),aP ⟨I,I⟩,aP a1,aP a2,a3];rfl
   ·rw[ct hs]at h1;have h2 :∃x∈r.drop (g+1),Q2 x:=by
     obtain⟨x,hx,hx'⟩:=h2;rcases List.mem_cons.1 hx with rfl | hx
     ·exact absurd hx' hs
     ·exact⟨x,hx,hx'⟩
    have ih:=TW hb e k (g+1) I I h1 h2;by_cases h1k:(GX.J r g).aE=1
    ·rw[aP h1k,ax,ct (by simp;exact λh=>hs ⟨h1k,h⟩),Ca I];exact ih
    ·rw[ct h1k,ax,ct eF,Ca I];exact ih
  ·obtain⟨x,hx,_⟩:=h2;rw[yg I]at hx;cases hx
theorem PB{c:bK}(hp:c.dy.length<=1048576){N:Nat}(hN:c.cZ=N)(h1:1<=N)(h64:N<=64):∀(e k g:Nat),g+e=c.dy.length->e<k->∃b,jC K c k (g:Int)=some b/\(b=true->∃x,x<c.dy.length/\ij (GX.J c.dy x) (N:Int)=some 0)
 | e,k,g,he,hk=>by
  obtain⟨k,rfl⟩ :∃m,k=m+1:=⟨k-1,I⟩;rw[jC];by_cases hg:g<c.dy.length
  ·obtain⟨e,rfl⟩ :∃m,e=m+1:=⟨e-1,I⟩;obtain⟨i,hm,hin⟩:=Pr (x:=GX.J c.dy g) (n:=(N:Int)) I I;rw[pR,aP ⟨I,I⟩,cO,hN,hm,ax];by_cases h0:(i:Int)=0
   ·rw[aP h0];exact⟨true,rfl,λ_=>⟨g,hg,by rw[hm,h0]⟩⟩
   ·rw[ct h0,Ca I];exact PB hp hN h1 h64 e k (g+1) I I
  ·rw[ez];exact⟨false,rfl,λh=>by cases h⟩
theorem V4{C:Am.kH}{ps args:List Int}:Tl C ps (init C args) [] 0:=
 ⟨λ_=>⟨⟨rfl,rfl,rfl,rfl⟩,(λe h=>by cases h),(λk h=>absurd h (Nat.not_lt_zero _))⟩,cz⟩
theorem V5{c:bK}(h:Small c)(hK:4000000<K){afq:Am.kH->Am.St->List aj->Nat->Prop}(h0:∀(N F f m:Nat),Valid ⟨c.bY⟩->(cfg ⟨c.bY⟩ N F f m).OK->afq (cfg ⟨c.bY⟩ N F f m) (init (cfg ⟨c.bY⟩ N F f m) c.oY) [] 0)
 (hJ:∀(C:Am.kH) (p:aJ) (s:Am.St) (S:ag) (M:ae) (sz:Nat) (l:List aj) (g i:Nat) (d:Int),vF C p s S M sz g->afq C s l g->i<C.N->afq C (Am.aH C s i d).s (GV g i l (Am.aH C s i d).ev) (g+1)) :
 (∃r,nu K c=some (r,false,true))∨∃r C s g,nu K c=some (r,true,true)/\afq C s r g/\r.length<=1048576/\c.aF=C.F/\1<=C.F/\C.F<=4096/\g<=c.dy.length/\Valid ⟨c.bY⟩/\(c.oY.length:Int)=(GX.J c.bY 0).aS/\C.OK/\∃N F f m,C=cfg ⟨c.bY⟩ N F f m/\c.cZ=N:=by
 unfold nu;rw[V3 h I,ax];obtain⟨e,r1,r2,r3,r4⟩:=Qn (K:=K) ⟨c.bY⟩ c.oY c.cZ ⟨c.aF,c.fE,c.gB⟩ I;have hp:=h.p;have hd:=h.d;have hr:nk K c=some e:=by
  unfold nk pK;rw[ct (by show ¬(((c.dy.length:Nat):Int)>1048576);omega),Ij (show ¬(((c.fz.length:Nat):Int)>1048576) by omega),ax,ct eF,r1,ax]
 by_cases he:e=0
 ·subst he;obtain⟨hv,ha,Mx,Wd,hl⟩:=r4 rfl;obtain⟨N,hN⟩ :∃N:Nat,c.cZ=N:=⟨c.cZ.toNat,I⟩;have f1:=hl.f1;have f2:=hl.f2;have a1:=hl.a1;have a2:=hl.a2;have m2:=hl.m2;simp only at f1 f2 a1 a2 m2;obtain⟨F,hF⟩ :∃F:Nat,c.aF=F:=⟨c.aF.toNat,I⟩;obtain⟨f,hf⟩ :∃f:Nat,c.fE=f:=⟨c.fE.toNat,I⟩;obtain⟨m,hm⟩ :∃m:Nat,c.gB=m:=⟨c.gB.toNat,I⟩;rw[hN]at r2 Mx Wd;have hC:=S4 (p:=⟨c.bY⟩) (N:=N) (F:=F) (f:=f) (m:=m) hv I I I I I I I;obtain⟨lg,l',s',g',x1,x2,x3,x4,x5⟩:=V2 (K:=K) (p:=⟨c.bY⟩) (args:=c.oY) (N:=N) (F:=F) (f:=f) (m:=m) (kY:=⟨c.aF,c.fE,c.gB⟩) (sc:=⟨c.dy,c.fz⟩) hp hd hK hv ha I I hl hF hf hm r2
   (afv:=λs l g=>afq (cfg ⟨c.bY⟩ N F f m) s l g/\Tl (cfg ⟨c.bY⟩ N F f m) c.dy s l g) ⟨h0 _ _ _ _ hv hC,V4⟩
   (λs S M sz l g i d b hi ZO hg Zj=>⟨hJ _ _ s S M sz l g i d b hi.1 ZO,hi.2.aH b ZO Zj⟩)
  rw[hN,x1,dw,hr,ax,aP rfl,aP rfl];unfold rf;obtain⟨b,b1,b2⟩:=PB (K:=K) (c:=c) hp hN I I c.dy.length K 0 I I;rw[pT]at b1;rw[b1,ax];have hp':g'<=c.dy.length:=x4
  right
  refine⟨l',_,s',g',?_,x2.1,I,hF,by show 1<=F;omega,by show F<=4096;omega,hp',hv,ha,hC,_,_,_,_,rfl,by first | exact hN | rfl⟩;cases b with
  | false=>rw[ct eF]
  | true =>
   rw[aP rfl];have ht:=TW (K:=K) (r:=l') I l'.length K 0 I I (by rw[mY];exact x2.2.first) (by
    rw[mY];by_cases hs :∃x∈l',Q2 x
    ·exact hs
    ·exfalso
     have hn:Q3 l':=λe he h=>hs ⟨e,he,h⟩;have pr:=x2.2.pre hn;rcases x5 with x5 | ⟨l0,e,rfl,x5⟩
     ·obtain⟨x,y1,y2⟩:=b2 rfl;exact pr.pk x (by have x5:g'=c.dy.length:=x5;omega) y2
     ·rcases x5 with x5 | ⟨_,x5⟩
      ·exact pr.nf e (List.mem_append.2 (.inr (List.mem_singleton.2 rfl))) x5
      ·have hh:=x5 0 (by show 0<N;omega);have q1:Am.sig (s'.pc 0)= .start:=pr.q.1;rw[hh]at q1;cases q1)
   rw[pT]at ht;exact ht
 ·left
  rw[V1 hp hd r2 he,dw,hr,ax,aP rfl,ct he];exact⟨_,rfl⟩
end
end Mo
end
section
namespace Am
def CB(C:kH)(g a:Nat):List Nat:=
 match C.code g a with
 | .jump t=>[t]
 | .branch _ t=>[a+1,t]
 | .ret _=>[]
 | _=>[a+1]
def N4(x:Yu)(c st:Nat):Nat:=
 match x with
 | .spawn s _ _=>if s=c then 2 else st
 | .sync=>if st=2 then 4 else st
 | _=>st
structure TX(C:kH) where
 slots:Nat->Nat
 R:Nat->Nat->Nat->Nat->Prop
 r0:∀g,g<C.O5->∀c,c<slots g->R g 0 c 1
 rn:∀g a c st,g<C.O5->a<C.len g->c<slots g->R g a c st->∀n∈CB C g a,R g n c (N4 (C.code g a) c st)
 sp:∀g a s f c,g<C.O5->a<C.len g->C.code g a= .spawn s f c->s<slots g/\¬R g a s 2
 ld:∀g a x s,g<C.O5->a<C.len g->C.code g a= .load x s->s<slots g/\¬R g a s 1/\¬R g a s 2
 rt:∀g a x,g<C.O5->a<C.len g->C.code g a= .ret x->∀c,c<slots g->¬R g a c 2
structure SL(C:kH)(φ:TX C)(s:St)(σ:Nat->Nat->Nat):Prop where
 a:∀f,f<s.nf->live (s.loc f)=true->∀c,c<φ.slots (s.fr f).fn->φ.R (s.fr f).fn (s.fr f).J c (σ f c)
 b:∀f,f<s.nf->s.loc f≠.waiting->∀k∈s.bt f,(s.fr k).slot<φ.slots (s.fr f).fn/\σ f (s.fr k).slot=2
 k:∀i c,i<C.N->s.pc i= .fork c->(s.fr c).slot<φ.slots (s.fr (s.fr c).par).fn/\σ (s.fr c).par (s.fr c).slot=2
 u:∀f,∀k∈s.bt f,∀k'∈s.bt f,(s.fr k).slot=(s.fr k').slot->k=k'
 v:∀i c,i<C.N->s.pc i= .fork c->∀k∈s.bt (s.fr c).par,(s.fr k).slot≠(s.fr c).slot
section
variable {C:kH}{φ:TX C}{s:St}{i:Nat}{σ:Nat->Nat->Nat}
theorem SL.of{s':St}(h:SL C φ s σ)(h1:s'.fr=s.fr)(h2:s'.nf=s.nf)(hl:∀f,live (s'.loc f)=true->live (s.loc f)=true)
 (hw:∀f,s'.loc f≠.waiting->s.loc f≠.waiting∨s'.bt f=[]) (hk:∀f,∀k∈s'.bt f,k∈s.bt f) (hp:∀i c,s'.pc i= .fork c->s.pc i= .fork c):SL C φ s' σ:=by
 obtain⟨a,b,k,u,v⟩:=h;refine⟨?_,?_,?_,?_,?_⟩
 ·intro f hf hlf;rw[h1];exact a f (h2▸ hf) (hl f hlf)
 ·intro f hf hn x hx;rw[h1];rcases hw f hn with e | e
  ·exact b f (h2▸ hf) e x (hk f x hx)
  ·rw[e]at hx;cases hx
 ·intro i c hi hc;rw[h1];exact k i c hi (hp i c hc)
 ·intro f x hx y hy;rw[h1];exact u f x (hk f x hx) y (hk f y hy)
 ·intro i c hi hc x hx;rw[h1]at hx⊢;exact v i c hi (hp i c hc) x (hk _ x hx)
theorem SL.W9{s':St}{p:Pc}(h:SL C φ s σ)(h1:s'.fr=s.fr)(h2:s'.nf=s.nf)(h3:s'.loc=s.loc)(h4:s'.bt=s.bt)(hp:s'.pc=cY s.pc i p)(hf:∀c,p≠.fork c):SL C φ s' σ:=
 h.of h1 h2 (by rw[h3];exact λ_ x=>x) (by rw[h3];exact λ_ x=>.inl x) (by rw[h4];exact λ_ _ x=>x) (by
  intro j c hj;rw[hp,cC]at hj;split at hj
  ·exact absurd hj (hf c)
  ·exact hj)
theorem SL.put{s':St}{p:Pc}{f:Nat}{l:Loc}(h:SL C φ s σ)(h1:s'.fr=s.fr)(h2:s'.nf=s.nf)(h3:s'.loc=cY s.loc f l)(h4:s'.bt=s.bt)(hp:s'.pc=cY s.pc i p)(hf:∀c,p≠.fork c)
 (hl:live l=true->live (s.loc f)=true) (hw:s.loc f≠.waiting∨s.bt f=[]):SL C φ s' σ:=
 h.of h1 h2 (λg=>by
  rw[h3,cC];split
  ·next e=>subst e;exact hl
  ·exact id) (λg=>by
  rw[h3,cC,h4];split
  ·next e=>subst e;exact λ_=>hw
  ·exact λx=>.inl x) (by rw[h4];exact λ_ _ x=>x) (by
  intro j c hj;rw[hp,cC]at hj;split at hj
  ·exact absurd hj (hf c)
  ·exact hj)
def PC(x:Fr):Nat×Nat×Nat:=(x.fn,x.slot,x.par)
theorem SL.tail{s':St}{σ':Nat->Nat->Nat}(h:SL C φ s σ)(h1:∀f,PC (s'.fr f)=PC (s.fr f))(h2:s'.nf=s.nf)
 (hw:∀f,s'.loc f≠.waiting->(s.loc f≠.waiting/\∀c,σ f c=2->σ' f c=2)∨s'.bt f=[]) (hk:∀f,∀k∈s'.bt f,k∈s.bt f) (hp:∀i c,i<C.N->s'.pc i= .fork c->s.pc i= .fork c/\∀x,σ (s.fr c).par x=2->σ' (s.fr c).par x=2)
 (ha:∀f,f<s'.nf->live (s'.loc f)=true->∀c,c<φ.slots (s'.fr f).fn->φ.R (s'.fr f).fn (s'.fr f).J c (σ' f c)):SL C φ s' σ':=by
 have Za:∀g,(s'.fr g).fn=(s.fr g).fn:=λg=>mX (·.1) (h1 g);have aW:∀g,(s'.fr g).slot=(s.fr g).slot:=λg=>mX (·.2.1) (h1 g);have pr_:∀g,(s'.fr g).par=(s.fr g).par:=λg=>mX (·.2.2) (h1 g);refine⟨ha,?_,?_,?_,?_⟩
 ·intro f hf hn x hx;rw[Za,aW];rcases hw f hn with e | e
  ·have:=h.b f (h2▸ hf) e.1 x (hk f x hx);exact⟨this.1,e.2 _ this.2⟩
  ·rw[e]at hx;cases hx
 ·intro i c hi hc;rw[pr_,Za,aW];have:=h.k i c hi (hp i c hi hc).1;exact⟨this.1,(hp i c hi hc).2 _ this.2⟩
 ·intro f x hx y hy;rw[aW,aW];exact h.u f x (hk f x hx) y (hk f y hy)
 ·intro i c hi hc x hx;rw[pr_]at hx;rw[aW,aW];exact h.v i c hi (hp i c hi hc).1 x (hk _ x hx)
theorem xD{f:Nat}{y:Fr}(hy:PC y=PC (s.fr f))(g:Nat):PC (cY s.fr f y g)=PC (s.fr g):=by
 rw[cC];split
 ·next e=>rw[e,hy]
 ·rfl
theorem SL.data{s':St}{f:Nat}{y:Fr}(h:SL C φ s σ)(hr:FR C s)(hf:(view s).FI C.N C.F)(hi:i<C.N)(hh:s.hold i=some f)
 (h1:s'.fr=cY s.fr f y) (h2:s'.nf=s.nf) (h3:s'.loc=s.loc) (h4:s'.bt=s.bt) (h5:∀i c,s'.pc i= .fork c->s.pc i= .fork c) (hy:PC y=PC (s.fr f))
 (hn:y.J∈CB C (s.fr f).fn (s.fr f).J) (ha:∀c st,N4 (C.code (s.fr f).fn (s.fr f).J) c st=st):SL C φ s' σ:=by
 obtain⟨hl,hlt⟩:=rF hf hi hh;obtain⟨b1,b2,b3⟩:=hr f hlt;refine h.tail (λg=>by rw[h1];exact xD hy g) h2 (λg hg=>.inl ⟨h3▸ hg,λ_ e=>e⟩) (λg k hk=>h4▸ hk) (λi c _ hc=>⟨h5 i c hc,λ_ e=>e⟩) (λg hg NB c hc => ?_);rw[h3]at NB;have hfn:(s'.fr g).fn=(s.fr g).fn:=by have:=mX (·.1) (xD (s:=s) hy g);rw[h1];exact this
 rw[hfn]at hc⊢;by_cases e:g=f
 ·subst e;rw[h1,bA];have:=φ.rn _ _ c _ b1 (b3 hl) hc (h.a g hlt hl c hc) _ hn
  rwa [ha]at this
 ·rw[h1,be e];exact h.a g (h2▸ hg) NB c hc
theorem SL.sync{s':St}{f:Nat}{y:Fr}{l:Loc}(h:SL C φ s σ)(hr:FR C s)(hf:(view s).FI C.N C.F)(hi:i<C.N)(hh:s.hold i=some f)(hp:s.pc i= .run)
 (hc:C.code (s.fr f).fn (s.fr f).J= .sync) (h1:s'.fr=cY s.fr f y) (h2:s'.nf=s.nf) (h3:s'.loc=cY s.loc f l) (hl:l= .waiting∨s.bt f=[]) (h4:s'.bt=s.bt) (h5:∀j c,s'.pc j= .fork c->j≠i/\s.pc j= .fork c)
 (hy:PC y=PC (s.fr f)) (hn:y.J=(s.fr f).J+1):SL C φ s' (cY σ f (λc=>if σ f c=2 then 4 else σ f c)):=by
 obtain⟨hl',hlt⟩:=rF hf hi hh;obtain⟨b1,b2,b3⟩:=hr f hlt;refine h.tail (λg=>by rw[h1];exact xD hy g) h2 (λg hg => ?_) (λg k hk=>h4▸ hk) (λj c hj hc=>⟨(h5 j c hc).2,λx hx => ?_⟩) (λg hg NB c E6 => ?_)
 ·rw[h3,cC]at hg;by_cases e:g=f
  ·subst e;rw[aP rfl]at hg;rcases hl with e | e
   ·exact absurd e hg
   ·exact .inr (by rw[h4];exact e)
  ·rw[ct e]at hg;exact .inl ⟨hg,λc e'=>by rw[be e];exact e'⟩
 ·have q:=(hf.fk j c hj (by show sig (s.pc j)=_;rw[(h5 j c hc).2];rfl)).2.2.1;have hne:(s.fr c).par≠f:=λe=>(h5 j c hc).1 (Bd hf hj hi q (by show s.hold i=some (s.fr c).par;rw[e];exact hh));rw[be hne];exact hx
 ·have hfn:(s'.fr g).fn=(s.fr g).fn:=by have:=mX (·.1) (xD (s:=s) hy g);rw[h1];exact this
  rw[hfn]at E6⊢;by_cases e:g=f
  ·subst e;rw[h1,bA,bA,hn];have:=φ.rn _ _ c _ b1 (b3 hl') E6 (h.a g hlt hl' c E6) ((s.fr g).J+1) (by unfold CB;rw[hc];exact List.mem_singleton.2 rfl)
   rwa [hc]at this
  ·rw[h1,be e,be e];rw[h3,be e]at NB;exact h.a g (h2▸ hg) NB c E6
theorem SL.spawn{s':St}{f:Nat}{y c0:Fr}{sl g0 c:Nat}(h:SL C φ s σ)(hr:FR C s)(hf:(view s).FI C.N C.F)(hi:i<C.N)(hh:s.hold i=some f)(hp:s.pc i= .run)
 (hc:C.code (s.fr f).fn (s.fr f).J= .spawn sl g0 c) (JL:g0<C.O5) (h1:s'.fr=cY (cY s.fr f y) s.nf c0) (h2:s'.nf=s.nf+1) (h3:s'.loc=cY s.loc s.nf (.bU i)) (h4:s'.bt=s.bt) (h5:s'.pc=cY s.pc i (.fork s.nf))
 (hy:PC y=PC (s.fr f)) (hn:y.J=(s.fr f).J+1) (hc0:c0.fn=g0/\c0.slot=sl/\c0.par=f/\c0.J=0):SL C φ s' (cY (cY σ f (cY (σ f) sl 2)) s.nf (λ_=>1)):=by
 obtain⟨hl',hlt⟩:=rF hf hi hh;obtain⟨b1,b2,b3⟩:=hr f hlt;obtain⟨s1,s2⟩:=φ.sp _ _ _ _ _ b1 (b3 hl') hc;have hfr:∀g,g<s.nf->PC (s'.fr g)=PC (s.fr g):=λg hg=>by rw[h1,be I];exact xD hy g
 have Rp:s'.fr s.nf=c0:=by rw[h1,bA]
 have Za:∀g,g<s.nf->(s'.fr g).fn=(s.fr g).fn:=λg hg=>mX (·.1) (hfr g hg);have aW:∀g,g<s.nf->(s'.fr g).slot=(s.fr g).slot:=λg hg=>mX (·.2.1) (hfr g hg);have pr_:∀g,g<s.nf->(s'.fr g).par=(s.fr g).par:=λg hg=>mX (·.2.2) (hfr g hg);have kl:∀p,∀k∈s.bt p,k<s.nf/\p<s.nf:=λp k hk=>by
  have a:=hf.kd p k hk;have b:k<s.nf:=by
   rcases zG k s.nf with h | h
   ·exact h
   ·exact absurd (hf.free k h) a.2.2.2
  exact⟨b,a.2.1▸ hf.pr k b⟩
 have hσ:∀g,g<s.nf->∀c,σ g c=2->cY (cY σ f (cY (σ f) sl 2)) s.nf (λ_=>1) g c=2:=λg hg c e=>by
  rw[be I,cC];split
  ·next e' =>
   subst e';rw[cC];split
   ·rfl
   ·exact e
  ·exact e
 have aex:σ f sl≠2:=λe=>s2 (e▸ h.a f hlt hl' sl s1);have hlf:s.loc f≠.waiting:=by rcases hf.hold i f hi hh with a | a<;>(have:=a.2;change s.loc f=_ at this;rw[this];simp)
 have ff:∀j c,s'.pc j= .fork c->(j=i/\c=s.nf)∨(j≠i/\s.pc j= .fork c):=λj c hj=>by
  rw[h5,cC]at hj;split at hj
  ·next e=>cases hj;exact .inl ⟨e,rfl⟩
  ·next e=>exact .inr ⟨e,hj⟩
 have fkl:∀j c,j<C.N->s.pc j= .fork c->c<s.nf:=λj c hj hc=>by
  have a:=(hf.fk j c hj (by show sig (s.pc j)=_;rw[hc];rfl)).2.1;rcases zG c s.nf with h | h
  ·exact h
  ·have:=hf.free c h;rw[this]at a;cases a
 refine⟨?_,?_,?_,?_,?_⟩
 ·intro g hg NB c E6;by_cases e:g=s.nf
  ·subst e;rw[Rp]at E6⊢;rw[bA,hc0.1,hc0.2.2.2];exact φ.r0 _ JL c (hc0.1▸ E6)
  ·have Ky:g<s.nf:=by omega
   rw[Za g Ky]at E6⊢;rw[h3,be e]at NB;rw[be e];by_cases e2:g=f
   ·subst e2;rw[h1,be e,bA,bA,hn];have:=φ.rn _ _ c _ b1 (b3 hl') E6 (h.a g hlt hl' c E6) ((s.fr g).J+1) (by unfold CB;rw[hc];exact List.mem_singleton.2 rfl);rw[hc]at this;simp only[N4]at this;rw[cC];simp only[eq_comm (a:=c)];exact this
   ·rw[h1,be e,be e2,be e2];exact h.a g Ky NB c E6
 ·intro g hg hn x hx;rw[h4]at hx;obtain⟨kx,kg⟩:=kl g x hx;rw[Za g kg,aW x kx];rw[h3,be I]at hn;have:=h.b g kg hn x hx;exact⟨this.1,hσ g kg _ this.2⟩
 ·intro j c hj E6;rcases ff j c E6 with ⟨rfl,rfl⟩ | ⟨e,e'⟩
  ·rw[Rp,hc0.2.1,hc0.2.2.1,Za f hlt];refine⟨s1,?_⟩;rw[be I,bA,bA]
  ·have c':=fkl j c hj e';have c'':=hf.pr c c';rw[pr_ c c',aW c c',Za (s.fr c).par c''];have:=h.k j c hj e';exact⟨this.1,hσ _ c'' _ this.2⟩
 ·intro g x hx y' hy';rw[h4]at hx hy';rw[aW x (kl g x hx).1,aW y' (kl g y' hy').1];exact h.u g x hx y' hy'
 ·intro j c hj E6 x hx;rw[h4]at hx;rcases ff j c E6 with ⟨rfl,rfl⟩ | ⟨e,e'⟩
  ·rw[Rp,hc0.2.2.1]at hx;rw[Rp,hc0.2.1,aW x (kl f x hx).1];intro e;have:=(h.b f hlt hlf x hx).2;rw[e]at this;exact aex this
  ·have c':=fkl j c hj e';rw[pr_ c c']at hx;rw[aW c c',aW x (kl _ x hx).1];exact h.v j c hj e' x hx
theorem SL.Mt(h:SL C φ s σ)(hr:FR C s)(hf:(view s).FI C.N C.F)(hi:i<C.N){f a:Nat}(hh:s.hold i=some f)(hc:C.code (s.fr f).fn (s.fr f).J= .ret a):s.bt f=[]:=by
 obtain⟨hl',hlt⟩:=rF hf hi hh;obtain⟨b1,b2,b3⟩:=hr f hlt;have hlf:s.loc f≠.waiting:=by rcases hf.hold i f hi hh with a | a<;>(have:=a.2;change s.loc f=_ at this;rw[this];simp)
 match hk:s.bt f with
 | []=>rfl
 | k::l =>
  obtain⟨x1,x2⟩:=h.b f hlt hlf k (by rw[hk];simp);exact absurd (x2▸ h.a f hlt hl' _ x1) (φ.rt _ _ _ b1 (b3 hl') hc _ x1)
end
theorem V6{α β:Type}[DecidableEq α](f:α->β)(a:α)(x y:β):cY (cY f a x) a y=cY f a y:=by
 funext z;simp only[cC];split<;>rfl
section
variable {C:kH}{φ:TX C}{s:St}{i:Nat}{σ:Nat->Nat->Nat}
theorem Q6(hf:(view s).FI C.N C.F)(hi:i<C.N){f:Nat}(hh:s.hold i=some f)(hp:s.pc i= .run)(hn:¬0<s.mem (.join f)-1):s.bt f=[]:=by
 have a:=hf.hold i f hi hh;have hg:(view s).g i= .run:=by show sig (s.pc i)=_;rw[hp];rfl
 rcases a with a | a
 ·rw[hg]at a;cases a.1
 ·have z:=hf.jn f (rF hf hi hh).2;rw[a.2]at z;have z:s.mem (.join f)=1+((s.bt f).length:Int):=z;exact Ew I
theorem SL.instr(hC:C.OK)(h:SL C φ s σ)(hr:FR C s)(hf:(view s).FI C.N C.F)(hi:i<C.N)(hp:s.pc i= .run) :∃σ',SL C φ (instr C s i).s σ':=by
 obtain⟨f,hh⟩:=sA hf hi (by rw[hp];rfl);obtain⟨hl,hn⟩:=rF hf hi hh;obtain⟨a1,a2,a3⟩:=hr f hn;have a3:=a3 hl;have ok:=hC.ins _ a1 _ a3;have hw:s.loc f≠.waiting:=by rcases hf.hold i f hi hh with a | a<;>(have:=a.2;change s.loc f=_ at this;rw[this];simp)
 have nf:∀j c,cY s.pc i .run j= .fork c->s.pc j= .fork c:=λj c e=>by
  rw[cC]at e;split at e
  ·cases e
  ·exact e
 unfold O7 at ok;unfold Am.instr;simp only[hh,oJ];split<;>rename_i hc<;>rw[hc]at ok<;>simp only at ok
 ·exact⟨σ,h.data hr hf hi hh rfl rfl rfl rfl (λ_ _ e=>e) rfl (by unfold CB;rw[hc];exact List.mem_singleton.2 rfl) (λc st=>by rw[hc];rfl)⟩
 ·exact⟨σ,h.data hr hf hi hh rfl rfl rfl rfl (λ_ _ e=>e) rfl (by unfold CB;rw[hc];exact List.mem_singleton.2 rfl) (λc st=>by rw[hc];rfl)⟩
 ·exact⟨σ,h.data hr hf hi hh rfl rfl rfl rfl (λ_ _ e=>e) rfl (by unfold CB;rw[hc];exact List.mem_singleton.2 rfl) (λc st=>by rw[hc];rfl)⟩
 ·exact⟨σ,h.data hr hf hi hh rfl rfl rfl rfl (λ_ _ e=>e) rfl (by unfold CB;rw[hc];exact List.mem_singleton.2 rfl) (λc st=>by rw[hc];rfl)⟩
 ·refine⟨σ,h.data hr hf hi hh rfl rfl rfl rfl (λ_ _ e=>e) (by split<;>rfl) ?_ (λc st=>by rw[hc];rfl)⟩;rename_i b_;have e:CB C (s.fr f).fn (s.fr f).J=[(s.fr f).J+1,b_]:=by unfold CB;rw[hc]
  rw[e];split
  ·exact Ik _ (List.mem_singleton.2 rfl)
  ·exact List.mem_cons.2 (.inl rfl)
 ·exact⟨σ,h.data hr hf hi hh rfl rfl rfl rfl (λ_ _ e=>e) rfl (by unfold CB;rw[hc];exact List.mem_singleton.2 rfl) (λc st=>by rw[hc];rfl)⟩
 ·exact⟨σ,h.data hr hf hi hh rfl rfl rfl rfl (λ_ _ e=>e) rfl (by unfold CB;rw[hc];exact List.mem_singleton.2 rfl) (λc st=>by rw[hc];rfl)⟩
 ·rename_i sl g c;split
  ·refine⟨cY σ f (cY (σ f) sl 2),h.tail (λk=>xD (s:=s) (f:=f) (y:={s.fr f with J:=(s.fr f).J+1}) rfl k) rfl (λk hk=>.inl ⟨hk,λc' e => ?_⟩) (λ_ _ e=>e) (λj c' hj e => ?_) (λk hk hlk c' E6 => ?_)⟩
   ·rw[cC];split
    ·next e' =>
      subst e';rw[cC];split
      ·rfl
      ·exact e
    ·exact e
   ·have e:cY s.pc i .full j= .fork c':=e;rw[cC]at e;split at e
    ·cases e
    ·refine⟨e,λx hx => ?_⟩;rw[cC];split
     ·next e' =>
       rw[cC];split
       ·rfl
       ·exact e'▸ hx
     ·exact hx
   ·have hfn:(cY s.fr f {s.fr f with J:=(s.fr f).J+1} k).fn=(s.fr k).fn:=mX (·.1) (xD (s:=s) (f:=f) (y:={s.fr f with J:=(s.fr f).J+1}) rfl k);show φ.R (cY s.fr f {s.fr f with J:=(s.fr f).J+1} k).fn (cY s.fr f {s.fr f with J:=(s.fr f).J+1} k).J c' _;have Kz:c'<φ.slots (cY s.fr f {s.fr f with J:=(s.fr f).J+1} k).fn:=E6;clear E6;rw[hfn]at Kz⊢;by_cases e:k=f
    ·subst e;rw[bA,bA];have:=φ.rn _ _ c' _ a1 a3 Kz (h.a k hn hl c' Kz) ((s.fr k).J+1) (by unfold CB;rw[hc];exact List.mem_singleton.2 rfl);rw[hc]at this;simp only[N4]at this;rw[cC];simp only[eq_comm (a:=c')];exact this
    ·rw[be e,be e];exact h.a k hk hlk c' Kz
  ·refine⟨_,h.spawn (y:={s.fr f with J:=(s.fr f).J+1,bt:=(s.fr f).bt+1}) (c0:=lf C (s.fr f) f sl g c) hr hf hi hh hp hc ok.2.1 ?_ rfl rfl rfl rfl rfl rfl ⟨rfl,rfl,rfl,rfl⟩⟩;show cY (cY (cY s.fr f _) f _) s.nf _=_;rw[V6]
 ·split
  ·exact⟨_,h.sync (l:=.waiting) hr hf hi hh hp hc rfl rfl rfl (.inl rfl) rfl (λj c e=>by
    have e:cY s.pc i .Fg j= .fork c:=e;rw[cC]at e;split at e
    ·cases e
    ·next hne=>exact⟨hne,e⟩) rfl rfl⟩
  ·rename_i hk;exact⟨_,h.sync (l:=.rj i) hr hf hi hh hp hc rfl rfl rfl (.inr (Q6 hf hi hh hp hk)) rfl (λj c e=>by
    have e:cY s.pc i .rR j= .fork c:=e;rw[cC]at e;split at e
    ·cases e
    ·next hne=>exact⟨hne,e⟩) rfl rfl⟩
 ·rename_i a;have hk:=h.Mt hr hf hi hh hc;have fin:∀(p:Pc),(∀c,p≠.fork c)->∀(s':St),s'.fr=cY s.fr f {s.fr f with J:=(s.fr f).J+1}->s'.nf=s.nf->s'.loc=cY s.loc f (.fin i)->s'.bt=s.bt->s'.pc=cY s.pc i p->SL C φ s' σ:=by
   intro p hp s' e1 e2 e3 e4 e5;refine h.tail (λk=>by rw[e1];exact xD (s:=s) (f:=f) (y:={s.fr f with J:=(s.fr f).J+1}) rfl k) e2 (λk hk' => ?_) (λk x hx=>e4▸ hx) (λj c hj e => ?_) (λk hk' hlk c' E6 => ?_)
   ·by_cases e:k=f
    ·subst e;exact .inr (by rw[e4];exact hk)
    ·rw[e3,be e]at hk';exact .inl ⟨hk',λ_ e=>e⟩
   ·rw[e5,cC]at e;split at e
    ·exact absurd e (hp c)
    ·exact⟨e,λ_ e=>e⟩
   ·have ek:k≠f:=λe=>by rw[e,e3,bA]at hlk;cases hlk
    rw[e1,be ek]at E6⊢;rw[e3,be ek]at hlk;exact h.a k (e2▸ hk') hlk c' E6
  split
  ·next e0=>subst e0;exact⟨σ,fin .done (λc e=>by cases e) _ rfl rfl rfl rfl rfl⟩
  ·exact⟨σ,fin (.out (s.fr f).par f) (λc e=>by cases e) _ rfl rfl rfl rfl rfl⟩
theorem SL.aH(hC:C.OK)(h:SL C φ s σ)(hr:FR C s)(hf:(view s).FI C.N C.F)(hd:DT C s)(hi:i<C.N)(d:Int) :∃σ',SL C φ (aH C s i d).s σ':=by
 cases hp:s.pc i with
 | run=>unfold Am.aH;rw[hp];exact SL.instr hC h hr hf hi hp
 | fork c =>
  obtain⟨f,hh⟩:=sA hf hi (by rw[hp];rfl);obtain⟨hl,hn⟩:=rF hf hi hh;have hg:(view s).g i= .fork c:=by show sig (s.pc i)=_;rw[hp];rfl
  have fk:=hf.fk i c hi hg;have ep:(s.fr c).par=f:=Option.some.inj (fk.2.2.1.symm.trans hh);unfold Am.aH;rw[hp];simp only[hh,oJ];refine⟨σ,?_⟩;have kf:∀g k,k∈cY s.bt f (c::s.bt f) g->(g=f/\k=c)∨k∈s.bt g:=λg k e=>by
   rw[cC]at e;split at e
   ·next e' =>
     rcases List.mem_cons.1 e with e | e
     ·exact .inl ⟨e',e⟩
     ·exact .inr (e'▸ e)
   ·exact .inr e
  have pf:∀j x,cY s.pc i (.Cd c) j= .fork x->j≠i/\s.pc j= .fork x:=λj x e=>by
   rw[cC]at e;split at e
   ·cases e
   ·next e'=>exact⟨e',e⟩
  have h2:=h.k i c hi hp;have h3:=h.v i c hi hp;rw[ep]at h2 h3;refine⟨h.a,?_,?_,?_,?_⟩
  ·intro g hg hw k hk;rcases kf g k hk with ⟨rfl,rfl⟩ | e
   ·exact h2
   ·exact h.b g hg hw k e
  ·intro j x hj e;exact h.k j x hj (pf j x e).2
  ·intro g k hk k' hk' e;rcases kf g k hk with ⟨e1,rfl⟩ | e1
   ·rcases kf g k' hk' with ⟨_,rfl⟩ | e2
    ·rfl
    ·subst e1;exact absurd e.symm (h3 k' e2)
   ·rcases kf g k' hk' with ⟨e3,rfl⟩ | e2
    ·subst e3;exact absurd e (h3 k e1)
    ·exact h.u g k e1 k' e2 e
  ·intro j x hj e k hk;obtain⟨n1,n2⟩:=pf j x e;rcases kf _ k hk with ⟨e1,rfl⟩ | e1
   ·exfalso
    have q:=(hf.fk j x hj (by show sig (s.pc j)=_;rw[n2];rfl)).2.2.1;have q:s.hold j=some (s.fr x).par:=q;have e1:(s.fr x).par=f:=e1;rw[e1]at q;exact n1 (Bd hf hj hi q hh)
   ·exact h.v j x hj n2 k e1
 | start x =>
  unfold Am.aH;rw[hp];simp only;exact⟨σ,h.W9 rfl rfl rfl rfl rfl (λc e=>by cases e)⟩
 | rR =>
  obtain⟨f,hh⟩:=sA hf hi (by rw[hp];rfl);unfold Am.aH;rw[hp];simp only[hh,oJ];have hg:(view s).g i= .one:=by show sig (s.pc i)=_;rw[hp];rfl
  refine⟨σ,h.put rfl rfl rfl rfl rfl (λc e=>by cases e) (λ_=>(rF hf hi hh).1) (.inl ?_)⟩;rcases hf.hold i f hi hh with a | a<;>(have:=a.2;change s.loc f=_ at this;rw[this];simp)
 | out p c =>
  have hg:(view s).g i= .out p c:=by show sig (s.pc i)=_;rw[hp];rfl
  unfold Am.aH;rw[hp];simp only;have hc:=(hf.out i p c hi hg).2.1;have hc:s.loc c= .fin i:=hc;have pf:∀(q:Pc),(∀x,q≠.fork x)->∀j x,cY s.pc i q j= .fork x->s.pc j= .fork x:=λq hq j x e=>by
   rw[cC]at e;split at e
   ·exact absurd e (hq x)
   ·exact e
  have ke:∀g,∀k∈cY s.bt p ((s.bt p).erase c) g,k∈s.bt g:=λg k hk=>by
   rw[cC]at hk;split at hk
   ·next e=>subst e;exact List.mem_of_mem_erase hk
   ·exact hk
  split
  ·rename_i hn;obtain⟨hw,hk,hne⟩:=hf.iz hi hg hn;have hw:s.loc p= .waiting:=hw;have hk:s.bt p=[c]:=hk;refine⟨σ,h.of rfl rfl (λg hg => ?_) (λg hg => ?_) ke (pf _ (λx e=>by cases e))⟩
   ·have hg:live (cY (cY s.loc c .gone) p (.sM i) g)=true:=hg;rw[cC]at hg;split at hg
    ·next e=>subst e;rw[hw];rfl
    ·rw[cC]at hg;split at hg
     ·cases hg
     ·exact hg
   ·by_cases e:g=p
    ·subst e;right;show cY s.bt g _ g=[];rw[bA,hk];simp
    ·have hg:cY (cY s.loc c .gone) p (.sM i) g≠.waiting:=hg;rw[be e,cC]at hg;split at hg
     ·next e=>left;rw[e,hc];simp
     ·exact .inl hg
  ·refine⟨σ,h.of rfl rfl (λg hg => ?_) (λg hg => ?_) ke (pf _ (λx e=>by cases e))⟩
   ·have hg:live (cY s.loc c .gone g)=true:=hg;rw[cC]at hg;split at hg
    ·cases hg
    ·exact hg
   ·have hg:cY s.loc c .gone g≠.waiting:=hg;rw[cC]at hg;split at hg
    ·next e=>left;rw[e,hc];simp
    ·exact .inl hg
 | take p c =>
  have hg:(view s).g i= .take p c:=by show sig (s.pc i)=_;rw[hp];rfl
  unfold Am.aH;rw[hp];simp only;have e:s.loc p= .sM i:=hf.tk i p c hi hg;exact⟨σ,h.put rfl rfl rfl rfl rfl (λc e=>by cases e) (λ_=>by rw[e];rfl) (.inl (by rw[e];simp))⟩
 | rh c b =>
  have hg:(view s).g i= .push c:=by show sig (s.pc i)=_;rw[hp];rfl
  have e:s.loc c= .bU i:=(hf.ps i c hi hg).2.1;unfold Am.aH;rw[hp];simp only;exact⟨σ,h.put rfl rfl rfl rfl rfl (λc e=>by cases e) (λ_=>by rw[e];rfl) (.inl (by rw[e];simp))⟩
 | Dg b =>
  have P:=(hd.1 i hi).ph;unfold qU at P;rw[hp]at P;simp only at P;unfold Am.aH;rw[hp];simp only;split
  ·rename_i hlt;have hne:s.q i≠[]:=by
    intro e;simp only[St.L,St.T,e,yj]at P;omega
   have hm:(s.q i).getLastD 0∈s.q i:=by
    rw[Oa,List.getLast?_eq_some_getLast hne];exact List.getLast_mem hne
   have e:s.loc ((s.q i).getLastD 0)= .Nq i:=(hf.q i _ hi hm).2;exact⟨σ,h.put rfl rfl rfl rfl rfl (λc e=>by cases e) (λ_=>by rw[e];rfl) (.inl (by rw[e];simp))⟩
  ·split<;>exact⟨σ,h.W9 rfl rfl rfl rfl rfl (λc e=>by cases e)⟩
 | rS b t cc =>
  have P:=(hd.1 i hi).ph;unfold qU at P;rw[hp]at P;simp only at P;unfold Am.aH;rw[hp];simp only;split
  ·rename_i hlt;obtain⟨x,hx,he⟩:=(P.1.2.2.2.1 hlt).2.2;rw[<-P.2]at he;rw[he];have e:s.loc x= .pop i:=(hf.pop i x hi hx).2;refine⟨σ,h.put (f:=x) (l:=.held i) (p:=.start (-1)) rfl rfl (by simp only[got,St.put,St.mL,St.to,St.holds,cO]) rfl rfl (λc e=>by cases e) (λ_=>by rw[e];rfl) (.inl (by rw[e];simp))⟩
  ·exact⟨σ,h.W9 rfl rfl rfl rfl rfl (λc e=>by cases e)⟩
 | uh b t x =>
  have P:=(hd.1 i hi).ph;unfold qU at P;rw[hp]at P;simp only at P;unfold Am.aH;rw[hp];simp only;split
  ·rename_i ht;have hq:=(P.2.2.2.2.1 ht).1;have e:s.loc x.toNat= .Nq i:=(hf.q i _ hi (by show x.toNat∈s.q i;rw[hq];simp)).2;exact⟨σ,h.put rfl rfl rfl rfl rfl (λc e=>by cases e) (λ_=>by rw[e];rfl) (.inl (by rw[e];simp))⟩
  ·exact⟨σ,h.W9 rfl rfl rfl rfl rfl (λc e=>by cases e)⟩
 | sL t x Ae =>
  have P:=(hd.1 i hi).ph;unfold qU at P;rw[hp]at P;simp only at P;unfold Am.aH;rw[hp];simp only;split
  ·rename_i hw;have e:s.loc x.toNat= .pop i:=(hf.pop i _ hi (P.2.2.2 hw).1).2;exact⟨σ,h.put (f:=x.toNat) (l:=.held i) (p:=.start (-1)) rfl rfl rfl rfl rfl (λc e=>by cases e) (λ_=>by rw[e];rfl) (.inl (by rw[e];simp))⟩
  ·refine⟨σ,h.W9 (p:=if C.N=1 then .flag else .oC) rfl rfl rfl rfl rfl (λc e => ?_)⟩;split at e<;>cases e
 | oD v t x =>
  have HT:=hd.2 i hi;unfold Th at HT;rw[hp]at HT;simp only at HT;unfold Am.aH;rw[hp];simp only;split
  ·rename_i ht;obtain⟨y,l,hq,hx⟩:=HT.2.2.2 ht.symm;have e:s.loc x.toNat= .Nq v:=(hf.q v _ HT.1 (by show x.toNat∈s.q v;rw[hq,hx];simp)).2;exact⟨σ,h.put (f:=x.toNat) (l:=.held i) (p:=.start v) rfl rfl rfl rfl rfl (λc e=>by cases e) (λ_=>by rw[e];rfl) (.inl (by rw[e];simp))⟩
  ·exact⟨σ,h.W9 rfl rfl rfl rfl rfl (λc e=>by cases e)⟩
 | halted=>unfold Am.aH;rw[hp];exact⟨σ,h⟩
 | full=>unfold Am.aH;rw[hp];exact⟨σ,h⟩
 | parked =>
  unfold Am.aH;rw[hp];simp only;split
  ·exact⟨σ,h⟩
  ·refine⟨σ,h.W9 (p:=if C.N=1 then .flag else .oC) rfl rfl rfl rfl rfl (λc e => ?_)⟩;split at e<;>cases e
 | _ =>
  unfold Am.aH;rw[hp];simp only[oG,looking,Cu,GG]
  repeat' split
  all_goals exact⟨σ,h.W9 rfl rfl rfl rfl rfl (λc e=>by first | (cases e;done) | (split at e<;>cases e;done) | (split at e<;>(try split at e)<;>cases e;done))⟩
end
end Am
end
section
namespace Mo
open Go SL GX
section
theorem V7{α:Type}[Inhabited α]{l:List α}{i:Nat}(h:i<l.length):J l i=l[i]:=by
 unfold J;rw[List.getD_eq_getElem?_getD,List.getElem?_eq_getElem h];rfl
theorem V8{p:aJ}{N F f m:Nat}(hv:Valid p) :∃φ:Am.TX (cfg p N F f m),True:=by
 have kd:∀g a,g<p.ah.length->a<(J p.ah g).aq.length->(J (J p.ah g).aq a).aE=0∨(J (J p.ah g).aq a).aE=1∨(J (J p.ah g).aq a).aE=2∨(J (J p.ah g).aq a).aE=3∨(J (J p.ah g).aq a).aE=4∨(J (J p.ah g).aq a).aE=5∨(J (J p.ah g).aq a).aE=6∨(J (J p.ah g).aq a).aE=7∨(J (J p.ah g).aq a).aE=8∨(J (J p.ah g).aq a).aE=9:=λg a hg ha=>by
  have hk:=(Code.snd (hv.Jx g hg) (hv.code g hg)).kind (a:Int) I I;rw[cO]at hk;omega
 have al:∀g a,g<p.ah.length->a<(J p.ah g).aq.length->ot (J p.ah g) (J (J p.ah g).aq a)=true:=λg a hg ha=>((hv.code g hg).ins a ha).1;refine⟨⟨λg=>(J p.ah g).bD.toNat,λg a c st=>((a:Int),(st:Int))∈reach (J p.ah g) (c:Int),?_,?_,?_,?_,?_⟩,cz⟩
 ·intro g hg c hc;exact(Gr (Code.snd (hv.Jx g hg) (hv.code g hg)) (c:Int)).2.2
 ·intro g a c st hg ha hc hR n hn;change g<p.ah.length at hg;change a<(J p.ah g).aq.length at ha;change c<(J p.ah g).bD.toNat at hc;obtain⟨ok,cl,_⟩:=Gr (Code.snd (hv.Jx g hg) (hv.code g hg)) (c:Int);obtain⟨j,hj,e⟩:=List.getElem_of_mem hR;have ej:J (reach (J p.ah g) (c:Int)) j=((a:Int),(st:Int)):=(V7 hj).trans e;have:=cl j hj hj;rw[ej]at this;have hst:(Am.N4 (qW (J (J p.ah g).aq a)) c st:Int)=Na (J p.ah g) c a st/\(∀n∈Am.CB (cfg p N F f m) g a,(n:Int)∈nx (J p.ah g) a):=by
   have a1:=al g a hg ha;unfold Na nx Am.CB;show(Am.N4 (qW (J (J p.ah g).aq a)) c st:Int)=_/\∀n∈(match qW (J (J p.ah g).aq a)with | .jump t=>[t] | .branch _ t=>[a+1,t] | .ret _=>[] | _=>[a+1]),_;rw[cO];have hk:=kd g a hg ha;unfold ot at a1;generalize J (J p.ah g).aq a=x at *;unfold qW;rcases hk with k | k | k | k | k | k | k | k | k | k<;>simp[k,uu,Am.N4]at a1⊢
   ·omega
   ·omega
   ·obtain⟨a1,a2⟩:=a1;have e:x.A.toNat=c↔x.A=(c:Int):=by omega
    by_cases h:x.A=(c:Int)
    ·rw[aP (e.2 h),aP h];rfl
    ·rw[ct (λh'=>h (e.1 h')),ct h]
   ·by_cases h:st=2
    ·rw[aP h,pR];rfl
    ·rw[ct h,ez]
  rw[<-hst.1]at this;exact this n (hst.2 n hn)
 ·intro g a s f' c hg ha hc;change g<p.ah.length at hg;change a<(J p.ah g).aq.length at ha;have hc:qW (J (J p.ah g).aq a)= .spawn s f' c:=hc;have a1:=al g a hg ha;have so:=(hv.slot g hg a ha).1;have hk:=kd g a hg ha;unfold ot at a1;generalize J (J p.ah g).aq a=x at *;unfold qW at hc;rcases hk with k | k | k | k | k | k | k | k | k | k<;>simp[k]at hc
  simp[k,uu]at a1;have so:=so k;have e:x.A=(s:Int):=by omega
  rw[e]at so;exact⟨by show s<(J p.ah g).bD.toNat;omega,so⟩
 ·intro g a x0 s hg ha hc;change g<p.ah.length at hg;change a<(J p.ah g).aq.length at ha;have hc:qW (J (J p.ah g).aq a)= .load x0 s:=hc;have a1:=al g a hg ha;have so:=(hv.slot g hg a ha).2.1;have hk:=kd g a hg ha;unfold ot at a1;generalize J (J p.ah g).aq a=x at *;unfold qW at hc;rcases hk with k | k | k | k | k | k | k | k | k | k<;>simp[k]at hc
  simp[k,uu]at a1;have so:=so k;have e:x.B=(s:Int):=by omega
  rw[e]at so;exact⟨by show s<(J p.ah g).bD.toNat;omega,so.1,so.2⟩
 ·intro g a x0 hg ha hc c E6;change g<p.ah.length at hg;change a<(J p.ah g).aq.length at ha;have hc:qW (J (J p.ah g).aq a)= .ret x0:=hc;have so:=(hv.slot g hg a ha).2.2;have hk:=kd g a hg ha;generalize J (J p.ah g).aq a=x at *;unfold qW at hc;rcases hk with k | k | k | k | k | k | k | k | k | k<;>simp[k]at hc
  exact so k c E6
end
end Mo
end
section
namespace Am
structure JG where
 out:Nat->Nat
 wt:Nat->Bool
def EJ(k:Nat):Bool:=k==9||k==10||k==11||k==3
def Xa(g:JG)(e:Ev):Prop:=
 if EJ e.kind=true then True
 else g.wt e.au.toNat=(e.kind==7)/\(e.kind=6∨e.kind=5∨e.kind=7->g.out e.au.toNat=0)/\(e.kind=6->0<e.au->1<=g.out e.x.toNat/\e.x.toNat≠e.au.toNat)
theorem Xb{g:JG}{e:Ev}(h:EJ e.kind=false)(h2:g.wt e.au.toNat=(e.kind==7)/\(e.kind=6∨e.kind=5∨e.kind=7->g.out e.au.toNat=0)/\(e.kind=6->0<e.au->1<=g.out e.x.toNat/\e.x.toNat≠e.au.toNat)):Xa g e:=by
 unfold Xa;rw[dJ h];exact h2
def Xc(g:JG)(e:Ev):JG:=
 if e.kind=2 then {g with out:=cY g.out e.x.toNat (g.out e.x.toNat+1)}
 else if e.kind=6 then(if 0<e.au then {g with out:=cY g.out e.x.toNat (g.out e.x.toNat-1)}else g)
 else if e.kind=4 then {g with wt:=cY g.wt e.au.toNat true}
 else if e.kind=5∨e.kind=7 then {g with wt:=cY g.wt e.au.toNat false}
 else g
def jIn(C:kH)(e:Ev):Prop:=EJ e.kind=false->(0<=e.au/\e.au<C.F)/\(e.kind=2->0<e.au/\0<=e.x/\e.x<C.F)/\(e.kind=6->0<e.au->0<=e.x/\e.x<C.F)
def FE:Loc->Bool
 | .bU _ | .fin _=>false
 | _=>true
def Rq:Loc->Bool
 | .waiting | .sM _=>true
 | _=>false
def cn(loc:Nat->Loc):List Nat->Nat
 | []=>0
 | k::l=>(if FE (loc k)=true then 1 else 0)+cn loc l
theorem Mu{a b:Nat->Loc}:∀{l:List Nat},(∀k∈l,FE (a k)=FE (b k))->cn a l=cn b l
 | [],_=>rfl
 | k::l,h=>by
  show(if FE (a k)=true then 1 else 0)+cn a l=(if FE (b k)=true then 1 else 0)+cn b l;rw[h k (by simp),Mu (λx hx=>h x (Ik _ hx))]
theorem uQ{a:Nat->Loc}{c:Nat}{x:Loc}{l:List Nat}(h:c∈l->FE x=FE (a c)):cn (cY a c x) l=cn a l:=
 Mu λk hk=>by
  rw[cC];split
  ·next e=>subst e;exact h hk
  ·rfl
theorem PD{a:Nat->Loc}{c:Nat}{x:Loc}:∀{l:List Nat},l.Nodup->c∈l->FE (a c)=false->FE x=true->cn (cY a c x) l=cn a l+1
 | [],_,h,_,_=>by cases h
 | k::l,hn,h,h1,h2=>by
  obtain⟨n1,n2⟩:=List.nodup_cons.1 hn;show(if FE (cY a c x k)=true then 1 else 0)+cn (cY a c x) l=(if FE (a k)=true then 1 else 0)+cn a l+1;by_cases e:k=c
  ·subst e;rw[bA,h1,h2,uQ (λh=>absurd h n1)];simp;omega
  ·rw[be e,PD n2 (by rcases List.mem_cons.1 h with h | h;exact absurd h.symm e;exact h) h1 h2];omega
theorem TY{a:Nat->Loc}{c:Nat}{x:Loc}:∀{l:List Nat},l.Nodup->c∈l->FE (a c)=true->FE x=false->cn (cY a c x) l+1=cn a l
 | [],_,h,_,_=>by cases h
 | k::l,hn,h,h1,h2=>by
  obtain⟨n1,n2⟩:=List.nodup_cons.1 hn;show(if FE (cY a c x k)=true then 1 else 0)+cn (cY a c x) l+1=(if FE (a k)=true then 1 else 0)+cn a l;by_cases e:k=c
  ·subst e;rw[bA,h1,h2,uQ (λh=>absurd h n1)];simp;omega
  ·rw[be e,Ii,TY n2 (by rcases List.mem_cons.1 h with h | h;exact absurd h.symm e;exact h) h1 h2]
theorem GW{a:Nat->Loc}{c:Nat}(h:FE (a c)=false):∀{l:List Nat},cn a (l.erase c)=cn a l
 | []=>rfl
 | k::l=>by
  rw[List.erase_cons];split
  ·next e =>
   have e:k=c:=by simpa using e
   subst e;show cn a l=(if FE (a k)=true then 1 else 0)+cn a l;rw[h];simp
  ·show(if FE (a k)=true then 1 else 0)+cn a (l.erase c)=(if FE (a k)=true then 1 else 0)+cn a l;rw[GW h]
structure JI(w:afs)(g:JG):Prop where
 o:∀f,g.out f=cn w.v.loc (w.v.bt f)
 t:∀f,g.wt f=Rq (w.v.loc f)
section
variable {C:kH}{w:afs}{i:Nat}{g:JG}
theorem JI.of{w':afs}(j:JI w g)(h1:w'.v.bt=w.v.bt){f:Nat}{x:Loc}(h2:w'.v.loc=cY w.v.loc f x)(hc:∀p,f∈w.v.bt p->FE x=FE (w.v.loc f))(hw:Rq x=Rq (w.v.loc f)):JI w' g:=
 ⟨λp=>by rw[h1,h2,uQ (hc p)];exact j.o p,λp=>by
  rw[h2,j.t p,cC];split
  ·next e=>subst e;exact hw.symm
  ·rfl⟩
theorem JI.aH{w':afs}{e:Option Ev}(tr:Tr C i w e w')(hi:i<C.N)(h:w.v.FI C.N C.F)(hr:w.v.g i= .run->(∃x,e=some x/\x.kind=6)->∀f,w.v.hold i=some f->w.v.bt f=[])(j:JI w g):match e with
 | none=>JI w' g
 | some e=>Xa g e/\jIn C e/\JI w' (Xc g e):=by
 have hF:=h.wj;have lt:∀f,w.v.loc f≠.free->f<C.F:=λf hf=>by
  rcases zG f w.v.nf with h' | h'
  ·omega
  ·exact absurd (h.free f h') hf
 have kd:=h.kd;have hlt:∀f,w.v.hold i=some f->f<C.F:=λf hf=>by have:=sB h hi hf;omega
 have ha:∀f,w.v.hold i=some f->w.v.loc f= .rj i∨w.v.loc f= .held i:=λf hf=>(h.hold i f hi hf).elim (λa=>.inl a.2) (λa=>.inr a.2);have Rp:∀f,w.v.hold i=some f->Rq (w.v.loc f)=false:=λf hf=>by rcases ha f hf with e | e<;>rw[e]<;>rfl
 have hct:∀f,w.v.hold i=some f->FE (w.v.loc f)=true:=λf hf=>by rcases ha f hf with e | e<;>rw[e]<;>rfl
 cases tr with
 | gE e he =>
  cases e with
  | none=>exact j
  | some x =>
   simp only[quiet,xb,vJ]at he;have a1:EJ x.kind=true:=by simp only[EJ,xb,vJ];omega
   have a2:x.kind≠2/\x.kind≠6/\x.kind≠4/\x.kind≠5/\x.kind≠7:=by omega
   obtain⟨b1,b2,b3,b4,b5⟩:=a2;refine⟨by unfold Xa;rw[aP a1];trivial,(λh=>by rw[a1]at h;cases h),?_⟩;unfold Xc;rw[ct b1,ct b2,ct b3,ez];exact j
 | full c hg=>exact⟨trivial,(λh=>by cases h),j.o,j.t⟩
 | start f hg hf =>
  refine⟨?_,λ_=>⟨⟨by show(0:Int)<=f;omega,by have:=hlt f hf;show(f:Int)<C.F;omega⟩,(λh=>by cases h),(λh=>by cases h)⟩,j.o,j.t⟩;exact Xb rfl ⟨by show g.wt f=false;rw[j.t f,Rp f hf],(λh=>by rcases h with h | h | h<;>cases h),(λh=>by cases h)⟩
 | spawn f hg hf hn =>
  exact j.of (f:=w.v.nf) (x:=.bU i) rfl rfl (λp hp=>absurd (h.free _ (j5 _)) (kd p _ hp).2.2.2) (by rw[h.free _ (j5 _)];rfl)
 | zx hg hn=>exact⟨trivial,(λh=>by cases h),j.o,j.t⟩
 | fork c f hg hf =>
  refine⟨λp => ?_,j.t⟩;show g.out p=cn w.v.loc (cY w.v.bt f (c::w.v.bt f) p);rw[cC];split
  ·next e=>subst e;show _=(if FE (w.v.loc c)=true then 1 else 0)+cn w.v.loc (w.v.bt p);rw[(h.fk i c hi hg).2.1,<-j.o p];simp[FE]
  ·exact j.o p
 | push c f hg hf =>
  obtain⟨Y,p2,p3,p4⟩:=h.ps i c hi hg;have ep:w.v.par c=f:=Option.some.inj (p3.symm.trans hf);have hcF:c<C.F:=lt c (by rw[p2];simp);have hfF:=hlt f hf;refine⟨Xb rfl ⟨by show g.wt c=false;rw[j.t c,p2];rfl,(λh=>by rcases h with h | h | h<;>cases h),(λh=>by cases h)⟩,λ_=>⟨⟨by show(0:Int)<=c;omega,by show(c:Int)<C.F;omega⟩,λ_=>⟨by show(0:Int)<c;omega,by show(0:Int)<=f;omega,by show(f:Int)<C.F;omega⟩,(λh=>by cases h)⟩,?_,?_⟩
  ·intro p;show cY g.out (f:Int).toNat (g.out (f:Int).toNat+1) p=cn (cY w.v.loc c (.Nq i)) (w.v.bt p);rw[cO,cC];split
   ·next e=>subst e;rw[PD (h.G p) (by rw[<-ep];exact p4) (by rw[p2];rfl) rfl,j.o p]
   ·next e=>rw[uQ (λhc=>absurd ((kd p c hc).2.1.symm.trans ep) e)];exact j.o p
  ·intro p;show g.wt p=Rq (cY w.v.loc c (.Nq i) p);rw[j.t p,cC];split
   ·next e=>subst e;rw[p2];rfl
   ·rfl
 | wait f hg hf hk =>
  refine⟨Xb rfl ⟨by show g.wt f=false;rw[j.t f,Rp f hf],(λh=>by rcases h with h | h | h<;>cases h),(λh=>by cases h)⟩,λ_=>⟨⟨by show(0:Int)<=f;omega,by have:=hlt f hf;show(f:Int)<C.F;omega⟩,(λh=>by cases h),(λh=>by cases h)⟩,?_,?_⟩
  ·intro p;show g.out p=cn (cY w.v.loc f .waiting) (w.v.bt p);rw[uQ (λ_=>by rw[hct f hf];rfl)];exact j.o p
  ·intro p;show cY g.wt (f:Int).toNat true p=Rq (cY w.v.loc f .waiting p);rw[cO,cC,cC];split
   ·rfl
   ·exact j.t p
 | pass f hg hf hk=>exact j.of (f:=f) (x:=.rj i) rfl rfl (λp _=>by rw[hct f hf];rfl) (by rw[Rp f hf];rfl)
 | one f hg hf =>
  have z:w.v.loc f= .rj i:=by
   rcases h.hold i f hi hf with a | a
   ·exact a.2
   ·exact absurd hg a.1
  have zj:=h.jn f (sB h hi hf);rw[z]at zj;refine⟨Xb rfl ⟨by show g.wt f=false;rw[j.t f,Rp f hf],λ_=>by show g.out f=0;rw[j.o f,zj.2];rfl,(λh=>by cases h)⟩,λ_=>⟨⟨by show(0:Int)<=f;omega,by have:=hlt f hf;show(f:Int)<C.F;omega⟩,(λh=>by cases h),(λh=>by cases h)⟩,?_,?_⟩
  ·intro p;show g.out p=cn (cY w.v.loc f (.held i)) (w.v.bt p);rw[uQ (λ_=>by rw[hct f hf];rfl)];exact j.o p
  ·intro p;show cY g.wt (f:Int).toNat false p=Rq (cY w.v.loc f (.held i) p);rw[cO,cC,cC];split
   ·rfl
   ·exact j.t p
 | H8 v hg hf =>
  have hk:=hr hg ⟨_,rfl,rfl⟩ 0 hf;refine⟨Xb rfl ⟨by show g.wt 0=false;rw[j.t 0,Rp 0 hf],λ_=>by show g.out 0=0;rw[j.o 0,hk];rfl,λ_ h=>absurd h (by show ¬(0:Int)<0;omega)⟩,λ_=>⟨⟨by show(0:Int)<=0;omega,by have:=hlt 0 hf;show(0:Int)<C.F;omega⟩,(λh=>by cases h),λ_ h=>absurd h (by show ¬(0:Int)<0;omega)⟩,?_⟩;show JI _ g;exact j.of (f:=0) (x:=.fin i) rfl rfl (λp hp=>absurd rfl (kd p 0 hp).1) (by rw[Rp 0 hf];rfl)
 | ret f v hg hf h0 =>
  have hk:=hr hg ⟨_,rfl,rfl⟩ f hf;have hfn:=sB h hi hf;have hl:w.v.loc f= .held i:=by
   rcases h.hold i f hi hf with a | a
   ·rw[hg]at a;cases a.1
   ·exact a.2
  have hm:f∈w.v.bt (w.v.par f):=by
   rcases h.un f h0 hfn (by rw[hl];simp)with e | e
   ·exact e
   ·rw[hl]at e;exact e.elim
  have hne:w.v.par f≠f:=λe=>by rw[e,hk]at hm;cases hm
  have hpF:=h.pr f hfn;have aey:=hct f hf;have aaK:=TY (x:=.fin i) (h.G (w.v.par f)) hm aey rfl;have ho:=j.o (w.v.par f);refine⟨Xb rfl ⟨by show g.wt f=false;rw[j.t f,Rp f hf],λ_=>by show g.out f=0;rw[j.o f,hk];rfl,λ_ _=>⟨by show 1<=g.out (w.v.par f);omega,by show w.v.par f≠f;exact hne⟩⟩,λ_=>⟨⟨by show(0:Int)<=f;omega,by show(f:Int)<C.F;omega⟩,(λh=>by cases h),λ_ _=>⟨by show(0:Int)<=w.v.par f;omega,by show(w.v.par f:Int)<C.F;omega⟩⟩,?_⟩;have hpos:(0:Int)<f:=by omega
  show JI _ (if(0:Int)<(f:Int)then {g with out:=cY g.out (w.v.par f) (g.out (w.v.par f)-1)}else g);rw[aP hpos];constructor
  ·intro p;show cY g.out (w.v.par f) (g.out (w.v.par f)-1) p=cn (cY w.v.loc f (.fin i)) (w.v.bt p);rw[cC];split
   ·next e=>subst e;omega
   ·next e=>rw[uQ (λhc=>absurd (kd p f hc).2.1.symm e)];exact j.o p
  ·intro p;show g.wt p=Rq (cY w.v.loc f (.fin i) p);rw[j.t p,cC];split
   ·next e=>subst e;rw[hl];rfl
   ·rfl
 | LU p c hg hn =>
  obtain⟨o1,o2,o3⟩:=h.out i p c hi hg;refine⟨λq => ?_,λq => ?_⟩
  ·show g.out q=cn (cY w.v.loc c .gone) (cY w.v.bt p ((w.v.bt p).erase c) q);rw[cC];split
   ·next e=>subst e;rw[uQ (λhc=>absurd hc (List.Nodup.not_mem_erase (h.G q))),GW (by rw[o2];rfl)];exact j.o q
   ·next e=>rw[uQ (λhc=>absurd ((kd q c hc).2.1.symm.trans o3.symm) e)];exact j.o q
  ·show g.wt q=Rq (cY w.v.loc c .gone q);rw[j.t q,cC];split
   ·next e=>subst e;rw[o2];rfl
   ·rfl
 | LV p c hg hn =>
  obtain⟨o1,o2,o3⟩:=h.out i p c hi hg;obtain⟨w1,w2,w3⟩:=h.iz hi hg hn;have hl:(cY w.v.loc c .gone) p= .waiting:=by rw[be w3,w1]
  refine⟨λq => ?_,λq => ?_⟩
  ·show g.out q=cn (cY (cY w.v.loc c .gone) p (.sM i)) (cY w.v.bt p ((w.v.bt p).erase c) q);rw[uQ (λ_=>by rw[hl];rfl),cC];split
   ·next e=>subst e;rw[uQ (λhc=>absurd hc (List.Nodup.not_mem_erase (h.G q))),GW (by rw[o2];rfl)];exact j.o q
   ·next e=>rw[uQ (λhc=>absurd ((kd q c hc).2.1.symm.trans o3.symm) e)];exact j.o q
  ·show g.wt q=Rq (cY (cY w.v.loc c .gone) p (.sM i) q);rw[j.t q,cC];split
   ·next e=>subst e;rw[w1];rfl
   ·rw[cC];split
    ·next e=>subst e;rw[o2];rfl
    ·rfl
 | take p c hg =>
  have tl:=h.tk i p c hi hg;have hpn:p<w.v.nf:=by
   rcases zG p w.v.nf with h' | h'
   ·exact h'
   ·have:=h.free p h';rw[tl]at this;cases this
  have zj:=h.jn p hpn;rw[tl]at zj;refine⟨Xb rfl ⟨by show g.wt p=true;rw[j.t p,tl];rfl,λ_=>by show g.out p=0;rw[j.o p,zj.2];rfl,(λh=>by cases h)⟩,λ_=>⟨⟨by show(0:Int)<=p;omega,by show(p:Int)<C.F;omega⟩,(λh=>by cases h),(λh=>by cases h)⟩,?_,?_⟩
  ·intro q;show g.out q=cn (cY w.v.loc p (.held i)) (w.v.bt q);rw[uQ (λ_=>by rw[tl];rfl)];exact j.o q
  ·intro q;show cY g.wt (p:Int).toNat false q=Rq (cY w.v.loc p (.held i) q);rw[cO,cC,cC];split
   ·rfl
   ·exact j.t q
 | mL x l hg hq =>
  have e:=(h.q i x hi (by rw[hq];simp)).2;exact j.of (f:=x) (x:=.pop i) rfl rfl (λ_ _=>by rw[e];rfl) (by rw[e];rfl)
 | LW x hg hq =>
  have e:=(h.q i x hi (by rw[hq];simp)).2;exact j.of (f:=x) (x:=.pop i) rfl rfl (λ_ _=>by rw[e];rfl) (by rw[e];rfl)
 | got x hg hx =>
  have e:=(h.pop i x hi hx).2;exact j.of (f:=x) (x:=.held i) rfl rfl (λ_ _=>by rw[e];rfl) (by rw[e];rfl)
 | EH k x l hk I7 hg hx =>
  have e:=(h.q k x hk (by rw[hx];simp)).2;have hxF:=lt x (by rw[e];simp);refine⟨Xb rfl ⟨by show g.wt x=false;rw[j.t x,e];rfl,(λh=>by rcases h with h | h | h<;>cases h),(λh=>by cases h)⟩,λ_=>⟨⟨by show(0:Int)<=x;omega,by show(x:Int)<C.F;omega⟩,(λh=>by cases h),(λh=>by cases h)⟩,?_⟩;exact j.of (f:=x) (x:=.held i) rfl rfl (λ_ _=>by rw[e];rfl) (by rw[e];rfl)
theorem JI.acj{w':afs}{e:Option Ev}(tr:Tr C i w e w')(hi:i<C.N)(h:w.v.FI C.N C.F)(hr:w.v.g i= .run->(∃x,e=some x/\x.kind=6)->∀f,w.v.hold i=some f->w.v.bt f=[])(j:JI w g):(e=none->JI w' g)/\∀x,e=some x->Xa g x/\jIn C x/\JI w' (Xc g x):=by
 have:=JI.aH tr hi h hr j;cases e with
 | none=>exact⟨λ_=>this,λx h=>(by cases h)⟩
 | some x=>exact⟨λh=>(by cases h),λy hy=>(by cases hy;exact this)⟩
end
end Am
end
section
namespace Mo
open Go SL GX
section
variable {K:Nat}{C:Am.kH}
def jA(C:Am.kH):Am.JG->List aj->Prop
 | _,[]=>True
 | o,e::l=>(Am.Xa o (Fj e)/\Am.jIn C (Fj e)/\0<=e.aE)/\jA C (Am.Xc o (Fj e)) l
def jF(o:Am.JG)(l:List aj):Am.JG:=l.foldl (λo e=>Am.Xc o (Fj e)) o
theorem TZ{e:aj}:∀{l:List aj} {o:Am.JG},jA C o l->Am.Xa (jF o l) (Fj e)->Am.jIn C (Fj e)->0<=e.aE->jA C o (l++[e])
 | [],o,_,h2,h3,h4=>⟨⟨h2,h3,h4⟩,cz⟩
 | x::l,o,h1,h2,h3,h4=>⟨h1.1,TZ h1.2 h2 h3 h4⟩
def jg0:Am.JG:=⟨λ_=>0,λ_=>false⟩
def SLx(C:Am.kH)(s:Am.St):Prop:=∃(φ:Am.TX C) (σ:Nat->Nat->Nat),Am.SL C φ s σ
theorem T0{p:aJ}{N F f m:Nat}{args:List Int}(hv:Valid p):SLx (cfg p N F f m) (init (cfg p N F f m) args):=by
 obtain⟨φ,_⟩:=V8 (N:=N) (F:=F) (f:=f) (m:=m) hv;refine⟨φ,λ_ _=>1,?_,?_,?_,?_,?_⟩
 ·intro f' hf _ c hc;exact φ.r0 0 hv.n1 c hc
 ·intro f' _ _ k hk;cases hk
 ·intro i c _ h;have h:(if i=0 then Am.Pc.start (-1)else .oC)= .fork c:=h;split at h<;>cases h
 ·intro f' k hk;cases hk
 ·intro i c _ h;have h:(if i=0 then Am.Pc.start (-1)else .oC)= .fork c:=h;split at h<;>cases h
theorem T1{p:aJ}{s:Am.St}{S:ag}{M:ae}{sz g i:Nat}{d:Int}(b:vF C p s S M sz g)(h:SLx C s)(hi:i<C.N):SLx C (Am.aH C s i d).s:=by
 obtain⟨φ,σ,h⟩:=h;obtain⟨σ',h'⟩:=h.aH b.ok b.fr b.fi b.dt hi d;exact⟨φ,σ',h'⟩
def JJ(C:Am.kH)(s:Am.St)(l:List aj)(g:Nat):Prop:=SLx C s/\Am.JI (Am.wv s) (jF jg0 l)/\jA C jg0 l
theorem V9{p:aJ}{s:Am.St}{S:ag}{M:ae}{sz g i:Nat}{l:List aj}{d:Int}(b:vF C p s S M sz g)(j:JJ C s l g)(hi:i<C.N):JJ C (Am.aH C s i d).s (GV g i l (Am.aH C s i d).ev) (g+1):=by
 have tr:=Am.Fy b.fi b.dt hi d;refine⟨T1 b j.1 hi,?_⟩;obtain⟨⟨φ,σ,sl⟩,j1,j2⟩:=j;have q:=Am.JI.acj tr hi b.fi (λhg ⟨x,hx,hk⟩ f hf=>by
  have hf:s.hold i=some f:=hf;have hg:Am.sig (s.pc i)= .run:=hg;have hrun:s.pc i= .run:=by
   cases hp:s.pc i<;>rw[hp]at hg<;>simp only[Am.sig]at hg<;>first | rfl | (cases hg;done) | skip
   all_goals (exfalso;unfold Am.aH at hx;rw[hp]at hx;simp only at hx;repeat' split at hx)
   all_goals (first | (cases hx;done) | (cases hx;simp at hk;done))
  have hx:(Am.instr C s i).ev=some x:=by unfold Am.aH at hx;rw[hrun]at hx;exact hx
  unfold Am.instr at hx;simp only[hf,oJ]at hx;split at hx
  all_goals (first | (cases hx;done) | skip)
  ·split at hx
   ·cases hx;simp at hk
   ·cases hx
  ·split at hx
   ·cases hx;simp at hk
   ·cases hx
  ·rename_i a hc;exact sl.Mt b.fr b.fi hi hf hc) j1
 cases L7:(Am.aH C s i d).ev with
 | none=>exact⟨q.1 L7,j2⟩
 | some x =>
  have q:=q.2 x L7;refine⟨?_,TZ j2 q.1 q.2.1 (by show(0:Int)<=(x.kind:Int);omega)⟩;show Am.JI _ (List.foldl _ jg0 (l++[_]));rw[List.foldl_append];exact q.2.2
structure Jl(C:Am.kH)(o:Am.JG)(a:List Int)(b:List Bool)(g:Nat):Prop where
 na:a.length=C.F
 nb:b.length=C.F
 oo:∀f,f<C.F->GX.J a f=(o.out f:Int)
 w:∀f,f<C.F->GX.J b f=o.wt f
 kb:∀f,o.out f<=g
theorem Jl.Zb{o:Am.JG}{a:List Int}{b:List Bool}{g f:Nat}{v:Bool}(h:Jl C o a b g)(hf:f<C.F):Jl C {o with wt:=Am.cY o.wt f v} a (b.set f v) (g+1):=
 ⟨h.na,by rw[gY];exact h.nb,h.oo,λk hk=>by
  rw[pV (by rw[h.nb];exact hf)];show _=Am.cY o.wt f v k;rw[Am.cC];by_cases e:k=f
  ·rw[aP e,aP e]
  ·rw[ct e,ct e];exact h.w k hk,λk=>Kq (h.kb k)⟩
theorem Jl.ack{o:Am.JG}{a:List Int}{b:List Bool}{g f n:Nat}(h:Jl C o a b g)(hf:f<C.F)(hn:n<=g+1):Jl C {o with out:=Am.cY o.out f n} (a.set f (n:Int)) b (g+1):=
 ⟨by rw[gY];exact h.na,h.nb,λk hk=>by
  rw[pV (by rw[h.na];exact hf)];show _=((Am.cY o.out f n k:Nat):Int);rw[Am.cC];by_cases e:k=f
  ·rw[aP e,aP e]
  ·rw[ct e,ct e];exact h.oo k hk,h.w,λk=>by
  show Am.cY o.out f n k<=g+1;rw[Am.cC];split
  ·exact hn
  ·exact Kq (h.kb k)⟩
theorem Jl.mono{o:Am.JG}{a:List Int}{b:List Bool}{g:Nat}(h:Jl C o a b g):Jl C o a b (g+1):=⟨h.na,h.nb,h.oo,h.w,λf=>Kq (h.kb f)⟩
set_option maxHeartbeats 4000000 in
theorem PE{c:bK}{r:List aj}(hr:r.length<=1048576)(hF:c.aF=C.F)(h4:C.F<=4096):∀(e k g:Nat) (o:Am.JG) (a:List Int) (b:List Bool),g+e=r.length->e<k->jA C o (r.drop g)->Jl C o a b g->bH K c r k a b (g:Int)=some true
 | e,k,g,o,a,b,he,hk,hA,hR=>by
  obtain⟨k,rfl⟩ :∃m,k=m+1:=⟨k-1,I⟩;rw[bH];by_cases hg:g<r.length
  ·obtain⟨e,rfl⟩ :∃m,e=m+1:=⟨e-1,I⟩;rw[xy hg]at hA;obtain⟨⟨hok,hin,i0⟩,G4⟩:=hA;have ih:=PE hr hF h4 e k (g+1);rw[pR,aP ⟨I,I⟩,cO];generalize GX.J r g=v at hok hin i0 G4;have na:=hR.na;have nb:=hR.nb;have hlen:(((List.replicate c.aF.toNat (0:Int)).length:Nat):Int)=C.F:=by rw[mo];omega
   rw[Ca (i:=g) I];have ek:(Fj v).kind=v.aE.toNat:=rfl;by_cases hs:v.aE=9∨v.aE=10∨v.aE=11∨v.aE=3
   ·have e2:Am.Xc o (Fj v)=o:=by
     unfold Am.Xc;rw[ez,ez,ez,ez]
    rw[e2]at G4;have:=ih o a b I I G4 hR.mono;rcases hs with h | h | h | h
    ·rw[aP h];exact this
    ·rw[ez,aP h];exact this
    ·rw[ez,ez,aP h];exact this
    ·rw[ez,ez,ez,aP h];exact this
   ·have hj:Am.EJ (Fj v).kind=false:=by
     have:¬Am.EJ (Fj v).kind=true:=by simp only[Am.EJ,xb,vJ];omega
     simpa using this
    obtain⟨⟨f1,f2⟩,i2,i6⟩:=hin hj;change 0<=v.Frame at f1;change v.Frame<C.F at f2;unfold Am.Xa at hok;rw[dJ hj]at hok;obtain⟨o1,o2,o3⟩:=hok;have fa:v.Frame.toNat<C.F:=by omega
    have o1:o.wt v.Frame.toNat=(v.aE==7):=by
     rw[show o.wt v.Frame.toNat=_ from o1,ek];by_cases h:v.aE=7
     ·rw[h];rfl
     ·have h1:(v.aE==7)=false:=by simpa using h
      have h2:(v.aE.toNat==7)=false:=by simp;omega
      rw[h1,h2]
    have e7:GX.J b v.Frame.toNat=(v.aE==7):=by rw[hR.w _ fa,o1]
    rw[ez,ez,ez,ez,ez,ct (by rw[hlen];omega),eJ,aP ⟨f1,by rw[nb];exact f2⟩,aP e7];unfold Am.Xc at G4;by_cases h2:v.aE=2
    ·obtain⟨x0,x1,x2⟩:=i2 (by rw[ek];omega);change 0<v.Frame at x0;change 0<=v.X at x1;change v.X<C.F at x2;have xa:v.X.toNat<C.F:=by omega
     rw[aP (by rw[ek];omega)]at G4;have kb:=hR.kb v.X.toNat;rw[aP h2,ax,aP (by rw[h2];rfl),pR,ez,ct (by rw[hlen];omega),eJ,pR,ax,aP (by rw[h2];rfl),aP ⟨x1,by rw[na];exact x2⟩,ez,hR.oo _ xa,Ca I];exact ih _ _ _ I I G4 (hR.ack xa (show o.out v.X.toNat+1<=g+1 by omega))
    ·rw[ct (by rw[ek];omega)]at G4;rw[ct h2,ax];by_cases h6:v.aE=6
     ·have z:=o2 (.inl (by rw[ek];omega));have z:o.out v.Frame.toNat=0:=z;rw[aP (by rw[ek];omega)]at G4;rw[aP (by rw[h6];rfl)];by_cases h0:v.Frame>0
      ·obtain⟨x1,x2⟩:=i6 (by rw[ek];omega) h0;change 0<=v.X at x1;change v.X<C.F at x2;have xa:v.X.toNat<C.F:=by omega
       obtain⟨y1,y2⟩:=o3 (by rw[ek];omega) h0;change 1<=o.out v.X.toNat at y1;change v.X.toNat≠v.Frame.toNat at y2;rw[aP (show 0<(Fj v).au from h0)]at G4;have kb:=hR.kb v.X.toNat;have ew:wi (((o.out v.X.toNat:Nat):Int)-1)=((o.out v.X.toNat-1:Nat):Int):=by rw[eI I];omega
       rw[aP h0,ez,ct (by rw[hlen];omega),eJ,aP h0,ax,ct (by simp[h6]),aP h0,aP ⟨x1,by rw[na];exact x2⟩,aP h6,hR.oo _ xa,ew,aP ⟨f1,by rw[gY,na];exact f2⟩,
        pV (by rw[na];exact xa),ct (show ¬v.Frame.toNat=v.X.toNat from λh=>y2 h.symm),hR.oo _ fa,z,aP (show((0:Nat):Int)=0 from rfl)]
       exact ih _ _ _ I I G4 (hR.ack xa (show o.out v.X.toNat-1<=g+1 by omega))
      ·rw[ct (show ¬0<(Fj v).au from h0)]at G4;rw[ct h0,eJ,ct h0,ax,ct eF,ct h0,aP h6,aP ⟨f1,by rw[na];exact f2⟩,hR.oo _ fa,z,aP (show((0:Nat):Int)=0 from rfl)];exact ih _ _ _ I I G4 hR.mono
     ·rw[ct (by rw[ek];omega)]at G4;rw[ct (by simp[h6])];by_cases h4':v.aE=4
      ·rw[aP (by rw[ek];omega)]at G4;rw[aP h4'];exact ih _ _ _ I I G4 (hR.Zb fa)
      ·rw[ct (by rw[ek];omega)]at G4;rw[ct h4'];by_cases h5:v.aE=5
       ·have z:o.out v.Frame.toNat=0:=o2 (.inr (.inl (by rw[ek];omega)));rw[aP (by rw[ek];omega)]at G4;rw[aP h5,aP ⟨f1,by rw[na];exact f2⟩,hR.oo _ fa,z,aP (show((0:Nat):Int)=0 from rfl)];exact ih _ _ _ I I G4 (hR.Zb fa)
       ·rw[ct h5];by_cases h7:v.aE=7
        ·have z:o.out v.Frame.toNat=0:=o2 (.inr (.inr (by rw[ek];omega)));rw[aP (by rw[ek];omega)]at G4;rw[aP h7,aP ⟨f1,by rw[na];exact f2⟩,hR.oo _ fa,z,aP (show((0:Nat):Int)=0 from rfl)];exact ih _ _ _ I I G4 (hR.Zb fa)
        ·rw[ct (by rw[ek];omega)]at G4;rw[ct h7];exact ih _ _ _ I I G4 hR.mono
  ·rw[ez]
theorem N5{c:bK}(h:Small c)(hK:4000000<K):kZ K c=some true:=by
 unfold kZ;rcases V5 (K:=K) h hK (afq:=JJ) (λN F f m hv _=>⟨T0 hv,⟨λf=>rfl,λf=>by
  show false=Am.Rq (if f=0 then .held 0 else .free);split<;>rfl⟩,cz⟩) (λC p s S M sz l g i d b j hi=>V9 b j hi)with ⟨r,e⟩ | ⟨r,C,s,g,e,j,hr,hF,h1,h4,hgp,hv,ha,hCO,N,F,f,m,hC,hN⟩
 ·rw[e,dw,aP rfl,ct eF,I6]
 ·rw[e,dw,aP rfl,aP rfl,eJ,aP ⟨I,I⟩,aP ⟨I,I⟩];have hn:c.aF.toNat=C.F:=by omega
  rw[hn];have:=PE (K:=K) (c:=c) (C:=C) hr hF h4 r.length K 0 jg0 (List.replicate C.F (0:Int)) (List.replicate C.F false) I I (by rw[mY];exact j.2.2)
   ⟨by rw[mo],by rw[mo],λy hy=>by rw[zd hy];rfl,λy hy=>by rw[zd hy];rfl,λy=>BT _⟩
  rw[pT]at this;exact this
end
end Mo
end
end Go.Proofs.YtpikpffbcjpmcaaGreatDoor
