/- A part of the proof of what U5 states. Conditions: none. -/
import Derived.Test.YtaiffafelihaaaaGreatDoorU3
set_option linter.unusedVariables false
set_option linter.unusedSimpArgs false
set_option linter.unusedSectionVars false
set_option maxRecDepth 100000
set_option maxHeartbeats 4000000
set_option autoImplicit true
set_option relaxedAutoImplicit true
namespace Go.Proofs.YtaiffafelihaaaaGreatDoor
open Proofs.Tryz
section
namespace Mo
open Go SL GX
abbrev E0:ai:=⟨0,0,0,0,0,0⟩
section
variable {K:Nat}{C:Am.kT}{p:aM}{s:Am.St}{S:ag}{M M':af}{sz n i f:Nat}{D:aQ}{d:Int}{T:List aU}{a:bD}
theorem jA.VM{o:Am.Out}{q:Am.Pc}{x:Int}{l:Bool}{r:Option (ai×ag×af)}(b:vL C p s S M sz n)(hi:i<C.N)(hr:r=some (B9 o.ev,{gG (kG S T) i a with value:=x,left:=l},M'))
 (F4:a.bp=i) (hfr:a.ax=fi (o.s.hold i)) (hq:o.s.pc=Am.dW s.pc i q) (hph:ph C i q (o.s.fZ i) (o.s.cur i) o.s.base a) (har:AR C o.s M' sz (n+1)) (ZL:Lg C o.s M M' o.acc) (Kb:Tc o.ev)
 (hT:T.length=C.F) (Zc:∀g,g<o.s.nf->Qr (o.s.fr g) g (GX.J T g)) (hl:l=o.s.val.isSome) (hx:x=o.s.val.getD 0)
 (hh:∀j,j≠i->o.s.hold j=s.hold j:=by intros;rfl) (Qs:o.s.fZ=s.fZ:=by rfl) (hc:o.s.cur=s.cur:=by rfl) (hb:o.s.base=s.base:=by rfl):jA C p sz n M o r:=by
 refine⟨_,_,hr,?_,har,ZL,Kb⟩;have h:=b.jT;have hwl:=h.wl;refine⟨h.code,h.res,h.tb,h.tf,h.lb,h.lw,h.dl,h.dq,hT,Zc,by show(gG (kG S T) i a).ah.length=_;rw[jO];exact h.wl,λj hj => ?_,hl,hx⟩;show aOK C o.s j (GX.J (S.ah.set i a) j);by_cases e:j=i
 ·subst e;rw[pU aB,aW rfl];exact⟨F4,hfr,by rw[hq,Am.bK];exact hph⟩
 ·rw[pU aB,cF e];obtain⟨w1,w2,w3⟩:=h.wk j hj;have ep:o.s.pc j=s.pc j:=by rw[hq];exact Am.bA e
  exact⟨w1,by rw[hh j e];exact w2,by rw[ep,Qs,hc,hb];exact w3⟩
theorem CP(b:vL C p s S M sz n)(hf:f<s.nf){t:aU}{y:Am.Fr}(ht:Qr y f t):∀g,g<s.nf->Qr (Am.dW s.fr f y g) g (GX.J (S.aH.set f t) g):=λg hg=>by
 have hl:=b.jT.tl;have hn:s.nf<=C.F:=b.fi.wD;rw[pU aB,Am.fC];by_cases e:g=f
 ·subst e;rw[aW rfl,aW rfl];exact ht
 ·rw[cF e,cF e];exact b.jT.tk g hg
def vM(S:ag)(M:af)(i:Nat)(D:aQ)(f:Nat)(ci:cx)(t:aU):Option (ai×ag×af):=
 let fr:Int:=f
 if ci.aL=0 then if bI ci.A 16 then some (E0,kG S ((S.aH.set f t).set f ({t with da:=qz 16 t.da ci.A.toNat ci.K})),M)else none
 else if ci.aL=1 then if bI ci.B 16 then if bI ci.A 16 then some (E0,kG S ((S.aH.set f t).set f ({t with da:=qz 16 t.da ci.A.toNat (GX.J t.da ci.B.toNat)})),M)else none else none
 else if ci.aL=2 then if bI ci.B 16 then if bI ci.C 16 then sR (tF ci.K (GX.J t.da ci.B.toNat) (GX.J t.da ci.C.toNat)) (λsw CT=>if bI ci.A 16 then some (E0,kG S ((S.aH.set f t).set f ({t with da:=qz 16 t.da ci.A.toNat sw})),M)else none)else none else none
 else if ci.aL=3 then some (E0,kG S ((S.aH.set f t).set f ({t with J:=ci.A})),M)
 else if ci.aL=4 then if bI ci.A 16 then(if(GX.J t.da ci.A.toNat)=0 then some (E0,kG S (S.aH.set f t),M)else some (E0,kG S ((S.aH.set f t).set f ({t with J:=ci.B})),M))else none
 else if ci.aL=8 then if bI ci.A 16 then some (E0,kG S ((S.aH.set f t).set f ({t with da:=qz 16 t.da ci.A.toNat t.nD})),M)else none
 else if ci.aL=7 then eY (ue (⟨S.dH,S.cQ⟩:bg) fr ci.B) (λZD=>Hq (eV (gG (kG S (S.aH.set f t)) i {act S i with dM:=ZD}) M (i:Int)) (λZE Lm DY WK=>(if ZE=15 then if bI fr DY.aH.length then if bI ci.A 16 then some (E0,{DY with aH:=DY.aH.set f ({GX.J DY.aH f with da:=qz 16 (GX.J DY.aH f).da ci.A.toNat Lm})},WK)else none else none else if bI (i:Int) DY.ah.length then sR (dP DY WK (i:Int)) (λUg Uh=>some (Ug,Uh,WK))else none)))
 else if ci.aL=5 then pM (lE (kG S (S.aH.set f t)) M (i:Int) ci) (λP7 HM U3=>some (P7,HM,U3))
 else if ci.aL=6 then eY (vn (⟨S.dH,S.cQ⟩:bg) fr) (λUi=>pM (di ({S with aH:=S.aH.set f t,ah:=(S.ah.set i ({act S i with dM:=Ui})).set i ({({act S i with dM:=Ui}:bD)with aG:=5})}) M (i:Int) D) (λWL SF Qb=>some (WL,SF,Qb)))
 else if bI ci.A 16 then pM (lF (kG S (S.aH.set f t)) M (i:Int) (GX.J t.da ci.A.toNat)) (λr96 S97 S98=>some (r96,S97,S98))else none
variable (b:vL C p s S M sz n)(hi:i<C.N)
include b hi
structure ZI(p:aM)(C:Am.kT)(s:Am.St)(S:ag)(i f:Nat)(ci:cx)(t:aU):Prop where
 hh:s.hold i=some f
 hn:f<s.nf
 hF:f<C.F
 fr:(act S i).ax=f
 fn:(s.fr f).fn<p.ak.length
 J:(s.fr f).J<512
 ok:OT p (GX.J p.ak (s.fr f).fn) ci
 MG:Km (GX.J p.ak (s.fr f).fn)
 kd:0<=ci.aL/\ci.aL<10
 code:C.code (s.fr f).fn (s.fr f).J=vV ci
 t:Qr {s.fr f with J:=(s.fr f).J+1} f t
theorem VN(hp:s.pc i= .run) :∃f ci t,ZI p C s S i f ci t/\ku S M (i:Int) D=vM S M i D f ci t:=by
 obtain⟨f,hh,hn,hF,hfr⟩:=FX b hi (by rw[hp];rfl);obtain⟨r1,r2,r3⟩:=b.fr f hn;have r3:=r3 (Am.DE b.fi hi hh).1;have cf:=b.cf;have e1:C.WX=p.ak.length:=by rw[cf];rfl
 have e2:C.len (s.fr f).fn=(GX.J p.ak (s.fr f).fn).aq.length:=by rw[cf];rfl
 have e3:C.code (s.fr f).fn (s.fr f).J=vV (GX.J (GX.J p.ak (s.fr f).fn).aq (s.fr f).J):=by rw[cf];rfl
 rw[e1]at r1;rw[e2]at r3;have hs:=b.vd.MG _ r1;have hc:=b.vd.code _ r1;have c5:=hs.JF;have hk:=(Code.snd hs hc).kind ((s.fr f).J:Int) aB aB;rw[dc]at hk;have ht:=b.jT.tk f hn;have h1:bI (act S i).ax S.aH.length:=by rw[hfr];exact b.task hn
 have h2:bI (GX.J S.aH (act S i).ax.toNat).fn S.code.length:=by rw[hfr,dc,ht.fn,b.jT.code];exact⟨aB,aB⟩
 have h3:bI (GX.J S.aH (act S i).ax.toNat).J (GX.J S.code (GX.J S.aH (act S i).ax.toNat).fn.toNat).aq.length:=by rw[hfr,dc,ht.fn,ht.J,b.jT.code,dc];exact⟨aB,aB⟩
 refine⟨f,GX.J (GX.J p.ak (s.fr f).fn).aq (s.fr f).J,{GX.J S.aH f with J:=wi ((GX.J S.aH f).J+1)},⟨hh,hn,hF,hfr,r1,aB,hc.ins _ r3,hs,hk,e3,⟨ht.fn,by show wi ((GX.J S.aH f).J+1)=_;rw[ht.J,eF aB];rfl,ht.par,ht.slot,ht.ct,ht.nD,ht.da⟩⟩,?_⟩;have IE:GX.J (GX.J S.code (GX.J S.aH f).fn.toNat).aq (GX.J S.aH f).J.toNat=GX.J (GX.J p.ak (s.fr f).fn).aq (s.fr f).J:=by rw[ht.fn,ht.J,b.jT.code,dc,dc]
 unfold ku er De fE CC ey jN pP an;rw[dc,aW h1,jm,aW h1,aW h2,aW h3];have ad2:(GX.J S.ah i).ax=(f:Int):=hfr;rw[ad2,dc,IE]
 rfl
end
theorem G7(r:Nat):J (List.replicate 16 (0:Int)) r=0:=by
 unfold J;rw[List.getD_eq_getElem?_getD,List.getElem?_replicate];split<;>rfl
theorem Qr.J4{x:Am.Fr}{f A:Nat}{t:aU}(h:Qr x f t)(v:Int):Qr {x with da:=Am.dW x.da A v} f {t with da:=qz 16 t.da A v}:=
 ⟨h.fn,h.J,h.par,h.slot,h.ct,h.nD,λr hr=>by show GX.J (qz 16 t.da A v) r=Am.dW x.da A v r;rw[Pg hr,Am.fC,h.da r hr]⟩
section
variable {K:Nat}{C:Am.kT}{p:aM}{s:Am.St}{S:ag}{M M':af}{sz n i f:Nat}{D:aQ}{d:Int}{T:List aU}{a:bD}{ci:cx}{t:aU}
theorem QM(b:vL C p s S M sz n)(hi:i<C.N):gG (kG S T) i (act S i)=kG S T:=by
 have:=jS b hi;show({S with aH:=T,ah:=S.ah.set i (act S i)}:ag)=_;have e:S.ah.set i (act S i)=S.ah:=qG (·.ah) this;rw[e];rfl
variable (b:vL C p s S M sz n)(hi:i<C.N)(afu:ZI p C s S i f ci t)(hp:s.pc i= .run)
include b hi afu hp
theorem zN{y:Am.Fr}{t2:aU}{o:Am.Out}{r:Option (ai×ag×af)}(hr:r=some (E0,kG S (S.aH.set f t2),M))(ho:o=⟨s.lay f y,none,none⟩)(ht:Qr y f t2):jA C p sz n M o r:=by
 subst ho;obtain⟨w1,w2,w3⟩:=b.jT.wk i hi;rw[hp]at w3;refine jA.VM (T:=S.aH.set f t2) (a:=act S i) (x:=S.value) (l:=S.left) (q:=.run) b hi (by rw[hr,QM b hi];rfl) w1 w2 (by rw[<-hp,Am.qw];rfl) w3 (b.ar.keep rfl rfl rfl rfl) Lg.none_ trivial (by rw[hU];exact b.jT.tl) (CP b afu.hn ht) b.jT.left b.jT.val
theorem sq:Am.aJ C s i d=Am.instr C s i:=by unfold Am.aJ;rw[hp]
theorem yh{A:Int}(h:uT A (GX.J p.ak (s.fr f).fn).dg=true):bI A 16/\A.toNat<16:=by
 have h1:=CM h;have h2:=afu.MG.r16;exact⟨⟨aB,aB⟩,aB⟩
theorem NW{t2:aU}:(S.aH.set f t).set f t2=S.aH.set f t2:=iG ..
theorem abD(k:ci.aL=0):jA C p sz n M (Am.aJ C s i d) (vM S M i D f ci t):=by
 have ok:=afu.ok.1;unfold q9 at ok;rw[aW (.inl k)]at ok;obtain⟨r1,r2⟩:=yh b hi afu hp ok;refine zN b hi afu hp (t2:={t with da:=qz 16 t.da ci.A.toNat ci.K}) ?_ ?_ (afu.t.J4 ci.K)
 ·unfold vM;simp only;rw[aW k,aW r1,NW b hi afu hp]
 ·rw[sq b hi afu hp];unfold Am.instr;simp only[afu.hh,qH];rw[afu.code];unfold vV;rw[aW k]
theorem abE(k:ci.aL=1):jA C p sz n M (Am.aJ C s i d) (vM S M i D f ci t):=by
 have ok:=afu.ok.1;unfold q9 at ok;rw[eG,aW k,lV]at ok;obtain⟨r1,r2⟩:=yh b hi afu hp ok.1;obtain⟨q1,q2⟩:=yh b hi afu hp ok.2;refine zN b hi afu hp (t2:={t with da:=qz 16 t.da ci.A.toNat (GX.J t.da ci.B.toNat)}) ?_ ?_ (afu.t.J4 _)
 ·unfold vM;simp only;rw[eG,aW k,aW q1,aW r1,NW b hi afu hp]
 ·rw[sq b hi afu hp];unfold Am.instr;simp only[afu.hh,qH];rw[afu.code];unfold vV;rw[eG,aW k,afu.t.da _ q2]
theorem abF(k:ci.aL=2):jA C p sz n M (Am.aJ C s i d) (vM S M i D f ci t):=by
 have ok:=afu.ok.1;unfold q9 at ok;rw[eG,eG,aW k,lV,lV,lV]at ok;obtain⟨r1,r2⟩:=yh b hi afu hp ok.1.1.1;obtain⟨q1,q2⟩:=yh b hi afu hp ok.1.1.2;obtain⟨u1,u2⟩:=yh b hi afu hp ok.1.2;have ko:=CM ok.2;have hap:C.ap=apv:=by rw[b.cf];rfl
 refine zN b hi afu hp (t2:={t with da:=qz 16 t.da ci.A.toNat (apv ci.K (GX.J t.da ci.B.toNat) (GX.J t.da ci.C.toNat))}) ?_ ?_ (afu.t.J4 _)
 ·unfold vM;simp only;rw[eG,eG,aW k,aW q1,aW u1,S1 ko.1 ko.2,fh,aW r1,NW b hi afu hp]
 ·rw[sq b hi afu hp];unfold Am.instr;simp only[afu.hh,qH];rw[afu.code];unfold vV;rw[eG,eG,aW k,afu.t.da _ q2,afu.t.da _ u2,hap]
theorem abG(k:ci.aL=3):jA C p sz n M (Am.aJ C s i d) (vM S M i D f ci t):=by
 have ok:=afu.ok.1;unfold q9 at ok;rw[eG,eG,eG,aW k]at ok;have h1:=CM ok;refine zN b hi afu hp (y:={s.fr f with J:=ci.A.toNat}) (t2:={t with J:=ci.A}) ?_ ?_ ⟨afu.t.fn,by show ci.A=((ci.A.toNat:Nat):Int);omega,afu.t.par,afu.t.slot,afu.t.ct,afu.t.nD,afu.t.da⟩
 ·unfold vM;simp only;rw[eG,eG,eG,aW k,NW b hi afu hp]
 ·rw[sq b hi afu hp];unfold Am.instr;simp only[afu.hh,qH];rw[afu.code];unfold vV;rw[eG,eG,eG,aW k]
theorem abH(k:ci.aL=4):jA C p sz n M (Am.aJ C s i d) (vM S M i D f ci t):=by
 have ok:=afu.ok.1;unfold q9 at ok;rw[eG,eG,eG,eG,aW k,lV]at ok;obtain⟨r1,r2⟩:=yh b hi afu hp ok.1;have h1:=CM ok.2;by_cases e:(s.fr f).da ci.A.toNat=0
 ·refine zN b hi afu hp (y:={s.fr f with J:=(s.fr f).J+1}) (t2:=t) ?_ ?_ afu.t
  ·unfold vM;simp only;rw[eG,eG,eG,eG,aW k,aW r1,aW (by rw[afu.t.da _ r2];exact e)]
  ·rw[sq b hi afu hp];unfold Am.instr;simp only[afu.hh,qH];rw[afu.code];unfold vV;rw[eG,eG,eG,eG,aW k];simp only;rw[cF (by simpa using e)]
 ·refine zN b hi afu hp (y:={s.fr f with J:=ci.B.toNat}) (t2:={t with J:=ci.B}) ?_ ?_ ⟨afu.t.fn,by show ci.B=((ci.B.toNat:Nat):Int);omega,afu.t.par,afu.t.slot,afu.t.ct,afu.t.nD,afu.t.da⟩
  ·unfold vM;simp only;rw[eG,eG,eG,eG,aW k,aW r1,cF (by rw[afu.t.da _ r2];exact e),NW b hi afu hp]
  ·rw[sq b hi afu hp];unfold Am.instr;simp only[afu.hh,qH];rw[afu.code];unfold vV;rw[eG,eG,eG,eG,aW k];simp only;rw[aW e]
theorem abI(k:ci.aL=8):jA C p sz n M (Am.aJ C s i d) (vM S M i D f ci t):=by
 have ok:=afu.ok.1;unfold q9 at ok;rw[aW (.inr (.inl k))]at ok;obtain⟨r1,r2⟩:=yh b hi afu hp ok;refine zN b hi afu hp (t2:={t with da:=qz 16 t.da ci.A.toNat t.nD}) ?_ ?_ (afu.t.J4 _)
 ·unfold vM;simp only;rw[eG,eG,eG,eG,eG,aW k,aW r1,NW b hi afu hp]
 ·rw[sq b hi afu hp];unfold Am.instr;simp only[afu.hh,qH];rw[afu.code];unfold vV;rw[eG,eG,eG,eG,eG,eG,eG,eG,aW k,afu.t.nD]
theorem TB:GX.J (S.aH.set f t) f=t:=by
 have h:=b.jT.tl;have hF:=afu.hF;rw[pU aB,aW rfl]
theorem abJ:bI (f:Int) (S.aH.set f t).length:=by rw[hU];exact b.task afu.hn
theorem abK(k:ci.aL=7):jA C p sz n M (Am.aJ C s i d) (vM S M i D f ci t):=by
 obtain⟨w1,w2,w3⟩:=b.jT.wk i hi;rw[hp]at w3;have ok:=afu.ok.1;unfold q9 at ok;rw[eG,eG,eG,eG,eG,eG,eG,aW k,lV]at ok;obtain⟨r1,r2⟩:=yh b hi afu hp ok.1;have h1:=CM ok.2;have s8:=afu.MG.s8;obtain⟨B,hB⟩ :∃B:Nat,ci.B=B:=⟨ci.B.toNat,aB⟩;have hB8:B<8:=by omega
 have hs:=VH b.ar b.z b.cN afu.hF hB8;have h:=wY (T:=S.aH.set f t) b hi (a:={act S i with dM:=jQ C 5 f B 0}) hs (Kh rfl rfl);have hst:Am.aJ C s i d=⟨s.lay f {s.fr f with J:=(s.fr f).J+1,da:=Am.dW (s.fr f).da ci.A.toNat (s.mem (.slot f B))},none,Am.pV (.slot f B) (s.mem (.slot f B))⟩:=by
  rw[sq b hi afu hp];unfold Am.instr;simp only[afu.hh,qH];rw[afu.code];unfold vV;rw[eG,eG,eG,eG,eG,eG,eG,aW k,hB,dc]
 rw[hst];refine jA.VM (M':=nt M M.cell 0 (Am.cG C s (.slot f B)) (s.mem (.slot f B)) 0 true) (T:=S.aH.set f {t with da:=qz 16 t.da ci.A.toNat (s.mem (.slot f B))}) (a:={act S i with dM:={jQ C 5 f B 0 with aA:=0,fm:=15,lU:=s.mem (.slot f B)}}) (x:=S.value) (l:=S.left) (q:=.run) b hi ?_ w1 w2 (by show s.pc=_;rw[<-hp,Am.qw]) w3 (b.ar.same (s':=s.lay f {s.fr f with J:=(s.fr f).J+1,da:=Am.dW (s.fr f).da ci.A.toNat (s.mem (.slot f B))}) rfl rfl rfl rfl _ _ _ _ _) (Lg.nt rfl) trivial (by rw[hU];exact b.jT.tl) (CP b afu.hn (afu.t.J4 _)) b.jT.left b.jT.val;unfold vM ue;simp only;rw[eG,eG,eG,eG,eG,eG,aW k,QH b hi,hB,NT b.ok afu.hF hB8,ay,ay,h,gp,aW rfl];rw[aW (by exact abJ b hi afu hp),aW r1];rw[show(gG (kG S (S.aH.set f t)) i _).aH=S.aH.set f t from rfl,TB b hi afu hp,NW b hi afu hp];rfl
theorem abL(k:ci.aL=6):jA C p sz n M (Am.aJ C s i d) (vM S M i D f ci t):=by
 obtain⟨w1,w2,w3⟩:=b.jT.wk i hi;have afq:=b.fi.jn f afu.hn;have hl:s.loc f= .uk i∨s.loc f= .held i:=(b.fi.hold i f hi afu.hh).elim (λa=>.inl a.2) (λa=>.inr a.2);have hjn:0<=s.mem (.join f)-1:=by
  have hg:(Am.view s).g i= .run:=by show Am.sig (s.pc i)=_;rw[hp];rfl
  rcases b.fi.hold i f hi afu.hh with h | h
  ·rw[hg]at h;exact absurd h.1 (by simp)
  ·rw[h.2]at afq;change s.mem (.join f)=1+(((s.ct f).length:Nat):Int)at afq;omega
 have hs:=VG b.ar b.z b.cN afu.hF (b.L8 rfl);have hst:Am.aJ C s i d=(if 0<s.mem (.join f)-1 then⟨((((s.wr (.join f) (s.mem (.join f)-1)).lay f {s.fr f with J:=(s.fr f).J+1}).holds i none).to i .GZ).put f .waiting,Am.ev 4 f 0 0,Am.B8 (.join f) (-1) (s.mem (.join f)-1)⟩
  else ⟨((((s.wr (.join f) (s.mem (.join f)-1)).lay f {s.fr f with J:=(s.fr f).J+1}).to i .ta).put f (.uk i)),none,Am.B8 (.join f) (-1) (s.mem (.join f)-1)⟩):=by
  rw[sq b hi afu hp];unfold Am.instr;simp only[afu.hh,qH];rw[afu.code];unfold vV;rw[eG,eG,eG,eG,eG,eG,aW k]
 have hr:vM S M i D f ci t=di (gG (kG S (S.aH.set f t)) i {act S i with dM:=jQ C 3 f 0 0,aG:=5}) M (i:Int) D:=by
  unfold vM vn;simp only;rw[eG,eG,eG,eG,eG,eG,eG,eG,aW k,QH b hi,FW b.ok afu.hF,ay,ay,iG];show pM (di (gG (kG S (S.aH.set f t)) i {act S i with dM:=jQ C 3 f 0 0,aG:=5}) M (i:Int) D) _=_;cases di (gG (kG S (S.aH.set f t)) i {act S i with dM:=jQ C 3 f 0 0,aG:=5}) M (i:Int) D<;>rfl
 rw[hr,hst];by_cases h0:0<s.mem (.join f)-1
 ·rw[aW h0];rw[eG]at hs;refine jA.VM (T:=S.aH.set f t) (x:=S.value) (l:=S.left) (q:=.GZ) b hi (QK b hi (a:={act S i with dM:=jQ C 3 f 0 0,aG:=5}) w1 hs rfl rfl rfl afu.fr) w1 (by show(-1:Int)=fi (Am.dW s.hold i none i);rw[Am.bK];rfl) rfl ⟨rfl,⟨rfl,rfl,rfl,rfl⟩,rfl,rfl⟩ (b.Aw (c:=.join f) rfl (by rw[hp];rfl) afu.hF _ _ _ _ _) (Lg.nt rfl) (by show(4:Nat)≠0;decide) (by rw[hU];exact b.jT.tl) (CP b afu.hn afu.t) b.jT.left b.jT.val (hh:=λj hj=>Am.bA hj)
 ·rw[cF h0];rw[oU]at hs;refine jA.VM (T:=S.aH.set f t) (x:=S.value) (l:=S.left) (q:=.ta) b hi (Ty b hi (a:={act S i with dM:=jQ C 3 f 0 0,aG:=5}) hs rfl (by show(2:Int)>0;decide)) w1 w2 rfl ⟨rfl,rfl,rfl,?_,rfl,rfl⟩ (b.Aw (c:=.join f) rfl (by rw[hp];rfl) afu.hF _ _ _ _ _) (Lg.nt rfl) trivial (by rw[hU];exact b.jT.tl) (CP b afu.hn afu.t) b.jT.left b.jT.val;show(f:Int)=(((act S i).ax.toNat:Nat):Int);rw[afu.fr];rfl
end
def YM(C:Am.kT)(i:Nat):bY:=⟨2+10*(C.F:Int),C.N,i,4,10,1,0,0,0,List.replicate 64 ⟨0,0⟩,⟨0,0,0,0,0,0,0,0,0,0,0,0,0,false,0,0⟩⟩
section
variable {K:Nat}{C:Am.kT}{p:aM}{s:Am.St}{S:ag}{M M':af}{sz n i f:Nat}{D:aQ}{d:Int}{T:List aU}{a:bD}{ci:cx}{t:aU}
theorem QN(b:vL C p s S M sz n)(hi:i<C.N):sk (⟨S.fq,S.cO⟩:fe) (i:Int)=some (YM C i):=by
 have h1:=b.ok.n1;have h2:=b.ok.n64;unfold sk mD mP cC bJ;rw[b.jT.lb,b.jT.lw];simp only;rw[eG,eG,ay,eF (x:=2+(C.N:Int)) aB,oU,oU,tR aB,ay,aW rfl];rfl
variable (b:vL C p s S M sz n)(hi:i<C.N)(afu:ZI p C s S i f ci t)(hp:s.pc i= .run)
include b hi afu hp
theorem Mu:bI (act S i).ax (S.aH.set f t).length:=by rw[afu.fr];exact abJ b hi afu hp
theorem abM(k:ci.aL=9):jA C p sz n M (Am.aJ C s i d) (vM S M i D f ci t):=by
 obtain⟨w1,w2,w3⟩:=b.jT.wk i hi;have ok:=afu.ok.1;unfold q9 at ok;rw[aW (.inr (.inr k))]at ok;obtain⟨r1,r2⟩:=yh b hi afu hp ok;obtain⟨v,hv⟩ :∃v,v=(s.fr f).da ci.A.toNat:=⟨_,rfl⟩;have hst:Am.aJ C s i d=(if f=0 then⟨{((((s.lay f {s.fr f with J:=(s.fr f).J+1}).wr .result v).holds i none).to i .done).put 0 (.fin i)with val:=some v},Am.ev 6 0 (-1) v,Am.sL .result v⟩
  else ⟨((((s.lay f {s.fr f with J:=(s.fr f).J+1}).wr (.slot (s.fr f).par (s.fr f).slot) v).holds i none).to i (.out (s.fr f).par f)).put f (.fin i),Am.ev 6 f (s.fr f).par v,Am.sL (.slot (s.fr f).par (s.fr f).slot) v⟩):=by
  rw[sq b hi afu hp];unfold Am.instr;simp only[afu.hh,qH];rw[afu.code];unfold vV;rw[eG,eG,eG,eG,eG,eG,eG,eG,eG,hv]
 have hin:=Mu b hi afu hp;have hgt:GX.J (S.aH.set f t) (act S i).ax.toNat=t:=by rw[afu.fr,dc];exact TB b hi afu hp
 have hr:vM S M i D f ci t=lF (kG S (S.aH.set f t)) M (i:Int) v:=by
  unfold vM;simp only;rw[eG,eG,eG,eG,eG,eG,eG,eG,eG,aW r1,afu.t.da _ r2,hv];cases lF (kG S (S.aH.set f t)) M (i:Int) _<;>rfl
 rw[hr];unfold lF er jN pP an;rw[dc,aW (by exact hin),jm,aW (by exact hin),hst];by_cases h0:f=0
 ·rw[aW h0,aW (by show(act S i).ax=0;rw[afu.fr,h0];rfl)];have ad3:=uZ b.ar b.z b.cN (a:=.result) trivial v;have abN:dY M (kG S (S.aH.set f t)).result v=some (0,nt M (M.cell.set (Am.cG C s .result).toNat v) 1 (Am.cG C s .result) v 0 true):=by rw[show(kG S (S.aH.set f t)).result=Am.cG C s .result from b.jT.res];exact ad3
  rw[abN,fh,aW rfl];have hfi:sk (⟨(kG S (S.aH.set f t)).fq,(kG S (S.aH.set f t)).cO⟩:fe) (J (kG S (S.aH.set f t)).ah i).bp=some (YM C i):=by
   show sk (⟨S.fq,S.cO⟩:fe) (act S i).bp=_;rw[show(act S i).bp=i from w1];exact QN b hi
  rw[hfi,ay];refine jA.VM (T:=S.aH.set f t) (a:={act S i with cL:=YM C i,ax:=-1,aG:=7}) (x:=v) (l:=true) (q:=.done) b hi ?_ w1 (by show(-1:Int)=fi (Am.dW s.hold i none i);rw[Am.bK];rfl) rfl ⟨rfl,rfl,rfl,rfl,rfl,rfl,rfl⟩ (b.Aw (c:=.result) rfl (by rw[hp];rfl) trivial _ _ _ _ _) (Lg.nt rfl) (by show(6:Nat)≠0;decide) (by rw[hU];exact b.jT.tl) (CP b afu.hn afu.t) rfl rfl (hh:=λj hj=>Am.bA hj);show some ((⟨0,0,6,0,-1,v⟩:ai),({S with aH:=S.aH.set f t,ah:=((S.ah.set i _).set i _).set i _,value:=v,left:=true}:ag),_)=_;rw[iG,iG];rfl
 ·rw[cF h0,cF (by show ¬(act S i).ax=0;rw[afu.fr];omega)];have hfr:=b.fr f afu.hn;have hpn:(s.fr f).par<s.nf:=b.fi.pr f afu.hn;have hpF:(s.fr f).par<C.F:=Nat.lt_of_lt_of_le hpn b.fi.wD;have hs:=YK b.ar b.z b.cN hpF hfr.2.1 v;have htb:=wY (T:=S.aH.set f t) b hi (a:={act S i with dM:=jQ C 2 (s.fr f).par (s.fr f).slot v}) hs (Tu rfl (by show(2:Int)>0;decide));have hbg:s5 (⟨(kG S (S.aH.set f t)).dH,(kG S (S.aH.set f t)).cQ⟩:bg) (J (kG S (S.aH.set f t)).aH (J (kG S (S.aH.set f t)).ah i).ax.toNat).parent (J (kG S (S.aH.set f t)).aH (J (kG S (S.aH.set f t)).ah i).ax.toNat).slot v=some (jQ C 2 (s.fr f).par (s.fr f).slot v):=by
   have ad4:J (kG S (S.aH.set f t)).aH (J (kG S (S.aH.set f t)).ah i).ax.toNat=t:=hgt;rw[ad4,afu.t.par,afu.t.slot,cF h0];unfold s5;rw[show(⟨(kG S (S.aH.set f t)).dH,(kG S (S.aH.set f t)).cQ⟩:bg)=⟨1,C.F⟩from(show(⟨S.dH,S.cQ⟩:bg)=⟨1,C.F⟩from QH b hi),NT b.ok hpF hfr.2.1,ay]
  rw[hbg,ay];rw[show({kG S (S.aH.set f t)with ah:=(kG S (S.aH.set f t)).ah.set i {J (kG S (S.aH.set f t)).ah i with dM:=jQ C 2 (s.fr f).par (s.fr f).slot v}}:ag)=gG (kG S (S.aH.set f t)) i {act S i with dM:=jQ C 2 (s.fr f).par (s.fr f).slot v}from rfl,htb,gp,aW rfl,aW (Tx b hi)];rw[show J (gG (kG S (S.aH.set f t)) i {act S i with dM:={jQ C 2 (s.fr f).par (s.fr f).slot v with aA:=2}}).ah i={act S i with dM:={jQ C 2 (s.fr f).par (s.fr f).slot v with aA:=2}}from nC (b.wl hi)];refine jA.VM (T:=S.aH.set f t) (a:={act S i with dM:={jQ C 2 (s.fr f).par (s.fr f).slot v with aA:=2},ax:=-1,done:=(act S i).ax,aG:=6}) (x:=S.value) (l:=S.left) (q:=.out (s.fr f).par f) b hi ?_ w1 (by show(-1:Int)=fi (Am.dW s.hold i none i);rw[Am.bK];rfl) rfl ⟨rfl,afu.fr,rfl,rfl,rfl,rfl,rfl⟩ (b.Aw (c:=.slot (s.fr f).par (s.fr f).slot) rfl (by rw[hp];rfl) ⟨hpF,hfr.2.1⟩ _ _ _ _ _) (Lg.nt rfl) (by show(6:Nat)≠0;decide) (by rw[hU];exact b.jT.tl) (CP b afu.hn afu.t) b.jT.left b.jT.val (hh:=λj hj=>Am.bA hj);show some ((⟨0,0,6,(act S i).ax,(GX.J (S.aH.set f t) (act S i).ax.toNat).parent,v⟩:ai),({S with aH:=S.aH.set f t,ah:=(((S.ah.set i _).set i _).set i _).set i _}:ag),_)=_;rw[iG,iG,iG];refine qG some (AF ?_ rfl);show(⟨0,0,6,(act S i).ax,(GX.J (S.aH.set f t) (act S i).ax.toNat).parent,v⟩:ai)=_;rw[hgt,afu.t.par,afu.fr,cF h0];rfl
def Pm(L:List aU)(k:Nat):List aU:=L.set k {GX.J L k with ct:=wi ((GX.J L k).ct+1)}
def CQ(ci:cx)(f:Nat)(pd:Int):aU:=⟨ci.B,0,(f:Int),ci.A,0,pd,List.replicate 16 (0:Int)⟩
theorem Mv{A B Cc:Nat}{Fz:aU}(hk:Qr (Am.lT C (s.fr f) f A B Cc) s.nf Fz)(hlt:s.nf<C.F){L:List aU}(hL:L=(S.aH.set f t).set s.nf Fz) :
 ∀g,g<s.nf+1->Qr (Am.dW (Am.dW (Am.dW s.fr f {s.fr f with J:=(s.fr f).J+1}) f {s.fr f with J:=(s.fr f).J+1,ct:=(s.fr f).ct+1}) s.nf (Am.lT C (s.fr f) f A B Cc) g) g (GX.J (L.set f {GX.J L f with ct:=wi ((GX.J L f).ct+1)}) g):=λg hg=>by
 subst hL;have hl:=b.jT.tl;have hne:f≠s.nf:=Nat.ne_of_lt afu.hn;have hF:=afu.hF;have hkb:=b.bd.k f;have hbn:=b.n;have e1:GX.J ((S.aH.set f t).set s.nf Fz) f=t:=by rw[pU (by rw[hU];omega),cF hne];exact TB b hi afu hp
 rw[e1,pU (by rw[hU,hU];omega),Am.fC];by_cases e:g=s.nf
 ·rw[aW e,eG,pU (by rw[hU];omega),aW e,e];exact hk
 ·rw[cF e,Am.fC];by_cases e2:g=f
  ·rw[aW e2,aW e2,e2];exact⟨afu.t.fn,afu.t.J,afu.t.par,afu.t.slot,by show wi (t.ct+1)=(((s.fr f).ct+1:Nat):Int);rw[show t.ct=((s.fr f).ct:Int)from afu.t.ct,eF aB];rfl,afu.t.nD,afu.t.da⟩
  ·rw[cF e2,cF e2,Am.bA e2,pU (by rw[hU];omega),cF e,pU aB,cF e2];exact b.jT.tk g aB
theorem abO(k:ci.aL=5):jA C p sz n M (Am.aJ C s i d) (vM S M i D f ci t):=by
 obtain⟨w1,w2,w3⟩:=b.jT.wk i hi;have ok:=afu.ok.1;have cl:=afu.ok.2;unfold q9 at ok;rw[eG,eG,eG,eG,eG,aW k]at ok;unfold xF at cl;rw[aW k,lV,yw,AE,lV,AE,AE]at cl;have hA:=CM ok;have hB:=CM cl.1;have s8:=afu.MG.s8;have r16:=afu.MG.r16;have hPs:=b.vd.MG ci.B.toNat aB;have O:=hPs.O;have p8:=hPs.p8;obtain⟨P,hP⟩ :∃P:Nat,(GX.J p.ak ci.B.toNat).aV=P:=⟨(GX.J p.ak ci.B.toNat).aV.toNat,aB⟩;have hcp:C.params ci.B.toNat=P:=by rw[b.cf];show(GX.J p.ak ci.B.toNat).aV.toNat=P;omega
 have hpd:C.pd (s.fr f).nD (s.fr f).ct=wi (wi (wi ((s.fr f).nD*1000003)+((s.fr f).ct:Int))+1):=by rw[b.cf];rfl
 have hkb:=b.bd.k f;have hbn:=b.n;obtain⟨pd,abP⟩ :∃pd,pd=C.pd (s.fr f).nD (s.fr f).ct:=⟨_,rfl⟩;have ad5:0<=s.mem .next/\s.mem .next<=1000000000000:=by
  have h2:=b.L8 (a:=.next) rfl;have h1:s.mem .next=s.nf∨(s.nf=C.F/\(C.F:Int)<=s.mem .next):=b.fi.nx;omega
 have hst:Am.aJ C s i d=(if(C.F:Int)<=s.mem .next+1-1 then⟨{((s.wr .next (s.mem .next+1)).lay f {s.fr f with J:=(s.fr f).J+1})with JX:=true}.to i .full,Am.ev 11 (-1) 0 0,Am.B8 .next 1 (s.mem .next+1)⟩
  else ⟨{((((s.wr .next (s.mem .next+1)).lay f {s.fr f with J:=(s.fr f).J+1}).lay f {s.fr f with J:=(s.fr f).J+1,ct:=(s.fr f).ct+1}).lay s.nf (Am.lT C (s.fr f) f ci.A.toNat ci.B.toNat ci.C.toNat))with nf:=s.nf+1}.put s.nf (.cw i) |>.to i (.fork s.nf),none,Am.B8 .next 1 (s.mem .next+1)⟩):=by
  rw[sq b hi afu hp];unfold Am.instr;simp only[afu.hh,qH];rw[afu.code];unfold vV;rw[eG,eG,eG,eG,eG,aW k];rfl
 have hr:vM S M i D f ci t=lE (kG S (S.aH.set f t)) M (i:Int) ci:=by
  unfold vM;simp only;rw[eG,eG,eG,eG,eG,eG,eG,aW k];cases lE (kG S (S.aH.set f t)) M (i:Int) _<;>rfl
 have hs:=VI b.ar b.z b.cN ad5;have hTl:(S.aH.set f t).length=C.F:=by rw[hU];exact b.jT.tl
 have F0:0<C.F:=by have:=b.ok.f1;omega
 rw[hr];unfold lE jN pP an;rw[show mY (⟨(kG S (S.aH.set f t)).dH,(kG S (S.aH.set f t)).cQ⟩:bg)=some (jQ C 0 0 0 0) by
  unfold mY;rw[show(⟨(kG S (S.aH.set f t)).dH,(kG S (S.aH.set f t)).cQ⟩:bg)=⟨1,C.F⟩from(show(⟨S.dH,S.cQ⟩:bg)=⟨1,C.F⟩from QH b hi)];show eY (kr 0 (⟨1,C.F⟩:bg) ((0:Nat):Int) 0 0) _=_;rw[FW b.ok F0];rfl,ay]
 rw[show({kG S (S.aH.set f t)with ah:=(kG S (S.aH.set f t)).ah.set (i:Int).toNat {J (kG S (S.aH.set f t)).ah (i:Int).toNat with dM:=jQ C 0 0 0 0}}:ag)=gG (kG S (S.aH.set f t)) i {act S i with dM:=jQ C 0 0 0 0}from rfl];by_cases h0:s.mem .next+1<=C.F
 ·rw[aW h0]at hs;have htb:=wY (T:=S.aH.set f t) b hi (a:={act S i with dM:=jQ C 0 0 0 0}) hs (Kh rfl rfl);have hnf:s.mem .next=s.nf:=by
   have h1:s.mem .next=s.nf∨(s.nf=C.F/\(C.F:Int)<=s.mem .next):=b.fi.nx;rcases h1 with h | h
   ·exact h
   ·omega
  have hlt:s.nf<C.F:=by omega
  have Ho:s.nf≠0:=by have:1<=s.nf:=b.fi.zH;omega
  have hne:f≠s.nf:=Nat.ne_of_lt afu.hn;have hin:=Mu b hi afu hp;have Tk:bI (s.mem .next) (S.aH.set f t).length:=by rw[hnf,hTl];exact⟨aB,aB⟩
  have ad6:bI ci.B S.code.length:=by rw[b.jT.code];exact⟨aB,aB⟩
  have QL:(GX.J S.code ci.B.toNat).aV=P:=by rw[b.jT.code];exact hP
  have hgt:GX.J (S.aH.set f t) (act S i).ax.toNat=t:=by rw[afu.fr,dc];exact TB b hi afu hp
  have Wo:wi (wi (wi ((GX.J (S.aH.set f t) (act S i).ax.toNat).nD*1000003)+(GX.J (S.aH.set f t) (act S i).ax.toNat).ct)+1)=pd:=by
   rw[hgt,abP,hpd,show t.nD=(s.fr f).nD from afu.t.nD,show t.ct=((s.fr f).ct:Int)from afu.t.ct]
  have hkt:∀afw:List Int,(∀r,r<16->GX.J afw r=if r<P then(s.fr f).da (ci.C.toNat+r)else 0)->Qr (Am.lT C (s.fr f) f ci.A.toNat ci.B.toNat ci.C.toNat) s.nf {CQ ci f pd with da:=afw}:=λafw hR =>
   ⟨by show ci.B=((ci.B.toNat:Nat):Int);omega,rfl,by rw[cF Ho];rfl,by show ci.A=((ci.A.toNat:Nat):Int);omega,rfl,by show pd=C.pd (s.fr f).nD (s.fr f).ct;exact abP,λr hr=>by show GX.J afw r=if r<C.params ci.B.toNat then(s.fr f).da (ci.C.toNat+r)else 0;rw[hcp];exact hR r hr⟩
  unfold er;rw[htb,gp,cF (by show ¬(4:Int)=3;decide),aW (by rfl),aW (Tx b hi),vu b hi,dc];rw[aW (by exact hin),jm,aW (by exact hin),aW (by exact Tk),jm,aW (by exact Tk)];unfold zw;rw[ay,aW (by exact ad6)];have Xs:((s.mem .next).toNat:Nat)=s.nf:=by rw[hnf];rfl
  by_cases hP0:P=0
  ·rw[cF (by show ¬(GX.J S.code ci.B.toNat).aV>0;rw[QL];omega),ay,aW (by rw[hU];exact hin),hst,eG];refine jA.VM (T:=((S.aH.set f t).set s.nf (CQ ci f pd)).set f {GX.J ((S.aH.set f t).set s.nf (CQ ci f pd)) f with ct:=wi ((GX.J ((S.aH.set f t).set s.nf (CQ ci f pd)) f).ct+1)}) (a:={act S i with dM:={jQ C 0 0 0 0 with aA:=0,fm:=4,lU:=s.mem .next},cw:=s.mem .next,aG:=2}) (x:=S.value) (l:=S.left) (q:=.fork s.nf) b hi ?_ w1 w2 rfl ⟨rfl,hnf⟩ (b.Aw (c:=.next) rfl (by rw[hp];rfl) trivial _ _ _ _ _) (Lg.nt rfl) trivial (by rw[hU,hU];exact hTl) (Mv b hi afu hp (hkt _ (λr hr=>by rw[eG];exact G7 r)) hlt rfl) b.jT.left b.jT.val;refine qG some (AF rfl (AF ?_ rfl));have hX:Pm ((S.aH.set f t).set (s.mem .next).toNat (⟨ci.B,0,(act S i).ax,ci.A,0,wi (wi (wi ((GX.J (S.aH.set f t) (act S i).ax.toNat).nD*1000003)+(GX.J (S.aH.set f t) (act S i).ax.toNat).ct)+1),List.replicate 16 (0:Int)⟩:aU)) (act S i).ax.toNat=((S.aH.set f t).set s.nf (CQ ci f pd)).set f {GX.J ((S.aH.set f t).set s.nf (CQ ci f pd)) f with ct:=wi ((GX.J ((S.aH.set f t).set s.nf (CQ ci f pd)) f).ct+1)}:=by
    rw[Wo,Xs,afu.fr,dc];rfl
   show({S with aH:=Pm ((S.aH.set f t).set (s.mem .next).toNat (⟨ci.B,0,(act S i).ax,ci.A,0,wi (wi (wi ((GX.J (S.aH.set f t) (act S i).ax.toNat).nD*1000003)+(GX.J (S.aH.set f t) (act S i).ax.toNat).ct)+1),List.replicate 16 (0:Int)⟩:aU)) (act S i).ax.toNat,ah:=((S.ah.set i _).set i _).set i _}:ag)=_;rw[hX,iG,iG];rfl
  ·have hC:=cl.2.resolve_left (by rw[hP];omega);rw[hP]at hC;have hw:wi (ci.C+(P:Int))=ci.C+P:=eF aB;have hw':wi (ci.C+(GX.J S.code ci.B.toNat).aV)=ci.C+P:=by rw[QL];exact hw
   rw[aW (by show(GX.J S.code ci.B.toNat).aV>0;rw[QL];omega),aW (by show 0<=ci.C/\ci.C<=wi (ci.C+(GX.J S.code ci.B.toNat).aV)/\wi (ci.C+(GX.J S.code ci.B.toNat).aV)<=16/\ci.C<16;rw[hw'];omega),ay,aW (by rw[hU,hU];exact hin),hst,eG];refine jA.VM (T:=((S.aH.set f t).set s.nf {CQ ci f pd with da:=C6 16 (yH t.da ci.C.toNat ((ci.C+(P:Int)).toNat-ci.C.toNat)) (List.replicate 16 (0:Int))}).set f {GX.J ((S.aH.set f t).set s.nf {CQ ci f pd with da:=C6 16 (yH t.da ci.C.toNat ((ci.C+(P:Int)).toNat-ci.C.toNat)) (List.replicate 16 (0:Int))}) f with ct:=wi ((GX.J ((S.aH.set f t).set s.nf {CQ ci f pd with da:=C6 16 (yH t.da ci.C.toNat ((ci.C+(P:Int)).toNat-ci.C.toNat)) (List.replicate 16 (0:Int))}) f).ct+1)}) (a:={act S i with dM:={jQ C 0 0 0 0 with aA:=0,fm:=4,lU:=s.mem .next},cw:=s.mem .next,aG:=2}) (x:=S.value) (l:=S.left) (q:=.fork s.nf) b hi ?_ w1 w2 rfl ⟨rfl,hnf⟩ (b.Aw (c:=.next) rfl (by rw[hp];rfl) trivial _ _ _ _ _) (Lg.nt rfl) trivial (by rw[hU,hU];exact hTl) (Mv b hi afu hp (hkt _ (λr hr=>by
    have hm:(ci.C+(P:Int)).toNat-ci.C.toNat=P:=by omega
    rw[hm,W3 hr,Dc];by_cases e:r<P
    ·rw[aW e,aW e,YI e,afu.t.da _ aB]
    ·rw[cF e,cF e,G7])) hlt rfl) b.jT.left b.jT.val
   refine qG some (AF rfl (AF ?_ rfl));have e1:GX.J ((S.aH.set f t).set s.nf (CQ ci f pd)) f=t:=by rw[pU (by rw[hTl];omega),cF hne];exact TB b hi afu hp
   have hX:Pm (((S.aH.set f t).set (s.mem .next).toNat (⟨ci.B,0,(act S i).ax,ci.A,0,wi (wi (wi ((GX.J (S.aH.set f t) (act S i).ax.toNat).nD*1000003)+(GX.J (S.aH.set f t) (act S i).ax.toNat).ct)+1),List.replicate 16 (0:Int)⟩:aU)).set (s.mem .next).toNat (⟨ci.B,0,(act S i).ax,ci.A,0,wi (wi (wi ((GX.J (S.aH.set f t) (act S i).ax.toNat).nD*1000003)+(GX.J (S.aH.set f t) (act S i).ax.toNat).ct)+1),C6 16 (yH (GX.J ((S.aH.set f t).set (s.mem .next).toNat (⟨ci.B,0,(act S i).ax,ci.A,0,wi (wi (wi ((GX.J (S.aH.set f t) (act S i).ax.toNat).nD*1000003)+(GX.J (S.aH.set f t) (act S i).ax.toNat).ct)+1),List.replicate 16 (0:Int)⟩:aU)) (act S i).ax.toNat).da ci.C.toNat ((wi (ci.C+(GX.J S.code ci.B.toNat).aV)).toNat-ci.C.toNat)) (List.replicate 16 (0:Int))⟩:aU)) (act S i).ax.toNat=((S.aH.set f t).set s.nf {CQ ci f pd with da:=C6 16 (yH t.da ci.C.toNat ((ci.C+(P:Int)).toNat-ci.C.toNat)) (List.replicate 16 (0:Int))}).set f {GX.J ((S.aH.set f t).set s.nf {CQ ci f pd with da:=C6 16 (yH t.da ci.C.toNat ((ci.C+(P:Int)).toNat-ci.C.toNat)) (List.replicate 16 (0:Int))}) f with ct:=wi ((GX.J ((S.aH.set f t).set s.nf {CQ ci f pd with da:=C6 16 (yH t.da ci.C.toNat ((ci.C+(P:Int)).toNat-ci.C.toNat)) (List.replicate 16 (0:Int))}) f).ct+1)}:=by
    rw[Wo,Xs,hw',afu.fr,dc,iG,show(⟨ci.B,0,(f:Int),ci.A,0,pd,List.replicate 16 (0:Int)⟩:aU)=CQ ci f pd from rfl,e1];rfl
   show({S with aH:=Pm (((S.aH.set f t).set (s.mem .next).toNat (⟨ci.B,0,(act S i).ax,ci.A,0,wi (wi (wi ((GX.J (S.aH.set f t) (act S i).ax.toNat).nD*1000003)+(GX.J (S.aH.set f t) (act S i).ax.toNat).ct)+1),List.replicate 16 (0:Int)⟩:aU)).set (s.mem .next).toNat (⟨ci.B,0,(act S i).ax,ci.A,0,wi (wi (wi ((GX.J (S.aH.set f t) (act S i).ax.toNat).nD*1000003)+(GX.J (S.aH.set f t) (act S i).ax.toNat).ct)+1),C6 16 (yH (GX.J ((S.aH.set f t).set (s.mem .next).toNat (⟨ci.B,0,(act S i).ax,ci.A,0,wi (wi (wi ((GX.J (S.aH.set f t) (act S i).ax.toNat).nD*1000003)+(GX.J (S.aH.set f t) (act S i).ax.toNat).ct)+1),List.replicate 16 (0:Int)⟩:aU)) (act S i).ax.toNat).da ci.C.toNat ((wi (ci.C+(GX.J S.code ci.B.toNat).aV)).toNat-ci.C.toNat)) (List.replicate 16 (0:Int))⟩:aU)) (act S i).ax.toNat,ah:=((S.ah.set i _).set i _).set i _}:ag)=_;rw[hX,iG,iG];rfl
 ·rw[cF h0]at hs;have htb:=wY (T:=S.aH.set f t) b hi (a:={act S i with dM:=jQ C 0 0 0 0}) hs (Kh rfl rfl);rw[htb,gp,aW (by rfl),aW (Tx b hi),vu b hi,dc,hst,oU];refine jA.VM (T:=S.aH.set f t) (a:={act S i with dM:={jQ C 0 0 0 0 with aA:=0,fm:=3,lU:=0},aG:=14}) (x:=S.value) (l:=S.left) (q:=.full) b hi ?_ w1 w2 rfl rfl (b.Aw (c:=.next) rfl (by rw[hp];rfl) trivial _ _ _ _ _) (Lg.nt rfl) (by show(11:Nat)≠0;decide) hTl (CP b afu.hn afu.t) b.jT.left b.jT.val;show some (_,({S with aH:=S.aH.set f t,ah:=(S.ah.set i _).set i _}:ag),_)=_;rw[iG];rfl
end
def wrap(i:Nat)(D:aQ)(r:ai)(S:ag)(M:af):Option (ai×Int×ag×af×aQ):=if r.aL=0 then some (r,0,S,M,D)else some ({r with gV:=(i:Int)},0,S,M,D)
def TC(C:Am.kT)(p:aM)(sz n i:Nat)(M:af)(D':aQ)(o:Am.Out)(r:Option (ai×Int×ag×af×aQ)):Prop:=
 ∃S' M',r=some (Tb i o.ev,0,S',M',D')/\S5 C p o.s S'/\AR C o.s M' sz (n+1)/\Lg C o.s M M' o.acc
section
variable {K:Nat}{C:Am.kT}{p:aM}{s:Am.St}{S:ag}{M:af}{sz n i:Nat}{D:aQ}{d:Int}
theorem Pn{e:Option Am.Ev}(h:Tc e){S':ag}{M':af}:wrap i D (B9 e) S' M'=some (Tb i e,0,S',M',D):=by
 unfold wrap;cases e with
 | none=>rw[aW (show(B9 none).aL=0 from rfl)];rfl
 | some e=>rw[cF (by show ¬((e.kind:Nat):Int)=0;have:e.kind≠0:=h;omega)];rfl
theorem jA.w{o:Am.Out}{r:Option (ai×ag×af)}{r':Option (ai×Int×ag×af×aQ)}(h:jA C p sz n M o r)(hr:r'=pM r (wrap i D)):TC C p sz n i M D o r':=by
 obtain⟨S',M',rfl,h1,h2,h3,h4⟩:=h;exact⟨S',M',by rw[hr,dz,Pn h4],h1,h2,h3⟩
theorem Mr.w{D':aQ}{o:Am.Out}{r:Option (ai×ag×af×aQ)}{r':Option (ai×Int×ag×af×aQ)}(h:Mr C p sz n M D' o r)(hr:r'=Hq r (λe a c d=>wrap i d e a c)):TC C p sz n i M D' o r':=by
 obtain⟨S',M',rfl,h1,h2,h3,h4⟩:=h;exact⟨S',M',by rw[hr,gp,Pn h4],h1,h2,h3⟩
variable (b:vL C p s S M sz n)(hi:i<C.N)
include b hi
theorem Po{k:Nat}(h:(act S i).aG=k)(hk:k<15):bI (GX.J S.ah i).aG OC.length/\GX.J OC (GX.J S.ah i).aG.toNat=GX.J OC k:=by
 have h':(GX.J S.ah i).aG=k:=h;refine⟨by rw[h'];exact⟨aB,by show(k:Int)<15;omega⟩,by rw[h',dc]⟩
theorem W5{k:Nat}(h:(act S i).aG=k)(hk:k=13∨k=14):bf K S M (i:Int) D=some (⟨0,0,0,0,0,0⟩,0,S,M,D):=by
 obtain⟨h1,h2⟩:=Po b hi h aB;unfold bf an;rw[eT,eG,cF (by rw[b.jT.wl];omega),eT,aW (b.AA hi),dc,aW h1,h2,aW (by rcases hk with rfl | rfl<;>rfl)]
theorem VO(h:(act S i).aG=0):bf K S M (i:Int) D=pM (jx S M (i:Int) D) (wrap i D):=by
 obtain⟨h1,h2⟩:=Po b hi (k:=0) h eL;have h':(GX.J S.ah i).aG=0:=h;unfold bf iL an;rw[eT,eG,cF (by rw[b.jT.wl];omega),eT,aW (b.AA hi),dc,aW h1,h2,cF eL,jm,aW h'];rfl
theorem abQ(h:(act S i).aG=1):bf K S M (i:Int) D=pM (ku S M (i:Int) D) (wrap i D):=by
 obtain⟨h1,h2⟩:=Po b hi (k:=1) h eL;have h':(GX.J S.ah i).aG=1:=h;unfold bf iL an;rw[eT,eG,cF (by rw[b.jT.wl];omega),eT,aW (b.AA hi),dc,aW h1,h2,cF eL,jm,dN h',aW h'];rfl
theorem YN(h:(act S i).aG=2):bf K S M (i:Int) D=pM (jR S M (i:Int) D) (wrap i D):=by
 obtain⟨h1,h2⟩:=Po b hi (k:=2) h eL;have h':(GX.J S.ah i).aG=2:=h;unfold bf iL an;rw[eT,eG,cF (by rw[b.jT.wl];omega),eT,aW (b.AA hi),dc,aW h1,h2,cF eL,jm,dN h',dN h',aW h'];rfl
theorem wZ(h:(act S i).aG=3):bf K S M (i:Int) D=pM (cE S M (i:Int) D) (wrap i D):=by
 obtain⟨h1,h2⟩:=Po b hi (k:=3) h eL;have h':(GX.J S.ah i).aG=3:=h;unfold bf iL an;rw[eT,eG,cF (by rw[b.jT.wl];omega),eT,aW (b.AA hi),dc,aW h1,h2,cF eL,jm,dN h',dN h',dN h',aW h'];rfl
theorem NX(h:(act S i).aG=4):bf K S M (i:Int) D=pM (eC S M (i:Int) D) (wrap i D):=by
 obtain⟨h1,h2⟩:=Po b hi (k:=4) h eL;have h':(GX.J S.ah i).aG=4:=h;unfold bf iL an;rw[eT,eG,cF (by rw[b.jT.wl];omega),eT,aW (b.AA hi),dc,aW h1,h2,cF eL,jm,dN h',dN h',dN h',dN h',aW h'];rfl
theorem YO(h:(act S i).aG=5):bf K S M (i:Int) D=pM (di S M (i:Int) D) (wrap i D):=by
 obtain⟨h1,h2⟩:=Po b hi (k:=5) h eL;have h':(GX.J S.ah i).aG=5:=h;unfold bf iL an;rw[eT,eG,cF (by rw[b.jT.wl];omega),eT,aW (b.AA hi),dc,aW h1,h2,cF eL,jm,dN h',dN h',dN h',dN h',dN h',aW h'];rfl
theorem Mw(h:(act S i).aG=6):bf K S M (i:Int) D=pM (eR S M (i:Int) D) (wrap i D):=by
 obtain⟨h1,h2⟩:=Po b hi (k:=6) h eL;have h':(GX.J S.ah i).aG=6:=h;unfold bf iL an;rw[eT,eG,cF (by rw[b.jT.wl];omega),eT,aW (b.AA hi),dc,aW h1,h2,cF eL,jm,dN h',dN h',dN h',dN h',dN h',dN h',aW h'];rfl
theorem NY(h:(act S i).aG=7):bf K S M (i:Int) D=pM (fA S M (i:Int) D) (wrap i D):=by
 obtain⟨h1,h2⟩:=Po b hi (k:=7) h eL;have h':(GX.J S.ah i).aG=7:=h;unfold bf iL an;rw[eT,eG,cF (by rw[b.jT.wl];omega),eT,aW (b.AA hi),dc,aW h1,h2,cF eL,jm,dN h',dN h',dN h',dN h',dN h',dN h',dN h',aW h'];rfl
theorem DN(h:(act S i).aG=8):bf K S M (i:Int) D=pM (cU S M (i:Int) D) (wrap i D):=by
 obtain⟨h1,h2⟩:=Po b hi (k:=8) h eL;have h':(GX.J S.ah i).aG=8:=h;unfold bf iL an;rw[eT,eG,cF (by rw[b.jT.wl];omega),eT,aW (b.AA hi),dc,aW h1,h2,cF eL,jm,dN h',dN h',dN h',dN h',dN h',dN h',dN h',dN h',aW h'];rfl
theorem TD(h:(act S i).aG=9):bf K S M (i:Int) D=Hq (fW K S M (i:Int) D) (λe a c d=>wrap i d e a c):=by
 obtain⟨h1,h2⟩:=Po b hi (k:=9) h eL;have h':(GX.J S.ah i).aG=9:=h;unfold bf iL an;rw[eT,eG,cF (by rw[b.jT.wl];omega),eT,aW (b.AA hi),dc,aW h1,h2,cF eL,jm,dN h',dN h',dN h',dN h',dN h',dN h',dN h',dN h',dN h',aW h'];rfl
theorem DP(h:(act S i).aG=10):bf K S M (i:Int) D=pM (cI S M (i:Int) D) (wrap i D):=by
 obtain⟨h1,h2⟩:=Po b hi (k:=10) h eL;have h':(GX.J S.ah i).aG=10:=h;unfold bf iL an;rw[eT,eG,cF (by rw[b.jT.wl];omega),eT,aW (b.AA hi),dc,aW h1,h2,cF eL,jm,dN h',dN h',dN h',dN h',dN h',dN h',dN h',dN h',dN h',dN h',aW h'];rfl
theorem YP(h:(act S i).aG=11):bf K S M (i:Int) D=pM (fB K S M (i:Int) D) (wrap i D):=by
 obtain⟨h1,h2⟩:=Po b hi (k:=11) h eL;have h':(GX.J S.ah i).aG=11:=h;unfold bf iL an;rw[eT,eG,cF (by rw[b.jT.wl];omega),eT,aW (b.AA hi),dc,aW h1,h2,cF eL,jm,dN h',dN h',dN h',dN h',dN h',dN h',dN h',dN h',dN h',dN h',dN h',aW h'];rfl
theorem Bu(h:(act S i).aG=12):bf K S M (i:Int) D=pM (bX S M (i:Int) D) (wrap i D):=by
 obtain⟨h1,h2⟩:=Po b hi (k:=12) h eL;have h':(GX.J S.ah i).aG=12:=h;unfold bf iL an;rw[eT,eG,cF (by rw[b.jT.wl];omega),eT,aW (b.AA hi),dc,aW h1,h2,cF eL,jm,dN h',dN h',dN h',dN h',dN h',dN h',dN h',dN h',dN h',dN h',dN h',dN h',aW h'];rfl
def drawn(q:Am.Pc)(D:aQ):aQ:=match q with
 | .rm=>Hy D
 | _=>D
theorem NZ(hK:100<K):TC C p sz n i M (drawn (s.pc i) D) (Am.aJ C s i (Cz D)) (bf K S M (i:Int) D):=by
 obtain⟨w1,w2,w3⟩:=b.jT.wk i hi;cases hp:s.pc i with
 | halted =>
  rw[hp]at w3;rw[W5 b hi (k:=13) w3 (.inl rfl)];unfold Am.aJ;rw[hp];exact⟨S,M,rfl,b.jT,b.ar.keep rfl rfl rfl rfl,Lg.none_⟩
 | full =>
  rw[hp]at w3;rw[W5 b hi (k:=14) w3 (.inr rfl)];unfold Am.aJ;rw[hp];exact⟨S,M,rfl,b.jT,b.ar.keep rfl rfl rfl rfl,Lg.none_⟩
 | run =>
  rw[hp]at w3;obtain⟨f,ci,t,afu,hr⟩:=VN (M:=M) (D:=D) b hi hp;have hd:=abQ (K:=K) (D:=D) b hi w3;rw[hr]at hd;have hk:ci.aL=0∨ci.aL=1∨ci.aL=2∨ci.aL=3∨ci.aL=4∨ci.aL=5∨ci.aL=6∨ci.aL=7∨ci.aL=8∨ci.aL=9:=by have:=afu.kd;omega
  rcases hk with k | k | k | k | k | k | k | k | k | k
  ·exact(abD b hi afu hp k).w hd
  ·exact(abE b hi afu hp k).w hd
  ·exact(abF b hi afu hp k).w hd
  ·exact(abG b hi afu hp k).w hd
  ·exact(abH b hi afu hp k).w hd
  ·exact(abO b hi afu hp k).w hd
  ·exact(abL b hi afu hp k).w hd
  ·exact(abK b hi afu hp k).w hd
  ·exact(abI b hi afu hp k).w hd
  ·exact(abM b hi afu hp k).w hd
 | rm =>
  rw[hp]at w3;exact(QG b hi hp).w (TD b hi w3.1)
 | Ez =>
  rw[hp]at w3;exact(VC b hi hK hp).w (YP b hi w3.1)
 | flag =>
  rw[hp]at w3;rcases w3 with h | h
  ·exact(Tt b hi hK hp h).w (TD b hi h.1)
  ·exact(VD b hi hp h).w (Bu b hi h.1.1)
 | sleep =>
  rw[hp]at w3;exact(Tp b hi hp).w (Bu b hi w3.1.1)
 | vr =>
  rw[hp]at w3;exact(Mq b hi hp).w (Bu b hi w3.1.1)
 | EX j =>
  rw[hp]at w3;obtain⟨_,k,h,_⟩:=w3;exact(Tq b hi hp).w (Bu b hi h.1)
 | DA j t =>
  rw[hp]at w3;obtain⟨_,k,h,_⟩:=w3;exact(Ts b hi hp).w (Bu b hi h.1)
 | parked =>
  rw[hp]at w3;obtain⟨_,k,h⟩:=w3;exact(QF b hi hp).w (Bu b hi h.1)
 | back w =>
  rw[hp]at w3;obtain⟨_,k,h,_⟩:=w3;exact(VE b hi hp).w (Bu b hi h.1)
 | we w =>
  rw[hp]at w3;obtain⟨_,k,h,_⟩:=w3;exact(NS b hi hp).w (Bu b hi h.1)
 | start x =>
  rw[hp]at w3;exact(Tw b hi hp).w (VO b hi w3.1)
 | fork c =>
  rw[hp]at w3;exact(VJ b hi hp).w (YN b hi w3.1)
 | ta =>
  rw[hp]at w3;exact(NV b hi hp).w (YO b hi w3.1)
 | out pp c =>
  rw[hp]at w3;exact(YL b hi hp).w (Mw b hi w3.1)
 | take pp c =>
  rw[hp]at w3;exact(VL b hi hp).w (Mw b hi w3.1)
 | done =>
  rw[hp]at w3;exact(Vz b hi hp).w (NY b hi w3.1)
 | tell j =>
  rw[hp]at w3;exact(VA b hi hp).w (NY b hi w3.1)
 | xJ j =>
  rw[hp]at w3;exact(NQ b hi hp).w (NY b hi w3.1)
 | Dz c =>
  rw[hp]at w3;exact(Tf b hi hp).w (wZ b hi w3.1)
 | Ac c bb =>
  rw[hp]at w3;exact(Tg b hi hp).w (wZ b hi w3.1)
 | tc c bb t =>
  rw[hp]at w3;exact(NG b hi hp).w (wZ b hi w3.1)
 | td c bb t =>
  rw[hp]at w3;exact(NH b hi hp).w (wZ b hi w3.1)
 | grow c bb t cc =>
  rw[hp]at w3;exact(Vt b hi hp).w (wZ b hi w3.1)
 | pD c bb t cc =>
  rw[hp]at w3;exact(NJ b hi hp).w (wZ b hi w3.1)
 | mL c bb t cc m =>
  rw[hp]at w3;exact(Mh b hi hp).w (wZ b hi w3.1)
 | mS c bb t cc m x =>
  rw[hp]at w3;exact(Kd b hi hp).w (wZ b hi w3.1)
 | pE c bb t cc =>
  rw[hp]at w3;exact(NK b hi hp).w (wZ b hi w3.1)
 | mM c bb cc =>
  rw[hp]at w3;exact(Mi b hi hp).w (wZ b hi w3.1)
 | rW c bb =>
  rw[hp]at w3;exact(NM b hi hp).w (wZ b hi w3.1)
 | Ig =>
  rw[hp]at w3;exact(Vy b hi hp).w (NX b hi w3.1)
 | uj j =>
  rw[hp]at w3;exact(NO b hi hp).w (NX b hi w3.1)
 | wc j =>
  rw[hp]at w3;exact(NP b hi hp).w (NX b hi w3.1)
 | GZ =>
  rw[hp]at w3;exact(Vv b hi hp).w (DN b hi w3.1)
 | wX bb =>
  rw[hp]at w3;exact(Qv b hi hp).w (DN b hi w3.1)
 | rH bb =>
  rw[hp]at w3;exact(Mj b hi hp).w (DN b hi w3.1)
 | Ey bb =>
  rw[hp]at w3;exact(Vw b hi hp).w (DN b hi w3.1)
 | qu t =>
  rw[hp]at w3;exact(Mk b hi hp).w (DN b hi w3.1)
 | vG bb t =>
  rw[hp]at w3;exact(Qw b hi hp).w (DN b hi w3.1)
 | sE bb t cc =>
  rw[hp]at w3;exact(NN b hi hp).w (DN b hi w3.1)
 | uP bb t x =>
  rw[hp]at w3;exact(Qx b hi hp).w (DN b hi w3.1)
 | tA t x w =>
  rw[hp]at w3;exact(Qy b hi hp).w (DN b hi w3.1)
 | vH v t =>
  rw[hp]at w3;exact(QA b hi hp).w (DP b hi w3.1)
 | rI v t =>
  rw[hp]at w3;exact(Ml b hi hp).w (DP b hi w3.1)
 | qv v t g =>
  rw[hp]at w3;exact(Mm b hi hp).w (DP b hi w3.1)
 | og v t g cc =>
  rw[hp]at w3;exact(Ke b hi hp).w (DP b hi w3.1)
 | pF v t x =>
  rw[hp]at w3;exact(Mn b hi hp).w (DP b hi w3.1)
theorem TE{S':ag}{M':af}(h1:S5 C p (Am.aJ C s i d).s S')(h2:AR C (Am.aJ C s i d).s M' sz (n+1))(hn:n+1<=1000000000):vL C p (Am.aJ C s i d).s S' M' sz (n+1):=
 ⟨b.ok,h1,h2,b.z.aJ b.ok b.dt hi d,b.bd.aJ d,b.dt.aJ hi d,Am.FI.aJ b.fi b.dt hi d,b.fr.aJ b.ok b.fi b.dt hi d,hn,b.vd,b.cf,b.room⟩
end
section
variable {K:Nat}
def cq(f m:Nat):Nat->Nat
 | 0=>f
 | g+1=>min (2*cq f m g) m
def tq(f m:Nat):Nat->Nat
 | 0=>0
 | g+1=>tq f m g+1+cq f m (g+1)
theorem Pp{f m:Nat}(h:f<=m):∀g,cq f m g<=m
 | 0=>h
 | g+1=>by simp only[cq];omega
theorem Ki{f m:Nat}(h1:1<=f)(h:f<=m):∀g,1<=cq f m g
 | 0=>h1
 | g+1=>by have:=Ki h1 h g;simp only[cq];omega
theorem N0{f m:Nat}(h1:1<=f)(hf:f<=m):∀(d g:Nat),m-cq f m g<=d->∃afs,g<=afs/\cq f m afs=m/\(∀x,g<=x->x<afs->cq f m x<m)/\tq f m g<=tq f m afs/\(cq f m g=m->afs=g)/\(2<=cq f m g->2*(tq f m afs-tq f m g)+5*cq f m g<=7*m)/\2*(tq f m afs-tq f m g)<=7*m
 | d,g,hd=>by
  have hl:=Pp hf g;have hp:=Ki h1 hf g;by_cases e:cq f m g<m
  ·have hn:cq f m (g+1)=min (2*cq f m g) m:=rfl;have hT:tq f m (g+1)=tq f m g+1+cq f m (g+1):=rfl;obtain⟨d,rfl⟩ :∃n,d=n+1:=⟨d-1,aB⟩;obtain⟨afs,a1,a2,a3,a4,a5,a6,a7⟩:=N0 h1 hf d (g+1) aB;refine⟨afs,aB,a2,λx hx hG => ?_,aB,λh=>aB,λh => ?_,?_⟩
   ·by_cases ex:x=g
    ·rw[ex];exact e
    ·exact a3 x aB hG
   ·by_cases e2:cq f m (g+1)=m
    ·have:=a5 e2;subst this;omega
    ·have:=a6 aB;omega
   ·by_cases e2:cq f m (g+1)=m
    ·have:=a5 e2;subst this;omega
    ·have:=a6 aB;omega
  ·have e':cq f m g=m:=by omega
   exact⟨g,j9 _,e',λx h1 h2=>aB,j9 _,λ_=>rfl,λh=>aB,aB⟩
theorem Pq{f m afs:Nat}(hf:f<=m)(hm:m<=4096)(hG:cq f m afs=m)(hT:tq f m afs<=100000):∀(d g k:Nat) (z:Int),g+d=afs->d<k->(∀x,g<=x->x<afs->cq f m x<m)->0<=z->z+((tq f m afs-tq f m g:Nat):Int)<=1000000->tq f m g<=tq f m afs->
 mc K (m:Int) k z (cq f m g:Nat)=some (z+((tq f m afs-tq f m g:Nat):Int))
 | d,g,k,z,hd,hk,hx,hz,hz2,ht=>by
  obtain⟨k,rfl⟩ :∃n,k=n+1:=⟨k-1,aB⟩;have hl:=Pp hf g;rw[mc];by_cases e:g=afs
  ·subst e;rw[hG,eG,Nat.sub_self];simp
  ·obtain⟨d,rfl⟩ :∃n,d=n+1:=⟨d-1,aB⟩;have h1:=hx g (j9 _) aB;have hn:cq f m (g+1)=min (2*cq f m g) m:=rfl;have hT':tq f m (g+1)=tq f m g+1+cq f m (g+1):=rfl;have VP:∀y,g+1+y<=afs->tq f m (g+1)<=tq f m (g+1+y):=λy=>by
    induction y with
    | zero=>intro _;exact j9 _
    | succ y ih=>intro h;have:=ih aB;show _<=tq f m (g+1+y)+1+cq f m (g+1+y+1);omega
   have hle:tq f m (g+1)<=tq f m afs:=by have:=VP (afs-(g+1)) aB;rwa [show g+1+(afs-(g+1))=afs by omega]at this
   have hc:(if(m:Int)<wi ((2:Int)*((cq f m g:Nat):Int))then(m:Int)else wi ((2:Int)*((cq f m g:Nat):Int)))=((cq f m (g+1):Nat):Int):=by
    rw[eF aB];split<;>omega
   rw[oU,hc,eF (x:=z+1) aB,eF (x:=z+1+_) aB,
    Pq hf hm hG hT d (g+1) k _ aB aB (λx h1 h2=>hx x aB h2) aB aB hle]
   congr 1;omega
theorem VQ{N F:Nat}{lp:eM}{f m:Nat}(hl:WV lp.cA lp.dS lp.jL)(hF:lp.cA=F)(hf:lp.dS=f)(hm:lp.jL=m)(ZH:1<=N)(hN:N<=64)(hK:5000<K) :
 ∃afs,cq f m afs=m/\(∀x,x<afs->cq f m x<m)/\tq f m afs<=15000/\xy K (N:Int) lp=some ((4+10*F+N+N*(4+f+tq f m afs):Nat):Int)/\4+10*F+N+N*(4+f+tq f m afs)<=1048576:=by
 have f1:=hl.f1;have f2:=hl.f2;have a1:=hl.a1;have a2:=hl.a2;have m2:=hl.m2;obtain⟨afs,g1,g2,g3,g4,g5,g6,g7⟩:=N0 (f:=f) (m:=m) aB aB (m-cq f m 0) 0 (j9 _);have h0:tq f m 0=0:=rfl;have h0':cq f m 0=f:=rfl;rw[h0']at g5 g6;rw[h0]at g6 g7;have hb:2*(4+f+tq f m afs)<=28690:=by
  by_cases e:2<=f
  ·have:=g6 e;omega
  ·omega
 refine⟨afs,g2,λx hx=>g3 x (Cf _) hx,aB,?_,?_⟩
 ·unfold xy kq tD;have hGK:afs<K:=by
   have VP:∀x,x<=afs->x<=tq f m x:=λx=>by
    induction x with
    | zero=>intro _;exact j9 _
    | succ y ih=>intro h;have:=ih aB;show _<=tq f m y+1+cq f m (y+1);omega
   have h9:∀x,x<=afs->x<=cq f m x:=λx=>by
    induction x with
    | zero=>intro _;exact Cf _
    | succ y ih =>
     intro h;have:=ih aB;have:=g3 y (Cf _) aB;have:=Ki (f:=f) (m:=m) aB aB y;show _<=min (2*cq f m y) m;omega
   have:=h9 afs (j9 _);omega
  have e:=Pq (K:=K) (f:=f) (m:=m) (afs:=afs) aB aB g2 aB afs 0 K (4+(f:Int)) aB hGK (λx h1 h2=>g3 x h1 h2) aB aB (by rw[h0];omega);rw[h0,h0',Nat.sub_zero]at e;rw[eG,eG,eG,eG,eG,eG,ay,cF (by simp;omega),eT,hf,hm,eF (x:=4+(f:Int)) aB,e,ay,hF,
   eF (x:=(F:Int)*10) aB,eF (x:=(2:Int)+(F:Int)*10) aB,eF (x:=(2:Int)+(F:Int)*10+2) aB,eF (x:=(2:Int)+(F:Int)*10+2+(N:Int)) aB]
  have hmul:(N:Int)*(4+(f:Int)+((tq f m afs:Nat):Int))=((N*(4+f+tq f m afs):Nat):Int):=by simp
  have hb2:N*(4+f+tq f m afs)<=64*14345:=Nat.mul_le_mul hN aB;rw[hmul,eF (x:=((N*(4+f+tq f m afs):Nat):Int)) aB,eF aB]
  congr 1;omega
 ·have hb2:N*(4+f+tq f m afs)<=64*14345:=Nat.mul_le_mul hN aB;omega
end
def init(C:Am.kT)(args:List Int):Am.St:=
 { mem:=λa=>match a with
    | .next=>1
    | .join _=>1
    | .buf i=>(Am.vJ C i:Int)+3
    | .cap _ g=>if g=0 then(C.first:Int)else 0
    | _=>0
   pc:=λi=>if i=0 then .start (-1)else .rm
   hold:=λi=>if i=0 then some 0 else none
   fZ:=λ_=>0
   fr:=λf=>{fn:=0,J:=0,par:=0,slot:=0,ct:=0,nD:=if f=0 then 1 else 0,da:=λr=>if f=0 then GX.J args r else 0}
   nf:=1
   cur:=λ_=>0
   base:=λj _=>(Am.vJ C j:Int)+3
   size:=Am.S0 C
   val:=none
   JX:=false
   loc:=λf=>if f=0 then .held 0 else .free
   q:=λ_=>[]
   pop:=λ_=>none
   ct:=λ_=>[]}
section
variable {C:Am.kT}{args:List Int}
theorem VR(j:Nat):Am.lA ((init C args).pc j)=false:=by show Am.lA (if j=0 then _ else _)=false;split<;>rfl
theorem yV(j:Nat):Am.gen (init C args) j=0:=by unfold Am.gen;rw[VR];rfl
theorem VS(hC:C.OK):Am.SZ C (init C args) where
 cap:=λj hj g hg=>by
  have LS:g=0:=Nat.le_zero.1 hg;subst LS;rfl
 SX:=λj hj=>rfl
 size:=by
  show(Am.S0 C:Int)=_;rw[Am.CK (g:=λ_=>0) (λj _=>by rw[yV];rfl)];have:∀n,Am.EC (λ_=>0) n=0:=λn=>by induction n with
   | zero=>rfl
   | succ n ih=>show Am.EC (λ_=>0) n+0=0;rw[ih]
  rw[this];simp
 bs:=λj hj g h1 h2=>by rw[yV]at h2;omega
 dj:=λj j' g g' _ _ h1 _ h2 _ _=>by rw[yV]at h2;omega
 gm:=λj hj g hg=>by rw[yV]at hg;omega
theorem VT:Am.BD (init C args) 0 where
 m:=λa ha=>by cases a<;>first | exact Bool.noConfusion ha | exact⟨by show -_<=(1:Int);omega,by show(1:Int)<=_;omega⟩ | exact⟨by show -_<=(0:Int);omega,by show(0:Int)<=_;omega⟩
 r:=λi x hx=>by
  have:Am.gP ((init C args).pc i)=[]:=by show Am.gP (if i=0 then _ else _)=[];split<;>rfl
  rw[this]at hx;cases hx
 k:=λf=>j9 _
theorem VU(hC:C.OK):Am.DT C (init C args):=by
 refine⟨λj hj => ?_,λi hi => ?_⟩
 ·refine⟨xn _,λg hg => ?_,?_,rfl,λm hm=>absurd hm (Nat.not_lt_zero _),?_⟩
  ·have LS:g=0:=Nat.le_zero.1 hg;subst LS;have:=hC.c1;show(1:Int)<=(C.first:Int);omega
  ·have:=hC.cm;show(C.first:Int)<=C.most;omega
  ·refine(Am.rN.idle ?_).2 ⟨rfl,?_⟩
   ·show Am.Idle (if j=0 then _ else _);split<;>trivial
   ·show(0:Int)<=(C.first:Int);omega
 ·unfold Am.Th;by_cases e:i=0
  ·rw[show(init C args).pc i= .start (-1)from aW e];trivial
  ·rw[show(init C args).pc i= .rm from cF e];show C.N≠1;omega
theorem VV(hC:C.OK):(Am.view (init C args)).FI C.N C.F:=by
 have hg:∀i,(Am.view (init C args)).g i=if i=0 then .start else .none:=λi=>by show Am.sig (if i=0 then _ else _)=_;split<;>rfl
 have hh:∀i,(Am.view (init C args)).hold i=if i=0 then some 0 else none:=λ_=>rfl;have hl:∀f,(Am.view (init C args)).loc f=if f=0 then .held 0 else .free:=λ_=>rfl;have hq:∀i,(Am.view (init C args)).q i=[]:=λ_=>rfl;have hk:∀i,(Am.view (init C args)).ct i=[]:=λ_=>rfl;have hpo:∀i,(Am.view (init C args)).pop i=none:=λ_=>rfl;have hj:∀f,(Am.view (init C args)).join f=1:=λ_=>rfl;have hm:∀f,(Am.view (init C args)).mark f=0:=λ_=>rfl;have hp:∀f,(Am.view (init C args)).par f=0:=λ_=>rfl;have hn:(Am.view (init C args)).nf=1:=rfl;have hx:(Am.view (init C args)).next=1:=rfl;have f1:=hC.f1;constructor
 ·omega
 ·omega
 ·left;rw[hx,hn];rfl
 ·intro f hf;rw[hl,eG]
 ·intro f hf;rw[hl,oU];simp
 ·intro f hf;rw[hk,hj];exact⟨rfl,rfl⟩
 ·intro i f hi h;rw[hh]at h;split at h
  ·next e=>cases h;right;rw[hg,aW e,hl,aW rfl,e];exact⟨by simp,rfl⟩
  ·cases h
 ·intro i hi h;rw[hg]at h;split at h
  ·next e=>rw[hh,aW e];simp
  ·cases h
 ·intro i hi h;rw[hg]at h;split at h
  ·cases h
  ·next e=>rw[hh,cF e]
 ·intro i c hi h;rw[hg]at h;split at h<;>cases h
 ·intro i c hi h;rw[hg]at h;split at h<;>cases h
 ·intro j x hj h;rw[hq]at h;cases h
 ·intro j hj;rw[hq];exact List.nodup_nil
 ·intro i x hi h;rw[hpo]at h;cases h
 ·intro i pp c hi h;rw[hg]at h;split at h<;>cases h
 ·intro i pp c hi h;rw[hg]at h;split at h<;>cases h
 ·intro i pp c hi h;rw[hg]at h;split at h<;>cases h
 ·intro pp;rw[hk];exact List.nodup_nil
 ·intro pp c h;rw[hk]at h;cases h
 ·intro c h0 hc;omega
 ·intro c hc;rw[hp];omega
 ·intro f hf;rw[hl,oU,hj,hk];rfl
 ·intro f _;exact hm f
 ·intro i f _ _ _;exact hm f
theorem VW(hC:C.OK):Am.FR C (init C args):=λf hf=>⟨hC.fn0,by show(0:Nat)<8;decide,λ_=>hC.Yv 0 hC.fn0⟩
theorem VX{N F:Nat}{c:List Int}(hC:C.OK)(hN:C.N=N)(hF:C.F=F){W:Nat}(hW:W=4+C.first)(L:GY N F W (C.first:Int) c):Am.CL C (init C args) c:=by
 subst hN;subst hF;subst hW;have ad7:∀i,Am.vJ C i=4+10*C.F+C.N+i*(4+C.first):=λ_=>rfl;refine⟨by show(c.length:Int)=(Am.S0 C:Int);rw[L.len];rfl,λa ha => ?_⟩;have key:∀k:Nat,Am.cG C (init C args) a=(k:Int)->c.getD (Am.cG C (init C args) a).toNat 0=GX.J c k:=λk hk=>by rw[hk];rfl
 have dq:=λi hi r hr=>L.dq i hi r hr;cases a with
 | result=>exact(key 0 rfl).trans L.c0
 | next=>exact(key 1 rfl).trans L.c1
 | join f=>exact(key (2+10*f+0) (by show(2:Int)+10*f=_;omega)).trans (L.fr f ha 0 aB)
 | mark f=>exact(key (2+10*f+1) (by show(3:Int)+10*f=_;omega)).trans (L.fr f ha 1 aB)
 | slot f k=>have h8:=ha.2;exact(key (2+10*f+(2+k)) (by show(4:Int)+10*f+k=_;omega)).trans ((L.fr f ha.1 (2+k) aB).trans (cF aB))
 | tK=>exact(key (2+10*C.F+0) (by show(2:Int)+10*C.F=_;omega)).trans (L.lot 0 aB)
 | Ex=>exact(key (2+10*C.F+1) (by show(3:Int)+10*C.F=_;omega)).trans (L.lot 1 aB)
 | flag i=>have hi:i<C.N:=ha;exact(key (2+10*C.F+(2+i)) (by show(4:Int)+10*C.F+i=_;omega)).trans (L.lot (2+i) aB)
 | top i=>exact(key (4+10*C.F+C.N+i*(4+C.first)+0) rfl).trans (dq i ha 0 aB)
 | bot i=>exact(key (4+10*C.F+C.N+i*(4+C.first)+1) rfl).trans (dq i ha 1 aB)
 | buf i=>exact(key (4+10*C.F+C.N+i*(4+C.first)+2) rfl).trans (dq i ha 2 aB)
 | cap i g =>
  have hg:g=0:=by have:=ha.2;rw[yV]at this;omega
  subst hg;exact(key (4+10*C.F+C.N+i*(4+C.first)+3) rfl).trans (dq i ha.1 3 aB)
 | el i g m =>
  have hg:g=0:=by have:=ha.2.1;rw[yV]at this;omega
  subst hg;have hm:m<C.first:=ha.2.2;exact(key (4+10*C.F+C.N+i*(4+C.first)+(4+m)) (by show(Am.vJ C i:Int)+3+1+m=_;rw[ad7];omega)).trans ((dq i ha.1 (4+m) aB).trans (by rw[eG,eG];rfl))
end
theorem N1(C:Am.kT):∀g,Am.uA C g=cq C.first C.most g
 | 0=>rfl
 | g+1=>by show min (2*Am.uA C g) C.most=min (2*cq C.first C.most g) C.most;rw[N1 C g]
theorem TF(C:Am.kT):∀g,Am.tot C g=tq C.first C.most g
 | 0=>rfl
 | g+1=>by show Am.tot C g+1+Am.uA C (g+1)=tq C.first C.most g+1+cq C.first C.most (g+1);rw[TF C g,N1 C (g+1)]
theorem TG{p:aM}{args:List Int}{N F f m sz afs:Nat}{c:List Int}{l:List aR}{w:Bool}(hv:Valid p)(ha:(args.length:Int)=(GX.J p.ak 0).aV)(MC:1<=N)(hn:N<=64)(hf1:1<=F)(hf:F<=4096)(h1:1<=f)(W0:f<=m)(hm:m<=4096)
 (hG:cq f m afs=m) (hsz:sz=4+10*F+N+N*(4+f+tq f m afs)) (hs1:sz<=1048576) (L:GY N F (4+f) (f:Int) c) (hl:l=[]) {x:Int}:vL (cfg p N F f m) p (init (cfg p N F f m) args) (abe p args N F (4+f) m) (ar sz c l x w) sz 0:=by
 have hC:=S2 (p:=p) (N:=N) (F:=F) (f:=f) (m:=m) hv MC hn hf1 hf h1 W0 hm;have hz:=VS (args:=args) hC;have hroom:(sz:Int)=Am.S0 (cfg p N F f m)+(cfg p N F f m).N*Am.tot (cfg p N F f m) afs:=by
  rw[TF];show(sz:Int)=((4+10*F+N+N*(4+f):Nat):Int)+(N:Int)*(tq f m afs:Int);rw[hsz,show 4+f+tq f m afs=(4+f)+tq f m afs from rfl,Nat.mul_add];simp;omega
 have hcap:Am.uA (cfg p N F f m) afs=(cfg p N F f m).most:=by rw[N1];exact hG
 have hp8:=(hv.MG 0 hv.n1).p8;subst hl;refine⟨hC,?_,⟨rfl,hs1,Mg hz hroom hcap,rfl,VX hC rfl rfl rfl L,j9 _⟩,hz,VT,VU hC,VV hC,VW hC,aB,hv,rfl,afs,hroom,hcap⟩;refine⟨rfl,rfl,rfl,rfl,rfl,rfl,?_,λv hvN => ?_,?_,λg hg => ?_,?_,λi hi => ?_,rfl,rfl⟩
 ·exact O6 N 0
 ·have h:=SN (B:=4+10*F+N) (W:=4+f) (most:=(m:Int)) N 0 v hvN;rw[Ae]at h;exact h
 ·show((List.replicate F SQ).set 0 _).length=F;rw[hU,lY]
 ·have LS:g=0:=by have:g<1:=hg;omega
  subst LS;show Qr _ 0 (GX.J ((List.replicate F SQ).set 0 _) 0);rw[pU (by rw[lY];omega),aW rfl];refine⟨rfl,rfl,rfl,rfl,rfl,rfl,λr hr => ?_⟩;show GX.J (C6 16 args (List.replicate 16 0)) r=GX.J args r;rw[W3 hr];split
  ·rfl
  ·next e=>rw[G7];unfold GX.J;rw[List.getD_eq_getElem?_getD,List.getElem?_eq_none aB];rfl
 ·show((ye 0 N).set 0 _).length=N;rw[hU,zF]
 ·show aOK _ _ i (GX.J ((ye 0 N).set 0 _) i);have ZM:i<N:=hi;rw[pU (by rw[zF];omega)];by_cases e:i=0
  ·subst e;rw[aW rfl];exact⟨rfl,rfl,rfl,rfl⟩
  ·rw[cF e,Ew N 0 i ZM,Ae];refine⟨rfl,by show(-1:Int)=fi (if i=0 then some 0 else none);rw[cF e];rfl,?_⟩;rw[show(init (cfg p N F f m) args).pc i= .rm from cF e];exact⟨rfl,rfl,by show(0:Nat)<3;decide⟩
section
variable {K:Nat}
theorem Pr{x n:Int}(h1:1<=n)(h2:n<=1000) :∃i:Nat,iw x n=some (i:Int)/\(i:Int)<n:=by
 have e1:=ER x (b:=n) aB;have e2:=ES x (show 0<n by omega);have e4:x.tmod n=if 0<=x∨n∣x then x%n else x%n-n:=by
  rw[Int.tmod_eq_emod];split
  ·omega
  ·rw[show((n.natAbs:Nat):Int)=n by omega]
 refine⟨(x%n).toNat,?_,aB⟩;rw[show(((x%n).toNat:Nat):Int)=x%n by omega];unfold iw;rw[oU,e4];by_cases h:0<=x∨n∣x
 ·rw[aW h,eG]
 ·rw[cF h,oU,eF aB];congr 1;omega
end
section
variable {K:Nat}
theorem abR{C:Am.kT}{i cj tr:Nat}{p:Am.Pc}{bs:Nat->Nat->Int}{a:bD}(h:ph C i p tr cj bs a)(ZK:a.aG=13):p= .halted:=by
 cases p<;>first | rfl | (exfalso;dsimp only [ph,RO]at h;first | omega | (have:=h.1;omega))
section
variable {C:Am.kT}{p:aM}{s:Am.St}{S:ag}{M:af}{sz n i:Nat}{D:aQ}
theorem QO(h:S5 C p s S)(hi:i<C.N):nP S M (i:Int)=some ((act S i).aG==13):=by
 unfold nP;rw[oU,aW (by rw[h.wl];omega),aW ⟨aB,by rw[h.wl];omega⟩,dc]
theorem YQ(h:M.log.length<=2000000000):oT M=some M.log:=by
 unfold oT;rw[aW ⟨aB,aB⟩,aW (by rw[lY])]
end
theorem QS{C:Am.kT}{p:aM}{s:Am.St}{S:ag}{M:af}{sz n:Nat}(b:vL C p s S M sz n)(w:Bool):vL C p s S {M with watched:=w} sz n:=
 { b with ar:=⟨b.ar.size,b.ar.s1,b.ar.fit,b.ar.mark,b.ar.cl,b.ar.lg⟩}
end
end Mo
end
section
namespace Am
structure ZN where
 st:Nat->Nat
 nD:Nat->Int
 ct:Nat->Nat
def abS(C:kT)(o:ZN)(e:Ev):Prop:=
 if e.kind=2 then o.st e.ax.toNat=0/\o.st e.x.toNat=2/\e.v=C.pd (o.nD e.x.toNat) (o.ct e.x.toNat)/\e.ax.toNat≠e.x.toNat
 else if e.kind=1 then o.st e.ax.toNat=1/\e.v=1
 else if e.kind=6 then o.st e.ax.toNat=2
 else True
def abT(C:kT)(o:ZN)(e:Ev):ZN:=
 if e.kind=2 then⟨dW o.st e.ax.toNat 1,dW o.nD e.ax.toNat (C.pd (o.nD e.x.toNat) (o.ct e.x.toNat)),dW o.ct e.x.toNat (o.ct e.x.toNat+1)⟩
 else if e.kind=1 then {o with st:=dW o.st e.ax.toNat 2}
 else if e.kind=6 then {o with st:=dW o.st e.ax.toNat 3}
 else o
def abU:Loc->Option Nat
 | .free | .cw _=>some 0
 | .SR _ | .pop _=>some 1
 | .uk _ | .waiting | .yf _=>some 2
 | .fin _ | .gone=>some 3
 | .held _=>none
def plain:Yu->Bool
 | .fork _ | .push _ | .full=>false
 | _=>true
structure OI(C:kT)(w:W)(o:ZN):Prop where
 a:∀f n,abU (w.v.loc f)=some n->o.st f=n
 h:∀i f,i<C.N->w.v.hold i=some f->o.st f=if w.v.g i= .start then 1 else 2
 p:∀f,f<w.v.nf->o.st f≠0->o.nD f=w.nD f
 k:∀f,f<w.v.nf->(∀i,i<C.N->w.v.hold i=some f->plain (w.v.g i)=true)->o.ct f=w.kc f
 fk:∀i c f,i<C.N->w.v.hold i=some f->w.v.g i= .fork c->w.kc f=o.ct f+1/\w.nD c=C.pd (w.nD f) (o.ct f)
 ps:∀i c f,i<C.N->w.v.hold i=some f->w.v.g i= .push c->w.kc f=o.ct f+1/\w.nD c=C.pd (w.nD f) (o.ct f)
 nw:∀f,w.v.nf<=f->o.ct f=0
attribute [grind =] fC
attribute [grind] abU plain
theorem YR{C:kT}{o:ZN}{e:Ev}:abS C o e=(if e.kind=2 then o.st e.ax.toNat=0/\o.st e.x.toNat=2/\e.v=C.pd (o.nD e.x.toNat) (o.ct e.x.toNat)/\e.ax.toNat≠e.x.toNat
 else if e.kind=1 then o.st e.ax.toNat=1/\e.v=1
 else if e.kind=6 then o.st e.ax.toNat=2
 else True):=rfl
section
variable {C:kT}{w:W}{i:Nat}{o:ZN}
theorem G8{v:V}{N F:Nat}(h:v.FI N F){i j f:Nat}(hi:i<N)(hj:j<N)(h1:v.hold i=some f)(h2:v.hold j=some f):i=j:=by
 have a:=h.hold i f hi h1;have b:=h.hold j f hj h2;grind
theorem u4{v:V}{N F:Nat}(h:v.FI N F){i f:Nat}(hi:i<N)(h1:v.hold i=some f):f<v.nf:=by
 have a:=h.hold i f hi h1;have b:=h.free f;grind
theorem OI.kf(q:OI C w o)(h:w.v.FI C.N C.F)(hi:i<C.N)(hg:w.v.g i= .run){f:Nat}(hf:w.v.hold i=some f):f<w.v.nf/\o.ct f=w.kc f:=
 ⟨u4 h hi hf,q.k f (u4 h hi hf) (λj hj hjf=>by rw[<-G8 h hi hj hf hjf,hg];rfl)⟩
theorem OI.full(q:OI C w o)(h:w.v.FI C.N C.F)(hi:i<C.N){c:Nat}(hg:w.v.g i= .push c) :
 OI C {w with v:={w.v with g:=dW w.v.g i .full}} o where
 a:=q.a
 h:=by have z0:=q.h;have z1:=q.a;have y0:=h.hold;grind
 p:=q.p
 k:=by have z0:=q.k;have z1:=q.a;have z2:=q.h;have y0:=h.hold;grind
 fk:=by have z0:=q.fk;have z1:=q.a;have z2:=q.h;have y0:=h.hold;grind
 ps:=by have z0:=q.ps;have z1:=q.a;have z2:=q.h;have y0:=h.hold;grind
 nw:=q.nw
theorem OI.start(q:OI C w o)(h:w.v.FI C.N C.F)(hi:i<C.N){f:Nat}(hg:w.v.g i= .start)(hf:w.v.hold i=some f){m:Int} :
 OI C {w with v:={w.v with g:=dW w.v.g i .run,mark:=dW w.v.mark f m},fx:=dW w.fx i 0} {o with st:=dW o.st f 2} where
 a:=by have z0:=q.a;have z1:=q.h;have y0:=h.hold;grind
 h:=by have z0:=q.h;have z1:=q.a;have y0:=h.hold;grind
 p:=by have z0:=q.p;have z1:=q.a;have z2:=q.h;have y0:=h.hold;grind
 k:=by have z0:=q.k;have z1:=q.a;have z2:=q.h;have y0:=h.hold;grind
 fk:=by have z0:=q.fk;have z1:=q.a;have z2:=q.h;have y0:=h.hold;grind
 ps:=by have z0:=q.ps;have z1:=q.a;have z2:=q.h;have y0:=h.hold;grind
 nw:=q.nw
theorem OI.spawn(q:OI C w o)(h:w.v.FI C.N C.F)(hi:i<C.N){f:Nat}(hg:w.v.g i= .run)(hf:w.v.hold i=some f)(hn:w.v.next<C.F) :
 OI C {w with v:={w.v with g:=dW w.v.g i (.fork w.v.nf),next:=w.v.next+1,nf:=w.v.nf+1,par:=dW w.v.par w.v.nf f,loc:=dW w.v.loc w.v.nf (.cw i)},nD:=dW w.nD w.v.nf (C.pd (w.nD f) (w.kc f)),kc:=dW (dW w.kc f (w.kc f+1)) w.v.nf 0} o where
 a:=by have z0:=q.a;have z1:=q.h;have z2:=q.k;have z3:=q.nw;have y0:=h.hold;have y1:=h.free;have y2:=h.used;have y3:=h.fk;have y4:=h.ps;have y5:=h.new;grind
 h:=by have z0:=q.h;have z1:=q.a;have z2:=q.k;have z3:=q.nw;have y0:=h.hold;have y1:=h.free;have y2:=h.used;have y3:=h.fk;have y4:=h.ps;have y5:=h.new;grind
 p:=by have z0:=q.p;have z1:=q.a;have z2:=q.h;have z3:=q.k;have z4:=q.nw;have y0:=h.hold;have y1:=h.free;have y2:=h.used;have y3:=h.fk;have y4:=h.ps;have y5:=h.new;grind
 k:=by have z0:=q.k;have z1:=q.a;have z2:=q.h;have z3:=q.nw;have y0:=h.hold;have y1:=h.free;have y2:=h.used;have y3:=h.fk;have y4:=h.ps;have y5:=h.new;grind
 fk:=λj c g hj hh Un=>by
  obtain⟨y1,y2⟩:=q.kf h hi hg hf;have y3:=u4 h hj hh;have y4:=h.free w.v.nf (j9 _);have y5:g=f->i=j:=λe=>G8 h hi hj hf (by rw[<-e];exact hh);have y6:=q.fk j c g hj hh;have y7:=h.fk j c hj;simp only[fC]at Un⊢;by_cases e:j=i
  ·subst e;have:g=f:=Option.some.inj (hh.symm.trans hf);grind
  ·rw[cF e]at Un;grind
 ps:=λj c g hj hh Un=>by
  obtain⟨y1,y2⟩:=q.kf h hi hg hf;have y3:=u4 h hj hh;have y4:=h.free w.v.nf (j9 _);have y5:g=f->i=j:=λe=>G8 h hi hj hf (by rw[<-e];exact hh);have y6:=q.ps j c g hj hh;have y7:=h.ps j c hj;simp only[fC]at Un⊢;by_cases e:j=i
  ·subst e;have:g=f:=Option.some.inj (hh.symm.trans hf);grind
  ·rw[cF e]at Un;grind
 nw:=by have z0:=q.nw;have z1:=q.a;have z2:=q.h;have z3:=q.k;have y0:=h.hold;have y1:=h.free;have y2:=h.used;have y3:=h.fk;have y4:=h.ps;have y5:=h.new;grind
theorem OI.zI(q:OI C w o)(h:w.v.FI C.N C.F)(hi:i<C.N)(hg:w.v.g i= .run) :
 OI C {w with v:={w.v with g:=dW w.v.g i .full,next:=w.v.next+1}} o where
 a:=q.a
 h:=by have z0:=q.h;have z1:=q.a;have y0:=h.hold;grind
 p:=q.p
 k:=by have z0:=q.k;have z1:=q.a;have z2:=q.h;have y0:=h.hold;grind
 fk:=by have z0:=q.fk;have z1:=q.a;have z2:=q.h;have y0:=h.hold;grind
 ps:=by have z0:=q.ps;have z1:=q.a;have z2:=q.h;have y0:=h.hold;grind
 nw:=q.nw
theorem OI.fork(q:OI C w o)(h:w.v.FI C.N C.F)(hi:i<C.N){c f:Nat}(hg:w.v.g i= .fork c)(hf:w.v.hold i=some f) :
 OI C {w with v:={w.v with g:=dW w.v.g i (.push c),join:=dW w.v.join f (w.v.join f+1),ct:=dW w.v.ct f (c::w.v.ct f)}} o where
 a:=q.a
 h:=by have z0:=q.h;have z1:=q.a;have z2:=q.fk;have y0:=h.hold;grind
 p:=q.p
 k:=by have z0:=q.k;have z1:=q.a;have z2:=q.h;have z3:=q.fk;have y0:=h.hold;grind
 fk:=by have z0:=q.fk;have z1:=q.a;have z2:=q.h;have y0:=h.hold;grind
 ps:=by have z0:=q.ps;have z1:=q.a;have z2:=q.h;have z3:=q.fk;have y0:=h.hold;grind
 nw:=q.nw
theorem OI.push(q:OI C w o)(h:w.v.FI C.N C.F)(hi:i<C.N){c f:Nat}(hg:w.v.g i= .push c)(hf:w.v.hold i=some f) :
 OI C {w with v:={w.v with g:=dW w.v.g i .run,q:=dW w.v.q i (w.v.q i++[c]),loc:=dW w.v.loc c (.SR i)}} ⟨dW o.st c 1,dW o.nD c (C.pd (o.nD f) (o.ct f)),dW o.ct f (o.ct f+1)⟩ where
 a:=by have z0:=q.a;have z1:=q.h;have z2:=q.ps;have z3:=q.p;have z4:=q.nw;have y0:=h.hold;have y1:=h.ps;have y2:=h.fk;have y3:=h.free;grind
 h:=by have z0:=q.h;have z1:=q.a;have z2:=q.ps;have z3:=q.p;have z4:=q.nw;have y0:=h.hold;have y1:=h.ps;have y2:=h.fk;have y3:=h.free;grind
 p:=by have z0:=q.p;have z1:=q.a;have z2:=q.h;have z3:=q.ps;have z4:=q.nw;have y0:=h.hold;have y1:=h.ps;have y2:=h.fk;have y3:=h.free;grind
 k:=by have z0:=q.k;have z1:=q.a;have z2:=q.h;have z3:=q.ps;have z4:=q.p;have z5:=q.nw;have y0:=h.hold;have y1:=h.ps;have y2:=h.fk;have y3:=h.free;grind
 fk:=by have z0:=q.fk;have z1:=q.a;have z2:=q.h;have z3:=q.ps;have z4:=q.p;have z5:=q.nw;have y0:=h.hold;have y1:=h.ps;have y2:=h.fk;have y3:=h.free;grind
 ps:=by have z0:=q.ps;have z1:=q.a;have z2:=q.h;have z3:=q.p;have z4:=q.nw;have y0:=h.hold;have y1:=h.ps;have y2:=h.fk;have y3:=h.free;grind
 nw:=by have z0:=q.nw;have z1:=q.a;have z2:=q.h;have z3:=q.ps;have z4:=q.p;have y0:=h.hold;have y1:=h.ps;have y2:=h.fk;have y3:=h.free;grind
theorem OI.wait(q:OI C w o)(h:w.v.FI C.N C.F)(hi:i<C.N){f:Nat}(hg:w.v.g i= .run)(hf:w.v.hold i=some f) :
 OI C {w with v:={w.v with g:=dW w.v.g i .none,hold:=dW w.v.hold i none,join:=dW w.v.join f (w.v.join f-1),loc:=dW w.v.loc f .waiting}} o where
 a:=by have z0:=q.a;have z1:=q.h;have y0:=h.hold;grind
 h:=by have z0:=q.h;have z1:=q.a;have y0:=h.hold;grind
 p:=q.p
 k:=by have z0:=q.k;have z1:=q.a;have z2:=q.h;have y0:=h.hold;grind
 fk:=by have z0:=q.fk;have z1:=q.a;have z2:=q.h;have y0:=h.hold;grind
 ps:=by have z0:=q.ps;have z1:=q.a;have z2:=q.h;have y0:=h.hold;grind
 nw:=q.nw
theorem OI.pass(q:OI C w o)(h:w.v.FI C.N C.F)(hi:i<C.N){f:Nat}(hg:w.v.g i= .run)(hf:w.v.hold i=some f) :
 OI C {w with v:={w.v with g:=dW w.v.g i .one,join:=dW w.v.join f (w.v.join f-1),loc:=dW w.v.loc f (.uk i)}} o where
 a:=by have z0:=q.a;have z1:=q.h;have y0:=h.hold;grind
 h:=by have z0:=q.h;have z1:=q.a;have y0:=h.hold;grind
 p:=q.p
 k:=by have z0:=q.k;have z1:=q.a;have z2:=q.h;have y0:=h.hold;grind
 fk:=by have z0:=q.fk;have z1:=q.a;have z2:=q.h;have y0:=h.hold;grind
 ps:=by have z0:=q.ps;have z1:=q.a;have z2:=q.h;have y0:=h.hold;grind
 nw:=q.nw
theorem OI.one(q:OI C w o)(h:w.v.FI C.N C.F)(hi:i<C.N){f:Nat}(hg:w.v.g i= .one)(hf:w.v.hold i=some f) :
 OI C {w with v:={w.v with g:=dW w.v.g i .run,join:=dW w.v.join f 1,loc:=dW w.v.loc f (.held i)}} o where
 a:=by have z0:=q.a;have z1:=q.h;have y0:=h.hold;grind
 h:=by have z0:=q.h;have z1:=q.a;have y0:=h.hold;grind
 p:=q.p
 k:=by have z0:=q.k;have z1:=q.a;have z2:=q.h;have y0:=h.hold;grind
 fk:=by have z0:=q.fk;have z1:=q.a;have z2:=q.h;have y0:=h.hold;grind
 ps:=by have z0:=q.ps;have z1:=q.a;have z2:=q.h;have y0:=h.hold;grind
 nw:=q.nw
theorem OI.Iq(q:OI C w o)(h:w.v.FI C.N C.F)(hi:i<C.N)(hg:w.v.g i= .run)(hf:w.v.hold i=some 0) :
 OI C {w with v:={w.v with g:=dW w.v.g i .none,hold:=dW w.v.hold i none,loc:=dW w.v.loc 0 (.fin i)}} {o with st:=dW o.st 0 3} where
 a:=by have z0:=q.a;have z1:=q.h;have y0:=h.hold;grind
 h:=by have z0:=q.h;have z1:=q.a;have y0:=h.hold;grind
 p:=by have z0:=q.p;have z1:=q.a;have z2:=q.h;have y0:=h.hold;grind
 k:=by have z0:=q.k;have z1:=q.a;have z2:=q.h;have y0:=h.hold;grind
 fk:=by have z0:=q.fk;have z1:=q.a;have z2:=q.h;have y0:=h.hold;grind
 ps:=by have z0:=q.ps;have z1:=q.a;have z2:=q.h;have y0:=h.hold;grind
 nw:=q.nw
theorem OI.ret(q:OI C w o)(h:w.v.FI C.N C.F)(hi:i<C.N){f:Nat}(hg:w.v.g i= .run)(hf:w.v.hold i=some f)(h0:f≠0) :
 OI C {w with v:={w.v with g:=dW w.v.g i (.out (w.v.par f) f),hold:=dW w.v.hold i none,loc:=dW w.v.loc f (.fin i)}} {o with st:=dW o.st f 3} where
 a:=by have z0:=q.a;have z1:=q.h;have y0:=h.hold;grind
 h:=by have z0:=q.h;have z1:=q.a;have y0:=h.hold;grind
 p:=by have z0:=q.p;have z1:=q.a;have z2:=q.h;have y0:=h.hold;grind
 k:=by have z0:=q.k;have z1:=q.a;have z2:=q.h;have y0:=h.hold;grind
 fk:=by have z0:=q.fk;have z1:=q.a;have z2:=q.h;have y0:=h.hold;grind
 ps:=by have z0:=q.ps;have z1:=q.a;have z2:=q.h;have y0:=h.hold;grind
 nw:=q.nw
theorem OI.L2(q:OI C w o)(h:w.v.FI C.N C.F)(hi:i<C.N){p c:Nat}(hg:w.v.g i= .out p c) :
 OI C {w with v:={w.v with g:=dW w.v.g i .none,join:=dW w.v.join p (w.v.join p-1),ct:=dW w.v.ct p ((w.v.ct p).erase c),loc:=dW w.v.loc c .gone}} o where
 a:=by have z0:=q.a;have z1:=q.h;have y0:=h.hold;have y1:=h.out;grind
 h:=by have z0:=q.h;have z1:=q.a;have y0:=h.hold;have y1:=h.out;grind
 p:=q.p
 k:=by have z0:=q.k;have z1:=q.a;have z2:=q.h;have y0:=h.hold;have y1:=h.out;grind
 fk:=by have z0:=q.fk;have z1:=q.a;have z2:=q.h;have y0:=h.hold;have y1:=h.out;grind
 ps:=by have z0:=q.ps;have z1:=q.a;have z2:=q.h;have y0:=h.hold;have y1:=h.out;grind
 nw:=q.nw
theorem OI.L4(q:OI C w o)(h:w.v.FI C.N C.F)(hi:i<C.N){p c:Nat}(hg:w.v.g i= .out p c)(hn:w.v.join p-1=0) :
 OI C {w with v:={w.v with g:=dW w.v.g i (.take p c),join:=dW w.v.join p (w.v.join p-1),ct:=dW w.v.ct p ((w.v.ct p).erase c),loc:=dW (dW w.v.loc c .gone) p (.yf i)}} o where
 a:=by have y8:=h.jg hi hg hn;have z0:=q.a;have z1:=q.h;have y0:=h.hold;have y1:=h.out;grind
 h:=by have y8:=h.jg hi hg hn;have z0:=q.h;have z1:=q.a;have y0:=h.hold;have y1:=h.out;grind
 p:=q.p
 k:=by have y8:=h.jg hi hg hn;have z0:=q.k;have z1:=q.a;have z2:=q.h;have y0:=h.hold;have y1:=h.out;grind
 fk:=by have y8:=h.jg hi hg hn;have z0:=q.fk;have z1:=q.a;have z2:=q.h;have y0:=h.hold;have y1:=h.out;grind
 ps:=by have y8:=h.jg hi hg hn;have z0:=q.ps;have z1:=q.a;have z2:=q.h;have y0:=h.hold;have y1:=h.out;grind
 nw:=q.nw
theorem OI.take(q:OI C w o)(h:w.v.FI C.N C.F)(hi:i<C.N){p c:Nat}(hg:w.v.g i= .take p c) :
 OI C {w with v:={w.v with g:=dW w.v.g i .run,hold:=dW w.v.hold i (some p),join:=dW w.v.join p 1,loc:=dW w.v.loc p (.held i)}} o where
 a:=by have z0:=q.a;have z1:=q.h;have y0:=h.hold;have y1:=h.tk;grind
 h:=by have z0:=q.h;have z1:=q.a;have y0:=h.hold;have y1:=h.tk;grind
 p:=q.p
 k:=by have z0:=q.k;have z1:=q.a;have z2:=q.h;have y0:=h.hold;have y1:=h.tk;grind
 fk:=by have z0:=q.fk;have z1:=q.a;have z2:=q.h;have y0:=h.hold;have y1:=h.tk;grind
 ps:=by have z0:=q.ps;have z1:=q.a;have z2:=q.h;have y0:=h.hold;have y1:=h.tk;grind
 nw:=q.nw
theorem OI.mZ(q:OI C w o)(h:w.v.FI C.N C.F)(hi:i<C.N){x:Nat}{l:List Nat}(hg:w.v.g i= .none)(hq:w.v.q i=l++[x]) :
 OI C {w with v:={w.v with q:=dW w.v.q i l,loc:=dW w.v.loc x (.pop i),pop:=dW w.v.pop i (some x)}} o where
 a:=by have z0:=q.a;have z1:=q.h;have y0:=h.hold;have y1:=h.q;grind
 h:=q.h
 p:=q.p
 k:=q.k
 fk:=q.fk
 ps:=q.ps
 nw:=q.nw
theorem OI.L5(q:OI C w o)(h:w.v.FI C.N C.F)(hi:i<C.N){x:Nat}(hg:w.v.g i= .none)(hq:w.v.q i=[x]) :
 OI C {w with v:={w.v with q:=dW w.v.q i [],loc:=dW w.v.loc x (.pop i),pop:=dW w.v.pop i (some x)}} o where
 a:=by have z0:=q.a;have z1:=q.h;have y0:=h.hold;have y1:=h.q;grind
 h:=q.h
 p:=q.p
 k:=q.k
 fk:=q.fk
 ps:=q.ps
 nw:=q.nw
theorem OI.got(q:OI C w o)(h:w.v.FI C.N C.F)(hi:i<C.N){x:Nat}(hg:w.v.g i= .none)(hx:w.v.pop i=some x) :
 OI C {w with v:={w.v with g:=dW w.v.g i .start,hold:=dW w.v.hold i (some x),loc:=dW w.v.loc x (.held i),pop:=dW w.v.pop i none},fx:=dW w.fx i (-1)} o where
 a:=by have z0:=q.a;have z1:=q.h;have y0:=h.hold;have y1:=h.pop;have y2:=h.hr;grind
 h:=by have z0:=q.h;have z1:=q.a;have y0:=h.hold;have y1:=h.pop;have y2:=h.hr;grind
 p:=q.p
 k:=by have z0:=q.k;have z1:=q.a;have z2:=q.h;have y0:=h.hold;have y1:=h.pop;have y2:=h.hr;grind
 fk:=by have z0:=q.fk;have z1:=q.a;have z2:=q.h;have y0:=h.hold;have y1:=h.pop;have y2:=h.hr;grind
 ps:=by have z0:=q.ps;have z1:=q.a;have z2:=q.h;have y0:=h.hold;have y1:=h.pop;have y2:=h.hr;grind
 nw:=q.nw
theorem OI.DD(q:OI C w o)(h:w.v.FI C.N C.F)(hi:i<C.N){k x:Nat}{l:List Nat}(hk:k<C.N)(hg:w.v.g i= .none)(hx:w.v.q k=x::l) :
 OI C {w with v:={w.v with g:=dW w.v.g i .start,hold:=dW w.v.hold i (some x),loc:=dW w.v.loc x (.held i),q:=dW w.v.q k l},fx:=dW w.fx i k} o where
 a:=by have z0:=q.a;have z1:=q.h;have y0:=h.hold;have y1:=h.q;have y2:=h.hr;grind
 h:=by have z0:=q.h;have z1:=q.a;have y0:=h.hold;have y1:=h.q;have y2:=h.hr;grind
 p:=q.p
 k:=by have z0:=q.k;have z1:=q.a;have z2:=q.h;have y0:=h.hold;have y1:=h.q;have y2:=h.hr;grind
 fk:=by have z0:=q.fk;have z1:=q.a;have z2:=q.h;have y0:=h.hold;have y1:=h.q;have y2:=h.hr;grind
 ps:=by have z0:=q.ps;have z1:=q.a;have z2:=q.h;have y0:=h.hold;have y1:=h.q;have y2:=h.hr;grind
 nw:=q.nw
theorem OI.aJ{w':W}{e:Option Ev}(t:Tr C i w e w')(hi:i<C.N)(h:w.v.FI C.N C.F)(q:OI C w o):match e with
 | none=>OI C w' o
 | some e=>abS C o e/\OI C w' (abT C o e):=by
 cases t with
 | gF e he =>
  cases e with
  | none=>exact q
  | some x =>
   have:x.kind≠1/\x.kind≠2/\x.kind≠6:=by
    simp only[quiet,yw,wE]at he;omega
   obtain⟨a1,a2,a3⟩:=this;simp only[YR,abT,cF a1,cF a2,cF a3];exact⟨trivial,q⟩
 | full c hg=>exact⟨trivial,q.full h hi hg⟩
 | start f hg hf=>exact⟨⟨by rw[show((f:Int)).toNat=f from rfl,q.h i f hi hf,aW hg],by show w.v.mark f+1=1;rw[h.za i f hi hg hf];rfl⟩,q.start h hi hg hf⟩
 | spawn f hg hf hn=>exact q.spawn h hi hg hf hn
 | zI hg hn=>exact⟨trivial,q.zI h hi hg⟩
 | fork c f hg hf=>exact q.fork h hi hg hf
 | push c f hg hf =>
  have z:=h.ps i c hi hg;have zf:f=w.v.par c:=Option.some.inj (hf.symm.trans z.2.2.1);have z1:o.st f=2:=by rw[q.h i f hi hf,hg];rfl
  have z2:o.st c=0:=q.a c 0 (by rw[z.2.1];rfl);have z3:=(q.ps i c f hi hf hg).2;refine⟨⟨z2,z1,?_,λe => ?_⟩,q.push h hi hg hf⟩
  ·show w.nD c=C.pd (o.nD f) (o.ct f);rw[z3,q.p f (u4 h hi hf) (by rw[z1];omega)]
  ·have e:c=f:=e;rw[e,z1]at z2;cases z2
 | wait f hg hf hk=>exact⟨trivial,q.wait h hi hg hf⟩
 | pass f hg hf hk=>exact q.pass h hi hg hf
 | one f hg hf=>exact⟨trivial,q.one h hi hg hf⟩
 | Iq v hg hf=>exact⟨by show o.st 0=2;rw[q.h i 0 hi hf,hg];rfl,q.Iq h hi hg hf⟩
 | ret f v hg hf h0=>exact⟨by show o.st f=2;rw[q.h i f hi hf,hg];rfl,q.ret h hi hg hf h0⟩
 | L2 p c hg hn=>exact q.L2 h hi hg
 | L4 p c hg hn=>exact q.L4 h hi hg hn
 | take p c hg=>exact⟨trivial,q.take h hi hg⟩
 | mZ x l hg hq=>exact q.mZ h hi hg hq
 | L5 x hg hq=>exact q.L5 h hi hg hq
 | got x hg hx=>exact q.got h hi hg hx
 | DD k x l hk ID hg hx=>exact⟨trivial,q.DD h hi hk hg hx⟩
end
section
variable {C:kT}{i:Nat}{w w':W}{e:Option Ev}
theorem Tr.Ub(t:Tr C i w e w'){j:Nat}(hj:j≠i):w'.v.g j=w.v.g j/\w'.v.hold j=w.v.hold j/\w'.fx j=w.fx j:=by
 cases t<;>simp only[fC,cF hj,and_self]
theorem Tr.idle(t:Tr C i w e w')(hb:busy (w.v.g i)=false):w'.v.nf=w.v.nf/\∀x,e=some x->x.kind≠11/\x.kind≠1:=by
 cases t with
 | gF e he =>
  refine⟨rfl,λx hx => ?_⟩;subst hx;simp only[quiet,yw,wE]at he;omega
 | full c hg=>rw[hg]at hb;cases hb
 | start f hg hf=>rw[hg]at hb;cases hb
 | spawn f hg hf hn=>rw[hg]at hb;cases hb
 | zI hg hn=>rw[hg]at hb;cases hb
 | fork c f hg hf=>rw[hg]at hb;cases hb
 | push c f hg hf=>rw[hg]at hb;cases hb
 | wait f hg hf hk=>rw[hg]at hb;cases hb
 | pass f hg hf hk=>rw[hg]at hb;cases hb
 | one f hg hf=>rw[hg]at hb;cases hb
 | Iq v hg hf=>rw[hg]at hb;cases hb
 | ret f v hg hf h0=>rw[hg]at hb;cases hb
 | _=>exact⟨rfl,λx hx=>by cases hx<;>exact⟨by show(_:Nat)≠11;simp[ev],by show(_:Nat)≠1;simp[ev]⟩⟩
theorem Tr.inr(t:Tr C i w e w')(hi:i<C.N)(h:w.v.FI C.N C.F):∀x,e=some x->(x.kind=1∨x.kind=2∨x.kind=6->0<=x.ax/\x.ax<C.F)/\(x.kind=2->0<=x.x/\x.x<C.F):=by
 have hF:=h.wD;intro x hx;cases t with
 | gF e he =>
  subst hx;simp only[quiet,yw,wE]at he;constructor<;>intro h'<;>omega
 | start f hg hf =>
  have:=u4 h hi hf;cases hx;exact⟨λ_=>⟨by show(0:Int)<=(f:Int);omega,by show(f:Int)<C.F;omega⟩,λh'=>by cases h'⟩
 | push c f hg hf =>
  have:=u4 h hi hf;have z:=h.ps i c hi hg;have hc:c<w.v.nf:=by
   rcases CV c w.v.nf with h' | h'
   ·exact h'
   ·have:=h.free c h';rw[z.2.1]at this;cases this
  cases hx;exact⟨λ_=>⟨by show(0:Int)<=(c:Int);omega,by show(c:Int)<C.F;omega⟩,λ_=>⟨by show(0:Int)<=(f:Int);omega,by show(f:Int)<C.F;omega⟩⟩
 | Iq v hg hf =>
  have:=u4 h hi hf;cases hx;exact⟨λ_=>⟨by show(0:Int)<=(0:Int);omega,by show(0:Int)<C.F;omega⟩,λh'=>by cases h'⟩
 | ret f v hg hf h0 =>
  have:=u4 h hi hf;cases hx;exact⟨λ_=>⟨by show(0:Int)<=(f:Int);omega,by show(f:Int)<C.F;omega⟩,λh'=>by cases h'⟩
 | _=>cases hx<;>exact⟨λh'=>by simp[ev]at h',λh'=>by simp[ev]at h'⟩
theorem Tr.k0(t:Tr C i w e w'):∀x,e=some x->x.kind≠0:=by
 intro x hx;cases t with
 | gF e he =>
  subst hx;simp only[quiet,yw,wE]at he;omega
 | _=>cases hx<;>(show(_:Nat)≠0;simp[ev])
theorem Tr.v1(t:Tr C i w e w')(hi:i<C.N)(h:w.v.FI C.N C.F):∀x,e=some x->x.kind=1->x.v=1:=by
 intro x hx hk;cases t with
 | gF e he =>
  subst hx;simp only[quiet,yw,wE]at he;omega
 | start f hg hf =>
  cases hx;show w.v.mark f+1=1;rw[h.za i f hi hg hf];rfl
 | _=>cases hx<;>(exfalso;simp[ev]at hk)
def Q0(w:W):Prop:=w.v.g 0= .start/\w.fx 0=-1/\w.v.hold 0=some 0/\w.v.nf=1
theorem Q0.aJ(t:Tr C i w e w')(h0:i≠0)(hi:i<C.N)(h:w.v.FI C.N C.F)(q:Q0 w):Q0 w'/\∀x,e=some x->x.kind≠11/\x.kind≠1:=by
 obtain⟨q1,q2,q3,q4⟩:=q;have hb:busy (w.v.g i)=false:=by
  cases hb:busy (w.v.g i)with
  | false=>rfl
  | true =>
   exfalso
   have:=h.hs i hi hb;cases hh:w.v.hold i with
   | none=>exact this hh
   | some f =>
    have hf:=u4 h hi hh;obtain rfl:f=0:=by omega
    have a:=h.hold 0 0 aB q3;have b:=h.hold i 0 hi hh;rw[q1]at a;rcases a with ⟨a,_⟩ | ⟨_,a⟩
    ·cases a
    ·rcases b with ⟨_,b⟩ | ⟨_,b⟩<;>rw[a]at b<;>cases b;exact h0 rfl
 obtain⟨t1,t2⟩:=t.idle hb;obtain⟨o1,o2,o3⟩:=t.Ub (Ne.symm h0);exact⟨⟨by rw[o1,q1],by rw[o3,q2],by rw[o2,q3],by rw[t1,q4]⟩,t2⟩
end
end Am
end
section
namespace Mo
open Go Go.RowKit SL GX
noncomputable section
variable {z w:World}{L:List bj}
structure nc where
 jk:List Int
 nR:List Int
deriving Inhabited,DecidableEq
abbrev ad8(B:Nat)(S:nc)(a0:fR)(c0:Nat)(a1:fR)(c1:Nat):bj:=pts B (.cells #[.slice a0 S.jk.length c0,.slice a1 S.nR.length c1] 30)
abbrev Ca(a:fR)(c:Nat)(l:List ai):bj:=rowOf 47 6 hM (.slice a l.length c) l
structure N2 where
 ad9:Int
 Index:Int
 Func:Int
 aea:Int
 Ped:Int
 Arg:Int
 V:Int
deriving Inhabited,DecidableEq
structure Ps where
 Left:Int
 OA:Int
 aeS:List N2
 Deep:Int
deriving Inhabited,DecidableEq
structure N3 where
 Me:Int
 abV:Int
 Reg:List Int
 afa:List Int
 At:Int
 aeT:Int
 End:Int
 Kids:Int
deriving Inhabited,DecidableEq
structure W6 where
 V:Int
 aea:Int
 aeU:Int
 abV:Int
 Span:Int
deriving Inhabited,DecidableEq
def j1(K:Nat)(O:bO)(pe:Int):Nat->(List cx)->Int->Option ((List cx))
 | 0,_,_=>none
 | k2+1,zo,I7=>(if I7<(((J O.bR pe.toNat).aq.length:Nat):Int)then if bI I7 (J O.bR pe.toNat).aq.length then if(zo.length+1)*40<=140737488355328 then(j1 K O pe k2 (zo++[J (J O.bR pe.toNat).aq I7.toNat]) (wi (I7+1)))else none else none else some zo)
def j2(K:Nat)(O:bO):Nat->(List aD)->Int->Option ((List aD))
 | 0,_,_=>none
 | k1+1,Mx,pe=>(if pe<((O.bR.length:Nat):Int)then eY (if bI pe O.bR.length then eY ((j1 K O pe K ([]:List cx) 0)) (λLh=>if(Mx.length+1)*48<=140737488355328 then some (Mx++[{J O.bR pe.toNat with aq:=Lh}])else none)else none) (λYS=>(j2 K O k1 YS (wi (pe+1))))else some Mx)
def j3(K:Nat)(O:bO):Nat->(List Int)->Int->Option ((List Int))
 | 0,_,_=>none
 | k3+1,Pu,I8=>(if I8<((O.oH.length:Nat):Int)then if bI I8 O.oH.length then if(Pu.length+1)*8<=140737488355328 then(j3 K O k3 (Pu++[(J O.oH I8.toNat)]) (wi (I8+1)))else none else none else some Pu)
def j4(K:Nat)(O:bO):Nat->(List Int)->Int->Option ((List Int))
 | 0,_,_=>none
 | k4+1,Pv,I9=>(if I9<((O.dk.length:Nat):Int)then if bI I9 O.dk.length then if(Pv.length+1)*8<=140737488355328 then(j4 K O k4 (Pv++[(J O.dk I9.toNat)]) (wi (I9+1)))else none else none else some Pv)
def j5(K:Nat)(O:bO)(l6:List aD)(Ja:List Int)(Pw:List Int):Nat->(List Int)->Int->Option (bO)
 | 0,_,_=>none
 | k5+1,Px,Jb=>(if Jb<((O.fD.length:Nat):Int)then if bI Jb O.fD.length then if(Px.length+1)*8<=140737488355328 then(j5 K O l6 Ja Pw k5 (Px++[(J O.fD Jb.toNat)]) (wi (Jb+1)))else none else none else some ({O with bR:=l6,oH:=Ja,dk:=Pw,fD:=Px}))
def pI(K:Nat)(O:bO):Option (bO):=
 eY ((j2 K O K ([]:List aD) 0)) (λl6=>eY ((j3 K O K ([]:List Int) 0)) (λJa=>eY ((j4 K O K ([]:List Int) 0)) (λPw=>(j5 K O l6 Ja Pw K ([]:List Int) 0))))
abbrev zO (B:Nat) (S:bO) (a0:fR) (c0:Nat) (a1:fR) (c1:Nat) (a6:fR) (c6:Nat) (a7:fR) (c7:Nat) (q:Nat):bj:=pts B (.cells #[.slice a0 q c0,.slice a1 S.oH.length c1,Z S.aF,Z S.au,Z S.fH,Z S.gq,.slice a6 S.dk.length c6,.slice a7 S.fD.length c7] 32)
theorem Bv(H:pI K O=some r0)(h:jh z (L) w)(fU:BN L cH eX O.bR)(nQ:bL L 1 ck dB O.oH)(iJ:bL L 1 ck bz O.dk)(jF:bL L 1 ck bH O.fD) :
 Calls Tryz.prog 41 #[oP #[aY cH O.bR.length cZ,aY dB O.oH.length eD,Z O.aF,Z O.au,Z O.fH,Z O.gq,aY bz O.dk.length bS,aY bH O.fD.length cg]] w λe w=>∃y1 y2 y3 y4 y5 y6 y7 y8,e=.returned (oP #[aY y1 r0.bR.length y2,aY y3 r0.oH.length y4,Z r0.aF,Z r0.au,Z r0.fH,Z r0.gq,aY y5 r0.dk.length y6,aY y7 r0.fD.length y8])/\Fit z (aC (qa y1 y2 r0.bR::XF y3 y4 r0.oH::xq y5 y6 r0.dk::xq y7 y8 r0.fD::L)) w:=by
 unfold pI at H;refine ke func41 117 rfl λj=>ks<|kN h (#[aY cH O.bR.length cZ,aY dB O.oH.length eD,Z O.aF,Z O.au,Z O.fH,Z O.gq,aY bz O.dk.length bS,aY bH O.fD.length cg]) 32 λb1 w h=>kN h (#[aY none 0 0,aY none 0 0,Z 0,Z 0,Z 0,Z 0,aY none 0 0,aY none 0 0]) 32 λb2 w h=>I<|ks<|kM (h.pick 1)<|kN h (#[aY none 0 0,aY none 0 0,Z 0,Z 0,Z 0,Z 0,aY none 0 0,aY none 0 0]) 32 λb3 w h=>kA h (xO b3 O cH cZ dB eD bz bS bH cg) λw h=>I<|aN dx<|λ_ r=>UA (wn rfl) r h 0 ([aY none 0 0]) (zO b3 O none 0 dB eD bz bS bH cg 0) λw h=>qq r<|I<|DV H λo8 H Ln=>λ_ r=>cY (β:=Unit) (λ_ a w=>∃Fj:fR,∃Fk:Nat,∃l6:List aD,l6=o8/\∃j,kH 117 (lk [(1,u b1 0),(2,u b2 0),(3,u b3 0)] j) a/\Fit z (aC (xO b1 O cH cZ dB eD bz bS bH cg::gK b2 #[aY none 0 0,aY none 0 0,Z 0,Z 0,Z 0,Z 0,aY none 0 0,aY none 0 0] 32::zO b3 O Fj Fk dB eD bz bS bH cg (l6.length)::qa Fj Fk l6::L)) w) ?_ ?_
 ·refine qq r<|gS<|wb<|?_;replace h:=h.C2 (e:=85) (sz:=4) (own:=lZ);refine λ_ r=>dQ (β:=Nat) id (λm a w=>∃ia:fR,∃fJ:Nat,∃Mx:List aD,∃pe:Int,(j2 K O m Mx pe)=some o8/\∃j,kH 117 (lk [(1,u b1 0),(2,u b2 0),(3,u b3 0),(4,Z pe)] j) a/\Fit z (aC (xO b1 O cH cZ dB eD bz bS bH cg::gK b2 #[aY none 0 0,aY none 0 0,Z 0,Z 0,Z 0,Z 0,aY none 0 0,aY none 0 0] 32::zO b3 O ia fJ dB eD bz bS bH cg (Mx.length)::qa ia fJ Mx::L)) w) K ⟨none,0,([]:List aD),0,H,r.fj (h.se 4 [3,2,1,0])⟩<|?_;clear h r H;rintro k1 a w ⟨ia,fJ,Mx,pe,H,j,r,h⟩;cases k1 with
  | zero=>exact absurd H (by simp[j2])
  | succ k1 =>
   rw[j2]at H;refine qq r<|wq<|aN lR<|kL h 0<|ko [Z ((O.bR.length:Nat):Int),cJ (pe<((O.bR.length:Nat):Int))]<|I<|ez H (λyI H=>?_) λyI H=>?_
   ·refine gD<|DV H λo18 H XY=>λ_ r=>cY (β:=Unit) (λ_ a w=>∃q7:fR,∃VY:Nat,∃YS:List aD,YS=o18/\∃j,kH 117 (lk [(1,u b1 0),(2,u b2 0),(3,u b3 0),(4,Z pe)] j) a/\Fit z (aC (xO b1 O cH cZ dB eD bz bS bH cg::gK b2 #[aY none 0 0,aY none 0 0,Z 0,Z 0,Z 0,Z 0,aY none 0 0,aY none 0 0] 32::zO b3 O q7 VY dB eD bz bS bH cg (YS.length)::qa q7 VY YS::L)) w) ?_ ?_
    ·refine qq r<|wb<|aN dx<|kL h 0<|qg H λtu H=>bT<|kp (u (dA cH) (kg cH+pe.toNat*4)) (D8 85 cZ rfl rfl fU tu)<|xx (oP #[Z (J O.bR pe.toNat).aV,Z (J O.bR pe.toNat).dg,Z (J O.bR pe.toNat).bM,aY ((eX pe.toNat).1) (J O.bR pe.toNat).aq.length ((eX pe.toNat).2)]) (cs:=[Z (J O.bR pe.toNat).aV,Z (J O.bR pe.toNat).dg,Z (J O.bR pe.toNat).bM,aY ((eX pe.toNat).1) (J O.bR pe.toNat).aq.length ((eX pe.toNat).2)]) ⟨fU.cell tu (h.dn 4) 0 rfl,fU.cell tu (h.dn 4) 1 rfl,fU.cell tu (h.dn 4) 2 rfl,fU.cell tu (h.dn 4) 3 rfl,bx⟩<|?_;refine kN h (#[Z 0,Z 0,Z 0,aY none 0 0]) 85 λNf w h=>kA h (qD Nf (J O.bR pe.toNat) ((eX pe.toNat).1) ((eX pe.toNat).2)) λw h=>I<|aN [U]<|kL h 3<|bT<|I<|aN [U]<|kS h 3 (gK Nf #[Z (J O.bR pe.toNat).aV,Z (J O.bR pe.toNat).dg,Z (J O.bR pe.toNat).bM,aY none 0 0] 85) λw h=>I<|DV H λo25 H XJ=>λ_ r=>cY (β:=Unit) (λ_ a w=>∃VZ:fR,∃V0:Nat,∃Lh:List cx,Lh=o25/\∃j,kH 117 (lk [(1,u b1 0),(2,u b2 0),(3,u b3 0),(4,Z pe),(5,u Nf 0)] j) a/\Fit z (aC (xO b1 O cH cZ dB eD bz bS bH cg::gK b2 #[aY none 0 0,aY none 0 0,Z 0,Z 0,Z 0,Z 0,aY none 0 0,aY none 0 0] 32::zO b3 O ia fJ dB eD bz bS bH cg (Mx.length)::qa ia fJ Mx::gK Nf #[Z (J O.bR pe.toNat).aV,Z (J O.bR pe.toNat).dg,Z (J O.bR pe.toNat).bM,aY VZ Lh.length V0] 85::IU VZ V0 Lh::L)) w) ?_ ?_
     ·refine qq r<|gS<|wb<|?_;replace h:=h.fX (e:=132) (sz:=5) (enc:=cT);refine λ_ r=>dQ (β:=Nat) id (λm a w=>∃TH:fR,∃TI:Nat,∃zo:List cx,∃I7:Int,(j1 K O pe m zo I7)=some o25/\∃j,kH 117 (lk [(1,u b1 0),(2,u b2 0),(3,u b3 0),(4,Z pe),(5,u Nf 0),(6,aY ((eX pe.toNat).1) (J O.bR pe.toNat).aq.length ((eX pe.toNat).2)),(7,Z I7)] j) a/\Fit z (aC (xO b1 O cH cZ dB eD bz bS bH cg::gK b2 #[aY none 0 0,aY none 0 0,Z 0,Z 0,Z 0,Z 0,aY none 0 0,aY none 0 0] 32::zO b3 O ia fJ dB eD bz bS bH cg (Mx.length)::qa ia fJ Mx::gK Nf #[Z (J O.bR pe.toNat).aV,Z (J O.bR pe.toNat).dg,Z (J O.bR pe.toNat).bM,aY TH zo.length TI] 85::IU TH TI zo::L)) w) K ⟨none,0,([]:List cx),0,H,r.fj (h.se 6 [2,3,4,5,1,0])⟩<|?_;clear h r H;rintro k2 a w ⟨TH,TI,zo,I7,H,j,r,h⟩;cases k2 with
      | zero=>exact absurd H (by simp[j1])
      | succ k2 =>
       rw[j1]at H;refine qq r<|wq<|aN [U,U,Z (((J O.bR pe.toNat).aq.length:Nat):Int),cJ (I7<(((J O.bR pe.toNat).aq.length:Nat):Int))]<|I<|ez H (λur H=>?_) λur H=>?_
       ·refine gD<|wq<|wb<|qg H λvx H=>qg H λvD H=>lC [(Nf,3,[aY TH zo.length TI]),(dA ((eX pe.toNat).1),kg ((eX pe.toNat).1)+I7.toNat*5,gO (J (J O.bR pe.toNat).aq I7.toNat))] [0,4] 10 h (λh=>⟨⟨(h.pick 4).cell 3 rfl,bx⟩,⟨(fU.u7 tu).cell vx (h.dn 6) 0 rfl,(fU.u7 tu).cell vx (h.dn 6) 1 rfl,(fU.u7 tu).cell vx (h.dn 6) 2 rfl,(fU.u7 tu).cell vx (h.dn 6) 3 rfl,(fU.u7 tu).cell vx (h.dn 6) 4 rfl,bx⟩,bx⟩) λw h hd =>iy hd 7 [(0,37,u Nf 3),(2,39,aY ((eX pe.toNat).1) (J O.bR pe.toNat).aq.length ((eX pe.toNat).2)),(3,40,Z I7)]<|jl hd 6 4 rfl (u (dA ((eX pe.toNat).1)) (kg ((eX pe.toNat).1)+I7.toNat*5)) (λw=>Fa 132 ((eX pe.toNat).2) rfl rfl (fU.u7 tu) vx)<|fg hd 0 5 1 rfl<|wL hd 1 4 5 rfl rfl<|lQ 6 rfl<|kV h (nk (J (J O.bR pe.toNat).aq I7.toNat)) 132 λb32 w h=>I<|λ_ r=>xE<|lI 7 rfl<|qh h.m6 λh=>kY (n0:=zo.length) (c:=1) (bytes:=40) (wn rfl) rfl rfl r rfl aK aK iC (E:=132) (xs:=zo) aK aK h (news:=[J (J O.bR pe.toNat).aq I7.toNat]) (m:=1) rfl ((h.pick 1).news rfl) vD rfl λFl Fm w _ h r=>qq r<|I<|mJ<|iS 1 8 rfl (u Nf 3)<|lQ 9 rfl<|qh h.m6 λh=>kS h 3 (gK Nf #[Z (J O.bR pe.toNat).aV,Z (J O.bR pe.toNat).dg,Z (J O.bR pe.toNat).bM,aY Fl (zo++[J (J O.bR pe.toNat).aq I7.toNat]).length Fm] 85) λw h=>I<|mJ<|kI<|bn<|tn<|wl<|ko [U,Z (wi (I7+1)),Z (wi (I7+1))]<|I<|?_;exact λ_ r=>⟨_,⟨Fl,Fm,(zo++[J (J O.bR pe.toNat).aq I7.toNat]),(wi (I7+1)),H,r.fj (h.se 7 [3,4,5,6,0,1])⟩,gQ _⟩
       refine wx<|te<|te<|bh<|tn<|?_;exact λ_ r=>⟨(),TH,TI,zo,gA H,r.fj h⟩
     clear h r;rintro _ a w ⟨VZ,V0,Lh,rfl,j,r,h⟩;replace H:=DS XJ;refine qq r<|wl<|ko dx<|kL (h.pick 2) 0<|kM (h.pick 4)<|kV h (#[Z (J O.bR pe.toNat).aV,Z (J O.bR pe.toNat).dg,Z (J O.bR pe.toNat).bM,aY VZ Lh.length V0]) 85 λb36 w h=>qh h.m6 λh=>?_;replace h:=eW (x:=({J O.bR pe.toNat with aq:=Lh})) h;refine qg H λvQ H=>qh h.m5 λh=>λ_ r=>AM (n0:=Mx.length) (c:=1) (bytes:=48) (sz:=4) (wn rfl) rfl rfl r rfl aK aK (E:=85) (xs:=Mx) aK aK rfl rfl rfl h ((h.pick 2).news rfl) vQ rfl λabW abX w _ h r=>qq r<|ko dx<|qh h.m4 λh=>kS h 0 (zO b3 O abW abX dB eD bz bS bH cg ((Mx++[{J O.bR pe.toNat with aq:=Lh}]).length)) λw h=>kl<|bn<|tn<|?_;exact λ_ r=>⟨(),abW,abX,(Mx++[{J O.bR pe.toNat with aq:=Lh}]),gA H,r.fj (h.se 6 [3,4,0,1])⟩
    clear h r;rintro _ a w ⟨q7,VY,YS,rfl,j,r,h⟩;replace H:=DS XY;refine qq r<|wl<|ko [U,Z (wi (pe+1)),Z (wi (pe+1))]<|I<|?_;exact λ_ r=>⟨_,⟨q7,VY,YS,(wi (pe+1)),H,r.fj h⟩,gQ _⟩
   refine wx<|te<|te<|bh<|tn<|?_;exact λ_ r=>⟨(),ia,fJ,Mx,gA H,r.fj h⟩
 clear h r;rintro _ a w ⟨Fj,Fk,l6,rfl,j,r,h⟩;replace H:=DS Ln;refine qq r<|aN [U]<|qh h.m2 λh=>kS h 1 (gK b3 #[aY Fj l6.length Fk,aY none 0 0,Z O.aF,Z O.au,Z O.fH,Z O.gq,aY bz O.dk.length bS,aY bH O.fD.length cg] 32) λw h=>I<|DV H λo44 H aeb=>λ_ r=>cY (β:=Unit) (λ_ a w=>∃DQ:fR,∃DR:Nat,∃Ja:List Int,Ja=o44/\∃j,kH 117 (lk [(1,u b1 0),(2,u b2 0),(3,u b3 0)] j) a/\Fit z (aC (xO b1 O cH cZ dB eD bz bS bH cg::gK b2 #[aY none 0 0,aY none 0 0,Z 0,Z 0,Z 0,Z 0,aY none 0 0,aY none 0 0] 32::gK b3 #[aY Fj l6.length Fk,aY DQ Ja.length DR,Z O.aF,Z O.au,Z O.fH,Z O.gq,aY bz O.dk.length bS,aY bH O.fD.length cg] 32::qa Fj Fk l6::XF DQ DR Ja::L)) w) ?_ ?_
 ·refine qq r<|gS<|wb<|?_;replace h:=h.fX (e:=2) (sz:=1) (enc:=ck);refine λ_ r=>dQ (β:=Nat) id (λm a w=>∃Na:fR,∃Nb:Nat,∃Pu:List Int,∃I8:Int,(j3 K O m Pu I8)=some o44/\∃j,kH 117 (lk [(1,u b1 0),(2,u b2 0),(3,u b3 0),(8,Z I8)] j) a/\Fit z (aC (xO b1 O cH cZ dB eD bz bS bH cg::gK b2 #[aY none 0 0,aY none 0 0,Z 0,Z 0,Z 0,Z 0,aY none 0 0,aY none 0 0] 32::gK b3 #[aY Fj l6.length Fk,aY Na Pu.length Nb,Z O.aF,Z O.au,Z O.fH,Z O.gq,aY bz O.dk.length bS,aY bH O.fD.length cg] 32::qa Fj Fk l6::XF Na Nb Pu::L)) w) K ⟨none,0,([]:List Int),0,H,r.fj (h.se 5 [2,3,1,4,0])⟩<|?_;clear h r H;rintro k3 a w ⟨Na,Nb,Pu,I8,H,j,r,h⟩;cases k3 with
  | zero=>exact absurd H (by simp[j3])
  | succ k3 =>
   rw[j3]at H;refine qq r<|wq<|aN dx<|kL h 1<|ko [Z ((O.oH.length:Nat):Int),cJ (I8<((O.oH.length:Nat):Int))]<|I<|ez H (λFb H=>?_) λFb H=>?_
   ·refine gD<|wq<|wb<|qg H λCq H=>qg H λV1 H=>lC [(b3,1,[aY Na Pu.length Nb]),(b1,1,[aY dB O.oH.length eD]),(dA dB,kg dB+I8.toNat*1,[Z (J O.oH I8.toNat)])] [0,2,5] 11 h (λh=>⟨⟨(h.pick 2).cell 1 rfl,bx⟩,⟨h.cell 1 rfl,bx⟩,⟨nQ.cell Cq (h.dn 5) 0 rfl,bx⟩,bx⟩) λw h hd =>iy hd 8 [(0,62,u b3 1),(2,64,u b1 1),(4,66,Z I8)]<|fg hd 0 7 1 rfl<|fg hd 1 6 3 rfl<|jl hd 5 5 rfl (u (dA dB) (kg dB+I8.toNat*1)) (λw=>Fa 2 eD rfl rfl nQ Cq)<|fg hd 2 4 6 rfl<|lQ 7 rfl<|kV h (#[Z (J O.oH I8.toNat)]) 2 λb51 w h=>I<|λ_ r=>xE<|lI 8 rfl<|qh h.m5 λh=>kY (n0:=Pu.length) (c:=1) (bytes:=8) (wn rfl) rfl rfl r rfl aK aK aE (E:=2) (xs:=Pu) aK aK h (news:=[(J O.oH I8.toNat)]) (m:=1) rfl ((h.pick 1).news rfl) V1 rfl λP9 Qa w _ h r=>qq r<|I<|mJ<|iS 1 9 rfl (u b3 1)<|lQ 10 rfl<|qh h.m4 λh=>kS h 1 (gK b3 #[aY Fj l6.length Fk,aY P9 (Pu++[(J O.oH I8.toNat)]).length Qa,Z O.aF,Z O.au,Z O.fH,Z O.gq,aY bz O.dk.length bS,aY bH O.fD.length cg] 32) λw h=>I<|mJ<|kI<|bn<|tn<|wl<|ko [U,Z (wi (I8+1)),Z (wi (I8+1))]<|I<|?_;exact λ_ r=>⟨_,⟨P9,Qa,(Pu++[(J O.oH I8.toNat)]),(wi (I8+1)),H,r.fj (h.se 6 [3,4,0,5,1])⟩,gQ _⟩
   refine wx<|te<|te<|bh<|tn<|?_;exact λ_ r=>⟨(),Na,Nb,Pu,gA H,r.fj h⟩
 clear h r;rintro _ a w ⟨DQ,DR,Ja,rfl,j,r,h⟩;replace H:=DS aeb;refine qq r<|aN dx<|qh h.m2 λh=>λ_ r=>UA (wn rfl) r h 6 ([aY none 0 0,aY none 0 0]) (gK b3 #[aY Fj l6.length Fk,aY DQ Ja.length DR,Z O.aF,Z O.au,Z O.fH,Z O.gq,aY none 0 0,aY none 0 0] 32) λw h=>qq r<|I<|DV H λo59 H aec=>λ_ r=>cY (β:=Unit) (λ_ a w=>∃G9:fR,∃He:Nat,∃Pw:List Int,Pw=o59/\∃j,kH 117 (lk [(1,u b1 0),(2,u b2 0),(3,u b3 0)] j) a/\Fit z (aC (xO b1 O cH cZ dB eD bz bS bH cg::gK b2 #[aY none 0 0,aY none 0 0,Z 0,Z 0,Z 0,Z 0,aY none 0 0,aY none 0 0] 32::gK b3 #[aY Fj l6.length Fk,aY DQ Ja.length DR,Z O.aF,Z O.au,Z O.fH,Z O.gq,aY G9 Pw.length He,aY none 0 0] 32::qa Fj Fk l6::XF DQ DR Ja::xq G9 He Pw::L)) w) ?_ ?_
 ·refine qq r<|gS<|wb<|?_;replace h:=h.fX (e:=3) (sz:=1) (enc:=ck);refine λ_ r=>dQ (β:=Nat) id (λm a w=>∃TJ:fR,∃TK:Nat,∃Pv:List Int,∃I9:Int,(j4 K O m Pv I9)=some o59/\∃j,kH 117 (lk [(1,u b1 0),(2,u b2 0),(3,u b3 0),(9,Z I9)] j) a/\Fit z (aC (xO b1 O cH cZ dB eD bz bS bH cg::gK b2 #[aY none 0 0,aY none 0 0,Z 0,Z 0,Z 0,Z 0,aY none 0 0,aY none 0 0] 32::gK b3 #[aY Fj l6.length Fk,aY DQ Ja.length DR,Z O.aF,Z O.au,Z O.fH,Z O.gq,aY TJ Pv.length TK,aY none 0 0] 32::qa Fj Fk l6::XF DQ DR Ja::xq TJ TK Pv::L)) w) K ⟨none,0,([]:List Int),0,H,r.fj (h.se 6 [2,3,1,4,5,0])⟩<|?_;clear h r H;rintro k4 a w ⟨TJ,TK,Pv,I9,H,j,r,h⟩;cases k4 with
  | zero=>exact absurd H (by simp[j4])
  | succ k4 =>
   rw[j4]at H;refine qq r<|wq<|aN lR<|kL h 6<|ko [Z ((O.dk.length:Nat):Int),cJ (I9<((O.dk.length:Nat):Int))]<|I<|ez H (λc64 H=>?_) λc64 H=>?_
   ·refine gD<|wq<|wb<|qg H λz9 H=>qg H λDr H=>lC [(b3,6,[aY TJ Pv.length TK]),(b1,6,[aY bz O.dk.length bS]),(dA bz,kg bz+I9.toNat*1,[Z (J O.dk I9.toNat)])] [0,1,3,4,7] 14 h (λh=>⟨⟨(h.pick 2).cell 6 rfl,bx⟩,⟨h.cell 6 rfl,bx⟩,⟨iJ.cell z9 (h.dn 6) 0 rfl,bx⟩,bx⟩) λw h hd =>ju hd 9 82 [([0,1],u b3 6),([3,4],u b1 6),([6],Z I9)]<|fg hd 0 8 2 rfl<|fg hd 1 7 5 rfl<|jl hd 6 7 rfl (u (dA bz) (kg bz+I9.toNat*1)) (λw=>Fa 3 bS rfl rfl iJ z9)<|fg hd 2 5 8 rfl<|lQ 9 rfl<|kV h (#[Z (J O.dk I9.toNat)]) 3 λO3 w h=>I<|λ_ r=>xE<|lI 10 rfl<|qh h.m6 λh=>kY (n0:=Pv.length) (c:=1) (bytes:=8) (wn rfl) rfl rfl r rfl aK aK aE (E:=3) (xs:=Pv) aK aK h (news:=[(J O.dk I9.toNat)]) (m:=1) rfl ((h.pick 1).news rfl) Dr rfl λQT QU w _ h r=>qq r<|I<|mJ<|iS 2 11 rfl (u b3 6)<|iS 1 12 rfl (u b3 6)<|lQ 13 rfl<|qh h.m4 λh=>kS h 6 (gK b3 #[aY Fj l6.length Fk,aY DQ Ja.length DR,Z O.aF,Z O.au,Z O.fH,Z O.gq,aY QT (Pv++[(J O.dk I9.toNat)]).length QU,aY none 0 0] 32) λw h=>I<|mJ<|kI<|bn<|tn<|wl<|ko [U,Z (wi (I9+1)),Z (wi (I9+1))]<|I<|?_;exact λ_ r=>⟨_,⟨QT,QU,(Pv++[(J O.dk I9.toNat)]),(wi (I9+1)),H,r.fj (h.se 7 [3,4,0,5,6,1])⟩,gQ _⟩
   refine wx<|te<|te<|bh<|tn<|?_;exact λ_ r=>⟨(),TJ,TK,Pv,gA H,r.fj h⟩
 clear h r;rintro _ a w ⟨G9,He,Pw,rfl,j,r,h⟩;replace H:=DS aec;refine qq r<|wq<|gS<|wb<|?_;replace h:=h.fX (e:=3) (sz:=1) (enc:=ck);refine λ_ r=>dQ (β:=Nat) id (λm a w=>∃QV:fR,∃QW:Nat,∃Px:List Int,∃Jb:Int,(j5 K O l6 Ja Pw m Px Jb)=some r0/\∃j,kH 117 (lk [(1,u b1 0),(2,u b2 0),(3,u b3 0),(10,Z Jb)] j) a/\Fit z (aC (xO b1 O cH cZ dB eD bz bS bH cg::gK b2 #[aY none 0 0,aY none 0 0,Z 0,Z 0,Z 0,Z 0,aY none 0 0,aY none 0 0] 32::gK b3 #[aY Fj l6.length Fk,aY DQ Ja.length DR,Z O.aF,Z O.au,Z O.fH,Z O.gq,aY G9 Pw.length He,aY QV Px.length QW] 32::qa Fj Fk l6::XF DQ DR Ja::xq G9 He Pw::xq QV QW Px::L)) w) K ⟨none,0,([]:List Int),0,H,r.fj (h.se 7 [1,2,3,4,5,6,0])⟩<|?_;clear h r H;rintro k5 a w ⟨QV,QW,Px,Jb,H,j,r,h⟩;cases k5 with
 | zero=>exact absurd H (by simp[j5])
 | succ k5 =>
  rw[j5]at H;refine qq r<|wq<|aN lR<|kL h 7<|ko [Z ((O.fD.length:Nat):Int),cJ (Jb<((O.fD.length:Nat):Int))]<|I<|ez H (λc74 H=>?_) λc74 H=>?_
  ·refine gD<|wq<|wb<|qg H λc75 H=>qg H λWU H=>lC [(b3,7,[aY QV Px.length QW]),(b1,7,[aY bH O.fD.length cg]),(dA bH,kg bH+Jb.toNat*1,[Z (J O.fD Jb.toNat)])] [0,1,3,4,7] 14 h (λh=>⟨⟨(h.pick 2).cell 7 rfl,bx⟩,⟨h.cell 7 rfl,bx⟩,⟨jF.cell c75 (h.dn 7) 0 rfl,bx⟩,bx⟩) λw h hd =>ju hd 9 103 [([0],u b3 6),([1],u b3 7),([3],u b1 6),([4],u b1 7),([6],Z Jb)]<|fg hd 0 8 2 rfl<|fg hd 1 7 5 rfl<|jl hd 6 7 rfl (u (dA bH) (kg bH+Jb.toNat*1)) (λw=>Fa 3 cg rfl rfl jF c75)<|fg hd 2 5 8 rfl<|lQ 9 rfl<|kV h (#[Z (J O.fD Jb.toNat)]) 3 λb76 w h=>I<|λ_ r=>xE<|lI 10 rfl<|qh h.m7 λh=>kY (n0:=Px.length) (c:=1) (bytes:=8) (wn rfl) rfl rfl r rfl aK aK aE (E:=3) (xs:=Px) aK aK h (news:=[(J O.fD Jb.toNat)]) (m:=1) rfl ((h.pick 1).news rfl) WU rfl λabY abZ w _ h r=>qq r<|I<|mJ<|iS 2 11 rfl (u b3 6)<|iS 1 12 rfl (u b3 7)<|lQ 13 rfl<|qh h.m4 λh=>kS h 7 (gK b3 #[aY Fj l6.length Fk,aY DQ Ja.length DR,Z O.aF,Z O.au,Z O.fH,Z O.gq,aY G9 Pw.length He,aY abY (Px++[(J O.fD Jb.toNat)]).length abZ] 32) λw h=>I<|mJ<|kI<|bn<|tn<|wl<|ko [U,Z (wi (Jb+1)),Z (wi (Jb+1))]<|I<|?_;exact λ_ r=>⟨_,⟨abY,abZ,(Px++[(J O.fD Jb.toNat)]),(wi (Jb+1)),H,r.fj (h.se 8 [3,4,0,5,6,7,1])⟩,gQ _⟩
  refine wx<|te<|te<|bh<|tn<|ks<|kM (h.pick 2)<|qh h.m1 λh=>kA h (gK b2 #[aY Fj l6.length Fk,aY DQ Ja.length DR,Z O.aF,Z O.au,Z O.fH,Z O.gq,aY G9 Pw.length He,aY QV Px.length QW] 32) λw h=>cB<|kC h<|?_;cases H;exact⟨Fj,Fk,DQ,DR,G9,He,QV,QW,rfl,h.se 7 [3,4,5,6]⟩
def oF(K:Nat)(Y:Int):Nat->Int->Int->Option (Int)
 | 0,_,_=>none
 | k1+1,g4,g5=>(if g5<Y then(oF K Y k1 (wi (g4+(wi ((1:Int)+(if Y<(wi ((2:Int)*g5))then Y else(wi ((2:Int)*g5))))))) (if Y<(wi ((2:Int)*g5))then Y else(wi ((2:Int)*g5))))else some g4)
def xL(K:Nat)(O:Int)(Y:Int):Option (Int):=
 eY (sC O Y) (λr1=>(if r1=true then(oF K Y K (wi ((4:Int)+O)) O)else some 0))
theorem Hf(H:xL K O Y=some r0)(h:jh z (L) w) :
 nV 83 #[Z O,Z Y] w z (Z r0) (L):=by
 unfold xL at H;refine ke func83 26 rfl λj=>gS<|wq<|ks<|gB H λr1 e2 H=>ko dx<|fG (z7 e2 h :) λw h=>ko [R (!r1)]<|I<|D5 H (λc3 H=>?_) λc3 H=>?_
 ·refine gD<|aN [U,Z (wi ((4:Int)+O)),Z (wi ((4:Int)+O))]<|I<|wq<|aN dx<|I<|wb<|λ_ r=>dQ (β:=Nat) id (λm a w=>∃g4:Int,∃g5:Int,(oF K Y m g4 g5)=some r0/\∃j,kH 26 (lk [(1,Z Y),(5,Z g4),(6,Z g5)] j) a/\Fit z (aC (L)) w) K ⟨(wi ((4:Int)+O)),O,H,r.fj h⟩<|?_;clear h r H;rintro k1 a w ⟨g4,g5,H,j,r,h⟩;cases k1 with
  | zero=>exact absurd H (by simp[oF])
  | succ k1 =>
   rw[oF]at H;refine qq r<|wq<|aN [U,U,cJ (g5<Y)]<|I<|ez H (λc6 H=>?_) λc6 H=>?_
   ·refine gD<|wb<|aN [U,Z (wi ((2:Int)*g5)),U,Z (if Y<(wi ((2:Int)*g5))then Y else(wi ((2:Int)*g5))),Z (if Y<(wi ((2:Int)*g5))then Y else(wi ((2:Int)*g5)))]<|I<|wl<|ko [U,Z (if Y<(wi ((2:Int)*g5))then Y else(wi ((2:Int)*g5))),Z (wi ((1:Int)+(if Y<(wi ((2:Int)*g5))then Y else(wi ((2:Int)*g5))))),Z (wi (g4+(wi ((1:Int)+(if Y<(wi ((2:Int)*g5))then Y else(wi ((2:Int)*g5))))))),Z (wi (g4+(wi ((1:Int)+(if Y<(wi ((2:Int)*g5))then Y else(wi ((2:Int)*g5)))))))]<|kl<|bn<|tn<|?_;exact λ_ r=>⟨_,⟨(wi (g4+(wi ((1:Int)+(if Y<(wi ((2:Int)*g5))then Y else(wi ((2:Int)*g5))))))),(if Y<(wi ((2:Int)*g5))then Y else(wi ((2:Int)*g5))),H,r.fj h⟩,gQ _⟩
   refine wx<|te<|te<|bh<|tn<|aN dx<|cB<|?_;cases H;exact gC h
 refine gS<|wr<|tr<|?_;cases H;exact gC h
def vv(K:Nat)(O:Int)(Y:eM):Option (Int):=
 xp (eY (qf O) (λr4=>(if r4=true then eY (qk Y) (λr7=>(if r7=true then some (.inl ())else some (.inr 0)))else some (.inr 0)))) (eY (q8 Y.cA) (λAX=>eY (mP O) (λw8=>eY (xL K Y.dS Y.jL) (λiU=>some (wi ((wi ((wi ((1:Int)+AX))+w8))+(wi (O*iU))))))))
theorem Hg(H:vv K O Y=some r0)(h:jh z (L) w) :
 nV 43 #[Z O,j8 Y] w z (Z r0) (L):=by
 unfold vv at H;refine ke func43 28 rfl λj=>ks<|kN h (lz Y) 27 λb1 w h=>bT<|I<|?_;obtain⟨o3,H,EU⟩:=CZ H;refine λ_ r=>cY (β:=Unit) (λ_ a w=>.inl ()=o3/\∃j,kH 28 (lk [(0,Z O),(3,u b1 0)] j) a/\Fit z (aC (K6 b1 Y::L)) w) ?_ ?_
 ·refine qq r<|ks<|gB H λr4 e5 H=>bT<|fG (xB e5 h :) λw h=>ko [R (!r4),R (!r4)]<|qI H (λc6 H=>?_) λc6 H=>?_
  ·refine λ_ r=>ldm (aX r (nT c6)) r (j8 Y) (cs:=E5 Y) (h.held 0 rfl)<|?_;refine gB H λr7 e8 H=>Zt (nT c6) (xC e8 h :) λw h=>cR (nT c6) [11] [R (!r7)]<|nv (nT c6) (R (!r7))<|I<|D5 H (λc9 H=>?_) λc9 H=>?_
   ·refine gD<|?_;exact λ_ r=>⟨(),gA H,r.fj h⟩
   refine gS<|wr<|tr<|λ_ r=>oa (Z 0) rfl r<|?_;replace H:=tg H EU;cases H;exact⟨rfl,h.se 1 []⟩
  refine bU (nF c6) [9,10,11]<|ny (nF c6) (R true)<|I<|λ_ r=>dX r (b:=true) rfl<|qq r<|gS<|wr<|tr<|λ_ r=>oa (Z 0) rfl r<|?_;replace H:=tg H EU;cases H;exact⟨rfl,h.se 1 []⟩
 clear h r;rintro _ a w ⟨rfl,j,r,h⟩;replace H:=C0 EU;refine qq r<|wq<|gB H λAX UR H=>gB H λw8 XK H=>gB H λiU Jx H=>lC [(b1,0,[Z Y.cA]),(b1,1,[Z Y.dS]),(b1,2,[Z Y.jL])] [0,2,3,5,6,8,10,12,13] 16 h (λh=>⟨⟨h.cell 0 rfl,bx⟩,⟨h.cell 1 rfl,bx⟩,⟨h.cell 2 rfl,bx⟩,bx⟩) λw h hd =>ju hd 11 13 [([0],u b1 0),([4,7],Z O),([8],u b1 1),([10],u b1 2)]<|fg hd 0 10 1 rfl<|fg hd 1 9 9 rfl<|fg hd 2 8 11 rfl<|lQ 2 rfl<|fG (vE UR h :) λw h=>I<|uH ⟨⟨h.cell 0 rfl,bx⟩,⟨h.cell 1 rfl,bx⟩,⟨h.cell 2 rfl,bx⟩,bx⟩ λhd =>iy hd 6 [(3,16,Z (wi ((1:Int)+AX)))]<|lQ 5 rfl<|fG (sY XK h :) λw h=>I<|uH ⟨⟨h.cell 0 rfl,bx⟩,⟨h.cell 1 rfl,bx⟩,⟨h.cell 2 rfl,bx⟩,bx⟩ λhd =>iy hd 4 [(6,19,Z (wi ((wi ((1:Int)+AX))+w8)))]<|lQ 12 rfl<|fG (Hf Jx h :) λw h=>I<|uH ⟨⟨h.cell 0 rfl,bx⟩,⟨h.cell 1 rfl,bx⟩,⟨h.cell 2 rfl,bx⟩,bx⟩ λhd =>iy hd 0 [(13,26,Z (wi (O*iU))),(14,27,Z (wi ((wi ((wi ((1:Int)+AX))+w8))+(wi (O*iU))))),(15,4,Z (wi ((wi ((wi ((1:Int)+AX))+w8))+(wi (O*iU)))))]<|kI<|tn<|wr<|?_;cases H;exact gC (h.se 1 [])
def rK(O:af)(Y:Int):Option (af):=
 some ({O with sF:=Y})
theorem w4(H:rK O Y=some q0)(h:jh z (gE B0 O kD kB js lu L) w) :
 w7 45 #[u B0 0,Z Y] w z (.tuple #[]) λx1 x2 x3 x4=>gE B0 q0 x1 x2 x3 x4 L:=by
 unfold rK at H;refine ke func45 10 rfl λj=>aN dx<|I<|λ_ r=>dX r (b:=true) rfl<|qq r<|wl<|ko wA<|kS h 4 (gK B0 #[Z O.mB,Z O.fl,aY kD O.cell.length kB,aY js O.log.length lu,Z Y,R O.watched] 78) λw h=>kl<|?_;cases H;exact xv4 kD kB js lu h
def j6(K:Nat)(O:ag)(dV:af):Nat->Int->Option (Bool)
 | 0,_=>none
 | k1+1,ve=>(if ve<((O.ah.length:Nat):Int)then eY (nP O dV ve) (λme=>(if me=true then(j6 K O dV k1 (wi (ve+1)))else some false))else some true)
def pJ(K:Nat)(O:ag)(dV:af)(Y:ai):Option (Bool):=
 (if Y.aL=11 then some true else(if Y.aL=10 then(j6 K O dV K 0)else some false))
theorem Bw(H:pJ K O dV Y=some r0)(h:jh z (iB B0 O fP mA mN kQ lD ia fJ aZ gh dV kD kB js lu L) w) :
 nV 46 #[u B0 0,eu Y] w z (R r0) (iB B0 O fP mA mN kQ lD ia fJ aZ gh dV kD kB js lu L):=by
 unfold pJ at H;refine ke func46 25 rfl λj=>ks<|kN h (tY Y) 47 λiP w h=>bT<|I<|wq<|aN [U]<|kL h 2<|ko [R (Y.aL==11)]<|I<|ez H (λxP H=>?_) λxP H=>?_
 ·refine gS<|wr<|tr<|?_;cases H;exact gC (h.se 9 [1,2,3,4,5,6,7,8])
 refine gD<|wq<|aN [U]<|kL h 2<|ko [R (Y.aL != 10)]<|I<|qB H (λpL H=>?_) λpL H=>?_
 ·refine gD<|wq<|aN lR<|kL (h.pick 1) 9<|ko [Z ((O.ah.length:Nat):Int),U]<|I<|wb<|λ_ r=>dQ (β:=Nat) id (λm a w=>∃ve:Int,(j6 K O dV m ve)=some r0/\∃j,kH 25 (lk [(0,u B0 0),(16,Z ((O.ah.length:Nat):Int)),(17,Z ve)] j) a/\Fit z (aC (Ag B0 O (if_ 33 (u fP 0)) mA mN kQ lD ia fJ aZ gh::gE fP dV kD kB js lu (qa mA mN O.code::qQ kQ lD O.dD::rG ia fJ O.aH::qR B0 aZ gh O.ah::L))) w) K ⟨0,H,r.fj (h.se 9 [1,6,7,8,2,3,4,5])⟩<|?_;clear h r H;rintro k1 a w ⟨ve,H,j,r,h⟩;cases k1 with
  | zero=>exact absurd H (by simp[j6])
  | succ k1 =>
   rw[j6]at H;refine qq r<|aN [cJ (ve<((O.ah.length:Nat):Int))]<|I<|wq<|ez H (λBG H=>?_) λBG H=>?_
   ·refine gD<|wq<|wb<|aN dx<|I<|ks<|gB H λme IV H=>ko dx<|qh h.m3.m3.m3.m7.m7.m7.m7.m7 λh=>fG (zD IV h :) λw h=>ko [R (!me)]<|I<|D5 H (λmG H=>?_) λmG H=>?_
    ·refine wk<|bn<|tn<|wl<|ko [Z (wi (ve+1)),Z (wi (ve+1))]<|I<|?_;exact λ_ r=>⟨_,⟨(wi (ve+1)),H,r.fj (h.se 8 [0,5,6,7,1,2,3,4])⟩,gQ _⟩
    refine gS<|wr<|br<|tr<|tr<|br<|tr<|?_;cases H;exact gC h
   refine wx<|te<|te<|bh<|tn<|gS<|wr<|?_;cases H;exact gC (h.se 8 [0,4,5,6,7,1,2,3])
 refine gS<|wr<|tr<|?_;cases H;exact gC (h.se 9 [1,2,3,4,5,6,7,8])
def rS(Y:ai):Option (Bool):=
 (if Y.aL=11 then some true else(if Y.aL=10 then none else some false))
theorem yj(H:rS Y=some r0)(h:jh z (L) w) :
 nV 46 #[pN,eu Y] w z (R r0) (L):=by
 unfold rS at H;refine ke func46 25 rfl λj=>ks<|kN h (tY Y) 47 λb1 w h=>bT<|I<|wq<|aN [U]<|kL h 2<|ko [R (Y.aL==11)]<|I<|ez H (λc2 H=>?_) λc2 H=>?_
 ·refine gS<|wr<|tr<|?_;cases H;exact gC (h.se 1 [])
 refine gD<|wq<|aN [U]<|kL h 2<|ko [R (Y.aL != 10)]<|I<|qB H (λc3 H=>?_) λc3 H=>?_
 ·refine gD<|wq<|ks<|?_;cases H
 refine gS<|wr<|tr<|?_;cases H;exact gC (h.se 1 [])
def mq(K:Nat)(p2:Int)(p4:nc):Nat->af->ag->aQ->(List ai)->Int->Option (af×(List ai))
 | 0,_,_,_,_,_=>none
 | k1+1,S64,Uh,LL,MM,rX=>(if rX<((p4.jk.length:Nat):Int)then if bI rX p4.jk.length then eY (uX (J p4.jk rX.toNat) p2) (λML=>eY (rK S64 ML) (λS79=>Z9 (bf K Uh S79 ML LL) (λIZ WL SF Qb S89=>(if IZ.aL=0 then(mq K p2 p4 k1 Qb SF S89 MM (wi (rX+1)))else if(MM.length+1)*48<=140737488355328 then eY (pJ K SF Qb ({IZ with At:=rX})) (λQd=>(if Qd=true then some (Qb,MM++[{IZ with At:=rX}])else(mq K p2 p4 k1 Qb SF S89 (MM++[{IZ with At:=rX}]) (wi (rX+1)))))else none))))else none else some (S64,MM))
def qx(K:Nat)(p2:Int)(p4:nc):Nat->af->(List ai)->Int->Option (af×(List ai))
 | 0,_,_,_=>none
 | k2+1,N4,Cb,vN=>(if vN<((p4.jk.length:Nat):Int)then if bI vN p4.jk.length then eY (uX (J p4.jk vN.toNat) p2) (λYT=>eY (rK N4 YT) (λN5=>sR (nZ YT (⟨p4.nR⟩:aQ)) (λEG ab0=>(if EG.aL=0 then(qx K p2 p4 k2 N5 Cb (wi (vN+1)))else if(Cb.length+1)*48<=140737488355328 then eY (rS ({EG with At:=vN})) (λBo=>(if Bo=true then some (N5,Cb++[{EG with At:=vN}])else(qx K p2 p4 k2 N5 (Cb++[{EG with At:=vN}]) (wi (vN+1)))))else none))))else none else some (N4,Cb))
def su(K:Nat)(O:aM)(Y:List Int)(p2:Int)(p3:eM)(p4:nc):Option ((List ai)×(List aR)×Int):=
 xp ((if((p4.jk.length:Nat):Int)>1048576 then some (.inr (([]:List ai),([]:List aR),2))else(if((p4.nR.length:Nat):Int)>1048576 then some (.inr (([]:List ai),([]:List aR),2))else some (.inl ())))) (eY (mW K O Y p2 p3) (λw8=>(if w8=0 then eY (vv K p2 p3) (λqy=>sR (wz qy) (λBR me=>(match BR with | some gz=>(if me=0 then pM (lM K gz O Y p2 p3) (λME yL U5=>(match ME with | some OJ=>(if yL=0 then eY (pC U5 true) (λS46=>if p4.nR.length*8<=140737488355328 then sR ((mq K p2 p4 K S46 OJ (⟨p4.nR⟩:aQ) ([]:List ai) 0)) (λWJ ZO=>eY (oT WJ) (λab1=>some (ZO,ab1,0)))else none)else some (([]:List ai),([]:List aR),yL)) | none=>(if yL=0 then eY (pC U5 true) (λYU=>if p4.nR.length*8<=140737488355328 then sR ((qx K p2 p4 K YU ([]:List ai) 0)) (λTL QX=>eY (oT TL) (λab2=>some (QX,ab2,0)))else none)else some (([]:List ai),([]:List aR),yL))))else some (([]:List ai),([]:List aR),me)) | none=>(if me=0 then none else some (([]:List ai),([]:List aR),me)))))else some (([]:List ai),([]:List aR),w8))))
end
noncomputable section
variable {z w:World}{L:List bj}
theorem Hh(H:su K O Y p2 p3 p4=some (r0,r1,r2))(h:jh z (xq kD kB p4.jk::xq js lu p4.nR::L) w)(be:BN L bB aI O.ak)(Kk:bL L 1 ck Kl Y)(LS:bL L 1 Gc (some ⟨0,0,none⟩) OC)(uu:bL L 5 gJ (some ⟨1,0,none⟩) w6) :
 Calls Tryz.prog 28 #[oP #[aY bB O.ak.length cr],aY Kl Y.length Lj,Z p2,j8 p3,oP #[aY kD p4.jk.length kB,aY js p4.nR.length lu]] w λe w=>∃y1 y2 ab3,e=.returned (.tuple #[aY y1 r0.length y2,aY ab3 r1.length r1.length,Z r2])/\Fit z (aC (xq kD kB p4.jk::xq js lu p4.nR::Ca y1 y2 r0::Sd ab3 r1.length r1::L)) w:=by
 unfold su at H;refine ke func28 108 rfl λj=>ks<|kN h (#[aY bB O.ak.length cr]) 24 λb5 w h=>kN h (lz p3) 27 λb6 w h=>kN h (#[aY kD p4.jk.length kB,aY js p4.nR.length lu]) 30 λb7 w h=>ko lR<|I<|?_;obtain⟨o9,H,K9⟩:=CZ H;refine λ_ r=>cY (β:=Unit) (λ_ a w=>.inl ()=o9/\∃j,kH 108 (lk [(1,aY Kl Y.length Lj),(2,Z p2),(5,u b5 0),(8,u b6 0),(9,u b7 0)] j) a/\Fit z (aC (gK b5 #[aY bB O.ak.length cr] 24::K6 b6 p3::ad8 b7 p4 kD kB js lu::xq kD kB p4.jk::xq js lu p4.nR::L)) w) ?_ ?_
 ·refine qq r<|aN [U]<|kL h 0<|ko [Z ((p4.jk.length:Nat):Int),cJ (((p4.jk.length:Nat):Int)>1048576),cJ (((p4.jk.length:Nat):Int)>1048576)]<|qI H (λoh H=>?_) λoh H=>?_
  ·refine bU (dT oh) [29,30,31,32]<|ny (dT oh) (R true)<|I<|λ_ r=>dX r (b:=true) rfl<|qq r<|aN lR<|cB<|tr<|λ_ r=>Ju (aY none 0 0) (aY none 0 0) (Z 2) rfl r<|?_;replace h:=h.fX (e:=47) (sz:=6) (enc:=hM);replace h:=h.fX (e:=269) (sz:=6) (enc:=gY);replace H:=tg H K9;cases H;exact⟨none,0,none,rfl,h.se 7 [5,6,1,0]⟩
  refine cR (dF oh) [29] [u b7 1]<|sv (dF oh) h 1<|cR (dF oh) [31,32] [Z ((p4.nR.length:Nat):Int),cJ (((p4.nR.length:Nat):Int)>1048576)]<|nv (dF oh) (cJ (((p4.nR.length:Nat):Int)>1048576))<|I<|ez H (λuR H=>?_) λuR H=>?_
  ·refine aN lR<|cB<|tr<|λ_ r=>Ju (aY none 0 0) (aY none 0 0) (Z 2) rfl r<|?_;replace h:=h.fX (e:=47) (sz:=6) (enc:=hM);replace h:=h.fX (e:=269) (sz:=6) (enc:=gY);replace H:=tg H K9;cases H;exact⟨none,0,none,rfl,h.se 7 [5,6,1,0]⟩
  refine gD<|?_;exact λ_ r=>⟨(),gA H,r.fj (h.se 5 [2,1,0,3,4])⟩
 clear h r;rintro _ a w ⟨rfl,j,r,h⟩;replace H:=C0 K9;refine qq r<|wq<|ks<|xx (oP #[aY bB O.ak.length cr]) (cs:=[aY bB O.ak.length cr]) ⟨h.cell 0 rfl,bx⟩<|?_;refine ko dx<|kM (h.pick 1)<|gB H λw8 XK H=>fG (uJ (Kl:=Kl) (Lj:=Lj) (Kk:=(bL.up 5 Kk)) (bB:=bB) (cr:=cr) (be:=(ym.up 5 be)) (uu:=bL.up 5 uu) (aI:=aI) XK h :) λw h=>bT<|I<|aN [U,R (w8 != 0)]<|I<|qB H (λxP H=>?_) λxP H=>?_
 ·refine gD<|aN [U]<|kM (h.pick 1)<|gB H λqy U2 H=>fG (Hg U2 h :) λw h=>wo H λBR me IV H=>?_;cases BR with
  | some gz =>
   refine xc5 (HB IV h :) λIr mX uv BV Ef w h=>ko [.tuple #[u Ir 0,Z me],U,U,U,U]<|I<|wq<|aN [U,R (me != 0)]<|I<|qB H (λBH H=>?_) λBH H=>?_
   ·refine gD<|aN dx<|xx (oP #[aY bB O.ak.length cr]) (cs:=[aY bB O.ak.length cr]) ⟨(h.pick 3).cell 0 rfl,bx⟩<|?_;refine ko dx<|kM (h.pick 4)<|tH H λME yL U5 Lr H=>?_;cases ME with
    | some OJ =>
     have hc:=Bk (xS:=Kl) (yN:=Lj) (Fi:=(bL.up 5 Kk)) (jw:=bB) (lN:=cr) (lO:=(ym.up 5 be)) (uu:=bL.up 5 uu) (iQ:=aI) (H:=Lr) (h:=h);intro _ r;refine cl (wn rfl) r hc ?_;clear hc h;rintro _ w ⟨YV,Zw,Zx,x35,FN,HN,FK,Ea,Dq,DX,IY,Qg,x44,rfl,h⟩;refine⟨_,rfl,?_⟩;refine ko [.tuple #[u YV 0,Z yL],U,U,U,U]<|I<|wq<|aN [U,R (yL != 0)]<|I<|qB H (λSC H=>?_) λSC H=>?_
     ·refine gD<|ks<|gB H λS46 e47 H=>bT<|kX (vq e47 h :) λx48 x49 x50 Rl w h=>I<|aN [U]<|kL (h.pick 10) 1<|qg H λZC H=>Zu (AP (va:=js) (c:=lu) (l:=p4.nR) (h:=h) (hv:=(bL.Gd aE (h.pick 12) (λh=>(h.pick 12)))) ZC :) λb53 w h=>bT<|I<|gS<|qd2 H λo63 H aed=>λ_ r=>cY (β:=Unit) (λ_ a w=>∃G9:fR,∃He:Nat,∃HE:fR,∃HF:Nat,∃V2:fR,∃V3:Nat,∃WJ:af,∃ZO:List ai,(WJ,ZO)=o63/\∃j,kH 108 (lk [(14,u Ir 0),(18,aY V2 ZO.length V3)] j) a/\Fit z (aC (gE Ir WJ G9 He HE HF (Ca V2 V3 ZO::xq kD kB p4.jk::xq js lu p4.nR::L))) w) ?_ ?_
      ·refine qq r<|aN [U]<|kL (h.pick 11) 0<|ko [Z ((p4.jk.length:Nat):Int),U]<|I<|wb<|?_;replace h:=h.fX (e:=47) (sz:=6) (enc:=hM);refine λ_ r=>dQ (β:=Nat) id (λm a w=>∃YW:fR,∃YX:Nat,∃QT:fR,∃QU:Nat,∃TM:fR,∃TN:Nat,∃S64:af,∃Uh:ag,∃LL:aQ,∃MM:List ai,∃rX:Int,(mq K p2 p4 m S64 Uh LL MM rX)=some o63/\∃j,kH 108 (lk [(2,Z p2),(14,u Ir 0),(16,u YV 0),(17,u b53 0),(18,aY TM MM.length TN),(71,aY kD p4.jk.length kB),(72,Z ((p4.jk.length:Nat):Int)),(73,Z rX)] j) a/\Fit z (aC (gE Ir S64 YW YX QT QU (WG YV Uh Ir Zw Zx x35 FN HN FK Ea Dq (vw b53 LL::Ca TM TN MM::xq kD kB p4.jk::xq js lu p4.nR::L)))) w) K ⟨x48,x49,x50,Rl,none,0,S46,OJ,(⟨p4.nR⟩:aQ),([]:List ai),0,H,r.fj (h.se 15 [2,3,4,5,6,7,8,9,1,0,13,14])⟩<|?_;clear h r H;rintro k1 a w ⟨YW,YX,QT,QU,TM,TN,S64,Uh,LL,MM,rX,H,j,r,h⟩;cases k1 with
       | zero=>exact absurd H (by simp[mq])
       | succ k1 =>
        rw[mq]at H;refine qq r<|aN [cJ (rX<((p4.jk.length:Nat):Int))]<|I<|wq<|ez H (λc75 H=>?_) λc75 H=>?_
        ·refine gD<|wq<|wb<|ks<|qg H λc76 H=>bT<|ki (h.pick 10) c76<|yY (Z (J p4.jk rX.toNat)) ((h.pick 10).bE aE (f:=0) (aS c76) rfl)<|?_;refine ko dx<|I<|ks<|gB H λML e78 H=>ko dx<|fG (zC e78 h :) λw h=>bT<|I<|ks<|gB H λS79 e80 H=>ko dx<|kX (w4 e80 h :) λx81 x82 x83 Qf w h=>I<|ks<|qb5 H λIZ WL SF Qb S89 e90 H=>ko wA<|qh h.m8.m3.m3.m3.m8.m8.m8.m8.m8 λh=>kX (wV (LS:=bL.up 3 LS) e90 h :) λx91 x92 X9 Yd w h=>ko [.tuple #[eu IZ,Z WL],U,U]<|kN h (gi) 47 λb95 w h=>kA h (fu b95 IZ) λw h=>bT<|I<|wq<|aN [U]<|kL h 2<|ko [R (IZ.aL==0)]<|I<|ez H (λEH H=>?_) λEH H=>?_
         ·refine wx<|te<|bh<|tn<|wl<|ko [Z (wi (rX+1)),Z (wi (rX+1))]<|I<|?_;exact λ_ r=>⟨_,⟨x91,x92,X9,Yd,TM,TN,Qb,SF,S89,MM,(wi (rX+1)),H,r.fj (h.se 13 [6,7,8,1,2,3,4,5,9,10,11,12])⟩,gQ _⟩
         refine gD<|aN dx<|kS h 0 (fu b95 {IZ with At:=rX}) λw h=>I<|aN [U]<|kM h<|kV h (tY {IZ with At:=rX}) 47 λb97 w h=>qh h.m11 λh=>qg H λLU H=>λ_ r=>kY (n0:=MM.length) (c:=1) (bytes:=48) (wn rfl) rfl rfl r rfl aK aK eU (E:=47) (xs:=MM) aK aK h (news:=[{IZ with At:=rX}]) (m:=1) rfl ((h.pick 1).news rfl) LU rfl λab4 ab5 w _ h r=>qq r<|bT<|I<|aN [U]<|kM (h.pick 2)<|gB H λQd aee H=>qh h.MD.MD.MD.MD.MD.MD.MD.MD λh=>fG (Bw aee h :) λw h=>I<|FJ H (λYY H=>?_) λYY H=>?_
         ·refine wx<|λ_ r=>D1 eL<|qq r<|te<|te<|bh<|tn<|?_;exact λ_ r=>⟨(),x91,x92,X9,Yd,ab4,ab5,Qb,(MM++[{IZ with At:=rX}]),gA H,r.fj (h.se 14 [5,6,7,8,12,13])⟩
         refine wk<|bn<|tn<|wl<|ko [Z (wi (rX+1)),Z (wi (rX+1))]<|I<|?_;exact λ_ r=>⟨_,⟨x91,x92,X9,Yd,ab4,ab5,Qb,SF,S89,(MM++[{IZ with At:=rX}]),(wi (rX+1)),H,r.fj (h.se 14 [5,6,7,0,1,2,3,4,11,8,12,13])⟩,gQ _⟩
        refine wx<|te<|te<|bh<|tn<|?_;exact λ_ r=>⟨(),YW,YX,QT,QU,TM,TN,S64,MM,gA H,r.fj (h.se 12 [0,1,2,9,10,11])⟩
      clear h r;rintro _ a w ⟨G9,He,HE,HF,V2,V3,WJ,ZO,rfl,j,r,h⟩;replace H:=kk2 aed;refine qq r<|ks<|gB H λab1 SI H=>ko dx<|Zu (wW SI h :) λDv w h=>ko lR<|cB<|?_;cases H;exact xw3 V2 V3 Dv (h.se 7 [5,6,4,3])
     refine aN wA<|cB<|tr<|λ_ r=>Ju (aY none 0 0) (aY none 0 0) (Z yL) rfl r<|?_;replace h:=h.fX (e:=47) (sz:=6) (enc:=hM);replace h:=h.fX (e:=269) (sz:=6) (enc:=gY);cases H;exact⟨none,0,none,rfl,h.se 15 [13,14,1,0]⟩
    | none =>
     refine kX (Bl (xS:=Kl) (yN:=Lj) (Fi:=(bL.up 5 Kk)) (jw:=bB) (lN:=cr) (lO:=(ym.up 5 be)) (uu:=bL.up 5 uu) (iQ:=aI) Lr h :) λEl GV GW afb w h=>ko [.tuple #[pN,Z yL],U,U,U,U]<|I<|wq<|aN [U,R (yL != 0)]<|I<|qB H (λvF H=>?_) λvF H=>?_
     ·refine gD<|ks<|gB H λYU aef H=>bT<|kX (vq aef h :) λaeg aeh aei Fx w h=>I<|aN [U]<|kL (h.pick 5) 1<|qg H λaej H=>Zu (AP (va:=js) (c:=lu) (l:=p4.nR) (h:=h) (hv:=(bL.Gd aE (h.pick 7) (λh=>(h.pick 7)))) aej :) λab6 w h=>bT<|I<|gS<|qd2 H λab7 H ab8=>λ_ r=>cY (β:=Unit) (λ_ a w=>∃W7:fR,∃W8:Nat,∃W9:fR,∃Xa:Nat,∃Py:fR,∃Pz:Nat,∃TL:af,∃QX:List ai,(TL,QX)=ab7/\∃j,kH 108 (lk [(14,u Ir 0),(18,aY Py QX.length Pz)] j) a/\Fit z (aC (gE Ir TL W7 W8 W9 Xa (Ca Py Pz QX::xq kD kB p4.jk::xq js lu p4.nR::L))) w) ?_ ?_
      ·refine qq r<|aN [U]<|kL (h.pick 6) 0<|ko [Z ((p4.jk.length:Nat):Int),U]<|I<|wb<|?_;replace h:=h.fX (e:=47) (sz:=6) (enc:=hM);refine λ_ r=>dQ (β:=Nat) id (λm a w=>∃TP:fR,∃TQ:Nat,∃TR:fR,∃TS:Nat,∃My:fR,∃Mz:Nat,∃N4:af,∃Cb:List ai,∃vN:Int,(qx K p2 p4 m N4 Cb vN)=some ab7/\∃j,kH 108 (lk [(2,Z p2),(14,u Ir 0),(16,pN),(17,u ab6 0),(18,aY My Cb.length Mz),(71,aY kD p4.jk.length kB),(72,Z ((p4.jk.length:Nat):Int)),(73,Z vN)] j) a/\Fit z (aC (gE Ir N4 TP TQ TR TS (vw ab6 (⟨p4.nR⟩:aQ)::Ca My Mz Cb::xq kD kB p4.jk::xq js lu p4.nR::L))) w) K ⟨aeg,aeh,aei,Fx,none,0,YU,([]:List ai),0,H,r.fj (h.se 10 [2,3,4,1,0,8,9])⟩<|?_;clear h r H;rintro k2 a w ⟨TP,TQ,TR,TS,My,Mz,N4,Cb,vN,H,j,r,h⟩;cases k2 with
       | zero=>exact absurd H (by simp[qx])
       | succ k2 =>
        rw[qx]at H;refine qq r<|aN [cJ (vN<((p4.jk.length:Nat):Int))]<|I<|wq<|ez H (λaek H=>?_) λaek H=>?_
        ·refine gD<|wq<|wb<|ks<|qg H λab9 H=>bT<|ki (h.pick 5) ab9<|yY (Z (J p4.jk vN.toNat)) ((h.pick 5).bE aE (f:=0) (aS ab9) rfl)<|?_;refine ko dx<|I<|ks<|gB H λYT ael H=>ko dx<|fG (zC ael h :) λw h=>bT<|I<|ks<|gB H λN5 aem H=>ko dx<|kX (w4 aem h :) λYZ Y0 Y1 Y2 w h=>I<|ks<|wo H λEG ab0 aen H=>ko wA<|qh h.m3 λh=>fG (uO aen h :) λw h=>ko [.tuple #[eu EG,Z ab0],U,U]<|kN h (gi) 47 λacd w h=>kA h (fu acd EG) λw h=>bT<|I<|wq<|aN [U]<|kL h 2<|ko [R (EG.aL==0)]<|I<|ez H (λaeo H=>?_) λaeo H=>?_
         ·refine wx<|te<|bh<|tn<|wl<|ko [Z (wi (vN+1)),Z (wi (vN+1))]<|I<|?_;exact λ_ r=>⟨_,⟨YZ,Y0,Y1,Y2,My,Mz,N5,Cb,(wi (vN+1)),H,r.fj (h.se 8 [2,3,4,1,5,6,7])⟩,gQ _⟩
         refine gD<|aN dx<|kS h 0 (fu acd {EG with At:=vN}) λw h=>I<|aN [U]<|kM h<|kV h (tY {EG with At:=vN}) 47 λafc w h=>qh h.m6 λh=>qg H λSJ H=>λ_ r=>kY (n0:=Cb.length) (c:=1) (bytes:=48) (wn rfl) rfl rfl r rfl aK aK eU (E:=47) (xs:=Cb) aK aK h (news:=[{EG with At:=vN}]) (m:=1) rfl ((h.pick 1).news rfl) SJ rfl λXb Xc w _ h r=>qq r<|bT<|I<|aN [U]<|kM (h.pick 2)<|gB H λBo aep H=>fG (yj aep h :) λw h=>I<|FJ H (λaeq H=>?_) λaeq H=>?_
         ·refine wx<|λ_ r=>D1 eL<|qq r<|te<|te<|bh<|tn<|?_;exact λ_ r=>⟨(),YZ,Y0,Y1,Y2,Xb,Xc,N5,(Cb++[{EG with At:=vN}]),gA H,r.fj (h.se 9 [4,5,6,0,7,8])⟩
         refine wk<|bn<|tn<|wl<|ko [Z (wi (vN+1)),Z (wi (vN+1))]<|I<|?_;exact λ_ r=>⟨_,⟨YZ,Y0,Y1,Y2,Xb,Xc,N5,(Cb++[{EG with At:=vN}]),(wi (vN+1)),H,r.fj (h.se 9 [4,5,6,3,0,7,8])⟩,gQ _⟩
        refine wx<|te<|te<|bh<|tn<|?_;exact λ_ r=>⟨(),TP,TQ,TR,TS,My,Mz,N4,Cb,gA H,r.fj (h.se 7 [0,1,2,4,5,6])⟩
      clear h r;rintro _ a w ⟨W7,W8,W9,Xa,Py,Pz,TL,QX,rfl,j,r,h⟩;replace H:=kk2 ab8;refine qq r<|ks<|gB H λab2 aer H=>ko dx<|Zu (wW aer h :) λFy w h=>ko lR<|cB<|?_;cases H;exact xw3 Py Pz Fy (h.se 7 [5,6,4,3])
     refine aN wA<|cB<|tr<|λ_ r=>Ju (aY none 0 0) (aY none 0 0) (Z yL) rfl r<|?_;replace h:=h.fX (e:=47) (sz:=6) (enc:=hM);replace h:=h.fX (e:=269) (sz:=6) (enc:=gY);cases H;exact⟨none,0,none,rfl,h.se 10 [8,9,1,0]⟩
   refine aN wA<|cB<|tr<|λ_ r=>Ju (aY none 0 0) (aY none 0 0) (Z me) rfl r<|?_;replace h:=h.fX (e:=47) (sz:=6) (enc:=hM);replace h:=h.fX (e:=269) (sz:=6) (enc:=gY);cases H;exact⟨none,0,none,rfl,h.se 10 [8,9,1,0]⟩
  | none =>
   refine fG (HC IV h :) λw h=>ko [.tuple #[pN,Z me],U,U,U,U]<|I<|wq<|aN [U,R (me != 0)]<|I<|qB H (λaes H=>?_) λaes H=>?_
   ·refine gD<|aN dx<|xx (oP #[aY bB O.ak.length cr]) (cs:=[aY bB O.ak.length cr]) ⟨h.cell 0 rfl,bx⟩<|?_;refine ko dx<|kM (h.pick 1)<|?_;cases H
   refine aN wA<|cB<|tr<|λ_ r=>Ju (aY none 0 0) (aY none 0 0) (Z me) rfl r<|?_;replace h:=h.fX (e:=47) (sz:=6) (enc:=hM);replace h:=h.fX (e:=269) (sz:=6) (enc:=gY);cases H;exact⟨none,0,none,rfl,h.se 7 [5,6,1,0]⟩
 refine aN wA<|cB<|tr<|λ_ r=>Ju (aY none 0 0) (aY none 0 0) (Z w8) rfl r<|?_;replace h:=h.fX (e:=47) (sz:=6) (enc:=hM);replace h:=h.fX (e:=269) (sz:=6) (enc:=gY);cases H;exact⟨none,0,none,rfl,h.se 7 [5,6,1,0]⟩
def pK(O:nc):Option (Bool):=
 (if((O.jk.length:Nat):Int)>1048576 then some true else some (decide (((O.nR.length:Nat):Int)>1048576)))
theorem yW(H:pK O=some r0)(h:jh z (L) w)(QY:bL L 1 ck EI O.jk)(QZ:bL L 1 ck EJ O.nR) :
 nV 47 #[oP #[aY EI O.jk.length Jc,aY EJ O.nR.length Jd]] w z (R r0) (L):=by
 unfold pK at H;refine ke func47 13 rfl λj=>ks<|kN h (#[aY EI O.jk.length Jc,aY EJ O.nR.length Jd]) 30 λb1 w h=>bT<|I<|aN [U]<|kL h 0<|ko [Z ((O.jk.length:Nat):Int),cJ (((O.jk.length:Nat):Int)>1048576),cJ (((O.jk.length:Nat):Int)>1048576)]<|qI H (λc2 H=>?_) λc2 H=>?_
 ·refine bU (dT c2) [8,9,10,11]<|ny (dT c2) (R true)<|bT<|cB<|?_;cases H;exact gC (h.se 1 [])
 refine cR (dF c2) [8] [u b1 1]<|sv (dF c2) h 1<|cR (dF c2) [10,11] [Z ((O.nR.length:Nat):Int),cJ (((O.nR.length:Nat):Int)>1048576)]<|nv (dF c2) (cJ (((O.nR.length:Nat):Int)>1048576))<|ko [cJ (((O.nR.length:Nat):Int)>1048576)]<|cB<|?_;cases H;exact gC (h.se 1 [])
def nu(K:Nat)(O:bO):Option (Int):=
 eY (pK (⟨O.dk,O.fD⟩:nc)) (λr2=>(if r2=true then some 2 else eY (nq K (⟨O.bR⟩:aM) O.oH O.aF (⟨O.au,O.fH,O.gq⟩:eM)) (λr5=>some r5)))
theorem yX(H:nu K O=some r0)(h:jh z (L) w)(fU:BN L cH eX O.bR)(nQ:bL L 1 ck dB O.oH)(iJ:bL L 1 ck bz O.dk)(jF:bL L 1 ck bH O.fD) :
 nV 29 #[oP #[aY cH O.bR.length cZ,aY dB O.oH.length eD,Z O.aF,Z O.au,Z O.fH,Z O.gq,aY bz O.dk.length bS,aY bH O.fD.length cg]] w z (Z r0) (L):=by
 unfold nu at H;refine ke func29 15 rfl λj=>ks<|kN h (#[aY cH O.bR.length cZ,aY dB O.oH.length eD,Z O.aF,Z O.au,Z O.fH,Z O.gq,aY bz O.dk.length bS,aY bH O.fD.length cg]) 32 λb1 w h=>bT<|I<|wq<|aN [U]<|xx (oP #[aY bz O.dk.length bS,aY bH O.fD.length cg]) (cs:=[aY bz O.dk.length bS,aY bH O.fD.length cg]) (h.held 6 rfl)<|?_;refine gB H λr2 e3 H=>fG (yW (EI:=bz) (Jc:=bS) (QY:=(bL.up 1 iJ)) (EJ:=bH) (Jd:=cg) (QZ:=(bL.up 1 jF)) e3 h :) λw h=>I<|FJ H (λc4 H=>?_) λc4 H=>?_
 ·refine gS<|wr<|tr<|?_;cases H;exact gC (h.se 1 [])
 refine gD<|aN [U]<|xx (oP #[aY cH O.bR.length cZ]) (cs:=[aY cH O.bR.length cZ]) ⟨h.cell 0 rfl,bx⟩<|?_;refine bT<|kL h 1<|bT<|kL h 2<|bT<|xx (oP #[Z O.au,Z O.fH,Z O.gq]) (cs:=[Z O.au,Z O.fH,Z O.gq]) (h.held 3 rfl)<|?_;refine gB H λr5 e6 H=>fG (yM (Kl:=dB) (Lj:=eD) (Kk:=(bL.up 1 nQ)) (bB:=cH) (cr:=cZ) (be:=(ym.up 1 fU)) (aI:=eX) e6 h :) λw h=>bT<|cB<|?_;cases H;exact gC (h.se 1 [])
def j7(K:Nat)(me:List ai):Nat->Int->Option ((List ai)×Bool×Bool)
 | 0,_=>none
 | k1+1,rT=>(if rT<((me.length:Nat):Int)then eY (if bI rT me.length then(if(J me rT.toNat).aL=1 then some ((J me rT.toNat).Frame==0)else some false)else none) (λg34=>(if g34=true then if bI rT me.length then(if(J me rT.toNat).gV=0 then(if(J me rT.toNat).X=(-1)then some (me,true,(J me rT.toNat).V==1)else some (me,true,false))else some (me,true,false))else none else(j7 K me k1 (wi (rT+1)))))else some (me,true,false))
def kU(K:Nat)(O:bO):Option ((List ai)×Bool×Bool):=
 eY (pI K O) (λr5=>pM (su K (⟨r5.bR⟩:aM) r5.oH r5.aF (⟨r5.au,r5.fH,r5.gq⟩:eM) (⟨r5.dk,r5.fD⟩:nc)) (λme pY zn=>eY (nu K O) (λzx=>(if zn=zx then(if zn=0 then eY (rj K O) (λRa=>(if Ra=true then(j7 K me K 0)else some (me,true,true)))else some (([]:List ai),false,true))else some (([]:List ai),false,false)))))
theorem Bx(H:kU K O=some (r0,r1,r2))(h:jh z (L) w)(fU:BN L cH eX O.bR)(nQ:bL L 1 ck dB O.oH)(iJ:bL L 1 ck bz O.dk)(jF:bL L 1 ck bH O.fD)(LS:bL L 1 Gc (some ⟨0,0,none⟩) OC)(uu:bL L 5 gJ (some ⟨1,0,none⟩) w6) :
 Calls Tryz.prog 24 #[oP #[aY cH O.bR.length cZ,aY dB O.oH.length eD,Z O.aF,Z O.au,Z O.fH,Z O.gq,aY bz O.dk.length bS,aY bH O.fD.length cg]] w λe w=>∃y1 y2,e=.returned (.tuple #[aY y1 r0.length y2,R r1,R r2])/\Fit z (aC (Ca y1 y2 r0::L)) w:=by
 unfold kU at H;refine ke func24 85 rfl λj=>ks<|kN h (#[aY cH O.bR.length cZ,aY dB O.oH.length eD,Z O.aF,Z O.au,Z O.fH,Z O.gq,aY bz O.dk.length bS,aY bH O.fD.length cg]) 32 λb4 w h=>ko lR<|I<|ks<|kM h<|gB H λr5 e6 H=>xc8 (Bv (cH:=cH) (cZ:=cZ) (fU:=(ym.up 1 fU)) (dB:=dB) (eD:=eD) (nQ:=(bL.up 1 nQ)) (bz:=bz) (bS:=bS) (iJ:=(bL.up 1 iJ)) (bH:=bH) (cg:=cg) (jF:=(bL.up 1 jF)) (eX:=eX) e6 h :) λx7 x8 x9 Ax vX zu vy yp w h=>kN h (#[aY none 0 0,aY none 0 0,Z 0,Z 0,Z 0,Z 0,aY none 0 0,aY none 0 0]) 32 λb15 w h=>kA h (xO b15 r5 x7 x8 x9 Ax vX zu vy yp) λw h=>I<|aN [U]<|xx (oP #[aY x7 r5.bR.length x8]) (cs:=[aY x7 r5.bR.length x8]) ⟨h.cell 0 rfl,bx⟩<|?_;refine bT<|kL h 1<|bT<|kL h 2<|bT<|xx (oP #[Z r5.au,Z r5.fH,Z r5.gq]) (cs:=[Z r5.au,Z r5.fH,Z r5.gq]) (h.held 3 rfl)<|?_;refine bT<|xx (oP #[aY vX r5.dk.length zu,aY vy r5.fD.length yp]) (cs:=[aY vX r5.dk.length zu,aY vy r5.fD.length yp]) (h.held 6 rfl)<|?_;refine qh h.m1 λh=>?_;obtain⟨aet,ace,h⟩:=RN (cn:=Sc) (afu:=132) (rY:=5) (iX:=cT) (uq:=aD.aq) (λh=>tX h) h;refine tH H λme pY zn Lp H=>qh h.m4.m4 λh=>xc3 (Hh (Kl:=x9) (Lj:=Ax) (Kk:=(bL.Gd aE (h.pick 4) (λh=>(h.pick 2)))) (bB:=x7) (cr:=x8) (be:=(ym.cast (ym.UD iC eL (h.pick 2) (λh=>h)) ace)) (LS:=bL.up 4 LS) (uu:=bL.up 4 uu) (aI:=(λi_=>(J aet i_).2)) Lp h :) λmX uv BV w h=>qh h.m4 λh=>?_;replace h:=MU (own:=lZ) (λh=>eW h) h ace;refine ko [.tuple #[aY mX me.length uv,aY BV pY.length pY.length,Z zn],U,U,U,U,U,U]<|I<|ks<|kM (h.pick 7)<|gB H λzx X5 H=>fG (yX (cH:=cH) (cZ:=cZ) (fU:=(ym.up 8 fU)) (dB:=dB) (eD:=eD) (nQ:=(bL.up 8 nQ)) (bz:=bz) (bS:=bS) (iJ:=(bL.up 8 iJ)) (bH:=bH) (cg:=cg) (jF:=(bL.up 8 jF)) (eX:=eX) X5 h :) λw h=>bT<|I<|wq<|aN [U,U,R (zn != zx)]<|I<|qB H (λqc H=>?_) λqc H=>?_
 ·refine gD<|wq<|aN [U,R (zn != 0)]<|I<|qB H (λzp H=>?_) λzp H=>?_
  ·refine gD<|ks<|kM (h.pick 7)<|gB H λRa Lr H=>fG (Av (cH:=cH) (cZ:=cZ) (fU:=(ym.up 8 fU)) (dB:=dB) (eD:=eD) (nQ:=(bL.up 8 nQ)) (bz:=bz) (bS:=bS) (iJ:=(bL.up 8 iJ)) (bH:=bH) (cg:=cg) (jF:=(bL.up 8 jF)) (eX:=eX) Lr h :) λw h=>bT<|I<|wq<|aN [U,R (!Ra)]<|I<|D5 H (λvx H=>?_) λvx H=>?_
   ·refine gD<|wq<|gS<|wb<|λ_ r=>dQ (β:=Nat) id (λm a w=>∃rT:Int,(j7 K me m rT)=some (r0,r1,r2)/\∃j,kH 85 (lk [(6,aY mX me.length uv),(11,Z rT)] j) a/\Fit z (aC (Ca mX uv me::L)) w) K ⟨0,H,r.fj (h.se 8 [3])⟩<|?_;clear h r H;rintro k1 a w ⟨rT,H,j,r,h⟩;cases k1 with
    | zero=>exact absurd H (by simp[j7])
    | succ k1 =>
     rw[j7]at H;refine qq r<|wq<|aN [U,U,Z ((me.length:Nat):Int),cJ (rT<((me.length:Nat):Int))]<|I<|ez H (λAz H=>?_) λAz H=>?_
     ·refine gD<|wq<|wb<|DV H λo36 H aeu=>λ_ r=>cY (β:=Unit) (λ_ a w=>∃g34:Bool,g34=o36/\∃j,kH 85 (lk [(6,aY mX me.length uv),(11,Z rT),(60,R g34)] j) a/\Fit z (aC (Ca mX uv me::L)) w) ?_ ?_
      ·refine qq r<|wl<|qg H λvQ H=>ko dx<|ki h vQ<|bT<|yY (Z (J me rT.toNat).aL) (h.bE eU (f:=2) (aS vQ) rfl)<|?_;refine ko [R ((J me rT.toNat).aL==1),R ((J me rT.toNat).aL==1)]<|qI H (λGA H=>?_) λGA H=>?_
       ·refine cR (beq_iff_eq.mpr GA) [54,55] [aY mX me.length uv,Z rT]<|λ_ r=>Rz (aX r (beq_iff_eq.mpr GA)) r (mw mX rT 6) (nN 47 rfl h vQ)<|?_;refine cR (beq_iff_eq.mpr GA) [57] [sV mX rT 6 3]<|λ_ r=>ld (aX r (beq_iff_eq.mpr GA)) r (Z (J me rT.toNat).Frame) (h.bE eU (f:=3) (aS vQ) rfl)<|?_;refine cR (beq_iff_eq.mpr GA) [59] [R ((J me rT.toNat).Frame==0)]<|ny (beq_iff_eq.mpr GA) (R ((J me rT.toNat).Frame==0))<|I<|?_;exact λ_ r=>⟨(),((J me rT.toNat).Frame==0),gA H,r.fj h⟩
       refine bU (bN GA) [54,55,56,57,58,59]<|nv (bN GA) (R false)<|I<|?_;exact λ_ r=>⟨(),false,gA H,r.fj h⟩
      clear h r;rintro _ a w ⟨g34,rfl,j,r,h⟩;replace H:=DS aeu;refine qq r<|FJ H (λxz H=>?_) λxz H=>?_
      ·refine wq<|qg H λFo H=>qI H (λxb H=>?_) λxb H=>?_
       ·refine qI H (λBe H=>?_) λBe H=>?_
        ·refine lC [(dA mX,rT.toNat*6+1,[Z (J me rT.toNat).gV]),(dA mX,rT.toNat*6+4,[Z (J me rT.toNat).X]),(dA mX,rT.toNat*6+5,[Z (J me rT.toNat).V])] [3,4,6,10,11,13,18,19] 26 h (λh=>⟨⟨h.bE eU (f:=1) (aS Fo) rfl,bx⟩,⟨h.bE eU (f:=4) (aS Fo) rfl,bx⟩,⟨h.bE eU (f:=5) (aS Fo) rfl,bx⟩,bx⟩) λw h hd =>ju hd 23 61 [([0,1],aY mX me.length uv),([2],Z rT)]<|jl hd 22 3 rfl (mw mX rT 6) (λw=>nN 47 rfl h Fo)<|iy hd 21 [(4,65,sV mX rT 6 1)]<|fg hd 0 20 5 rfl<|ju hd 18 61 [([6,7],R ((J me rT.toNat).gV==0))]<|λ_ r=>fV hd 17 8 rfl (aX r (beq_iff_eq.mpr xb)) r (aY mX me.length uv)<|?_;refine λ_ r=>fV hd 16 9 rfl (aX r (beq_iff_eq.mpr xb)) r (Z rT)<|?_;refine λ_ r=>fV hd 15 10 rfl (aX r (beq_iff_eq.mpr xb)) r (mw mX rT 6) (hrun:=λw=>nN 47 rfl h Fo)<|?_;refine λ_ r=>fV hd 14 11 rfl (aX r (beq_iff_eq.mpr xb)) r (sV mX rT 6 4)<|?_;refine λ_ r=>mT hd 1 13 12 r (aX r (beq_iff_eq.mpr xb)) rfl rfl<|?_;refine λ_ r=>fV hd 12 13 rfl (aX r (beq_iff_eq.mpr xb)) r (R ((J me rT.toNat).X==(-1)))<|?_;refine jl hd 11 14 rfl (R ((J me rT.toNat).X==(-1))) (λw=>qX (b:=((J me rT.toNat).gV==0)) rfl aK (beq_iff_eq.mpr xb) aK)<|iy hd 10 [(15,76,R ((J me rT.toNat).X==(-1)))]<|λ_ r=>fV hd 9 16 rfl (aX r (beq_iff_eq.mpr Be)) r (aY mX me.length uv)<|?_;refine λ_ r=>fV hd 8 17 rfl (aX r (beq_iff_eq.mpr Be)) r (Z rT)<|?_;refine λ_ r=>fV hd 7 18 rfl (aX r (beq_iff_eq.mpr Be)) r (mw mX rT 6) (hrun:=λw=>nN 47 rfl h Fo)<|?_;refine λ_ r=>fV hd 6 19 rfl (aX r (beq_iff_eq.mpr Be)) r (sV mX rT 6 5)<|?_;refine iy hd 4 [(23,2,aY mX me.length uv),(24,3,R true)]<|λ_ r=>mT hd 2 3 20 r (aX r (beq_iff_eq.mpr Be)) rfl rfl<|?_;refine λ_ r=>fV hd 2 21 rfl (aX r (beq_iff_eq.mpr Be)) r (R ((J me rT.toNat).V==1))<|?_;refine jl hd 1 22 rfl (R ((J me rT.toNat).V==1)) (λw=>qX (b:=((J me rT.toNat).X==(-1))) rfl aK (beq_iff_eq.mpr Be) aK)<|iy hd 0 [(25,4,R ((J me rT.toNat).V==1))]<|kI<|tn<|wr<|br<|tr<|tr<|br<|tr<|?_;cases H;exact xw2 mX uv h
        refine lC [(dA mX,rT.toNat*6+1,[Z (J me rT.toNat).gV]),(dA mX,rT.toNat*6+4,[Z (J me rT.toNat).X])] [3,4,6,10,11] 26 h (λh=>⟨⟨h.bE eU (f:=1) (aS Fo) rfl,bx⟩,⟨h.bE eU (f:=4) (aS Fo) rfl,bx⟩,bx⟩) λw h hd =>ju hd 23 61 [([0,1],aY mX me.length uv),([2],Z rT)]<|jl hd 22 3 rfl (mw mX rT 6) (λw=>nN 47 rfl h Fo)<|iy hd 21 [(4,65,sV mX rT 6 1)]<|fg hd 0 20 5 rfl<|ju hd 18 61 [([6,7],R ((J me rT.toNat).gV==0))]<|λ_ r=>fV hd 17 8 rfl (aX r (beq_iff_eq.mpr xb)) r (aY mX me.length uv)<|?_;refine λ_ r=>fV hd 16 9 rfl (aX r (beq_iff_eq.mpr xb)) r (Z rT)<|?_;refine λ_ r=>fV hd 15 10 rfl (aX r (beq_iff_eq.mpr xb)) r (mw mX rT 6) (hrun:=λw=>nN 47 rfl h Fo)<|?_;refine λ_ r=>fV hd 14 11 rfl (aX r (beq_iff_eq.mpr xb)) r (sV mX rT 6 4)<|?_;refine λ_ r=>mT hd 1 13 12 r (aX r (beq_iff_eq.mpr xb)) rfl rfl<|?_;refine λ_ r=>fV hd 12 13 rfl (aX r (beq_iff_eq.mpr xb)) r (R ((J me rT.toNat).X==(-1)))<|?_;refine jl hd 11 14 rfl (R ((J me rT.toNat).X==(-1))) (λw=>qX (b:=((J me rT.toNat).gV==0)) rfl aK (beq_iff_eq.mpr xb) aK)<|iy hd 10 [(15,76,R ((J me rT.toNat).X==(-1)))]<|λ_ r=>eof hd 9 16 rfl (aX r (bN Be)) r<|?_;refine λ_ r=>eof hd 8 17 rfl (aX r (bN Be)) r<|?_;refine λ_ r=>eof hd 7 18 rfl (aX r (bN Be)) r<|?_;refine λ_ r=>eof hd 6 19 rfl (aX r (bN Be)) r<|?_;refine iy hd 4 [(23,2,aY mX me.length uv),(24,3,R true)]<|λ_ r=>eof hd 3 20 rfl (aX r (bN Be)) r<|?_;refine λ_ r=>eof hd 2 21 rfl (aX r (bN Be)) r<|?_;refine jl hd 1 22 rfl (R false) (λw=>nI (b:=((J me rT.toNat).X==(-1))) rfl aK (bN Be) aK)<|iy hd 0 [(25,4,R false)]<|kI<|tn<|wr<|br<|tr<|tr<|br<|tr<|?_;cases H;exact xw2 mX uv h
       refine lC [(dA mX,rT.toNat*6+1,[Z (J me rT.toNat).gV])] [3,4] 26 h (λh=>⟨⟨h.bE eU (f:=1) (aS Fo) rfl,bx⟩,bx⟩) λw h hd =>ju hd 23 61 [([0,1],aY mX me.length uv),([2],Z rT)]<|jl hd 22 3 rfl (mw mX rT 6) (λw=>nN 47 rfl h Fo)<|iy hd 21 [(4,65,sV mX rT 6 1)]<|fg hd 0 20 5 rfl<|ju hd 18 61 [([6,7],R ((J me rT.toNat).gV==0))]<|λ_ r=>eof hd 17 8 rfl (aX r (bN xb)) r<|?_;refine λ_ r=>eof hd 16 9 rfl (aX r (bN xb)) r<|?_;refine λ_ r=>eof hd 15 10 rfl (aX r (bN xb)) r<|?_;refine λ_ r=>eof hd 14 11 rfl (aX r (bN xb)) r<|?_;refine λ_ r=>eof hd 13 12 rfl (aX r (bN xb)) r<|?_;refine λ_ r=>eof hd 12 13 rfl (aX r (bN xb)) r<|?_;refine jl hd 11 14 rfl (R false) (λw=>nI (b:=((J me rT.toNat).gV==0)) rfl aK (bN xb) aK)<|iy hd 10 [(15,76,R false)]<|λ_ r=>eof hd 9 16 rfl (aX r (c:=false) rfl) r<|?_;refine λ_ r=>eof hd 8 17 rfl (aX r (c:=false) rfl) r<|?_;refine λ_ r=>eof hd 7 18 rfl (aX r (c:=false) rfl) r<|?_;refine λ_ r=>eof hd 6 19 rfl (aX r (c:=false) rfl) r<|?_;refine iy hd 4 [(23,2,aY mX me.length uv),(24,3,R true)]<|λ_ r=>eof hd 3 20 rfl (aX r (c:=false) rfl) r<|?_;refine λ_ r=>eof hd 2 21 rfl (aX r (c:=false) rfl) r<|?_;refine iy hd 0 [(22,83,R false),(25,4,R false)]<|kI<|tn<|wr<|br<|tr<|tr<|br<|tr<|?_;cases H;exact xw2 mX uv h
      refine wk<|bn<|tn<|wl<|ko [U,Z (wi (rT+1)),Z (wi (rT+1))]<|I<|?_;exact λ_ r=>⟨_,⟨(wi (rT+1)),H,r.fj h⟩,gQ _⟩
     refine wx<|te<|te<|bh<|tn<|aN wA<|cB<|?_;cases H;exact xw2 mX uv h
   refine aN wA<|cB<|tr<|?_;cases H;exact xw2 mX uv (h.se 8 [3])
  refine aN lR<|cB<|tr<|λ_ r=>Ju (aY none 0 0) (R false) (R true) rfl r<|?_;replace h:=h.fX (e:=47) (sz:=6) (enc:=hM);cases H;exact⟨none,0,rfl,h.se 9 [0]⟩
 refine aN lR<|cB<|tr<|λ_ r=>Ju (aY none 0 0) (R false) (R false) rfl r<|?_;replace h:=h.fX (e:=47) (sz:=6) (enc:=hM);cases H;exact⟨none,0,rfl,h.se 9 [0]⟩
def bG(K:Nat)(O:bO)(r2:List ai):Nat->(List Int)->(List Int)->(List Int)->Int->Option (Bool)
 | 0,_,_,_,_=>none
 | k1+1,kF,rq,tM,aP=>(if aP<((r2.length:Nat):Int)then if bI aP r2.length then(if(J r2 aP.toNat).aL=2 then xp ((if(J r2 aP.toNat).Frame<0 then some (.inr false)else(if(J r2 aP.toNat).Frame>=(((List.replicate O.au.toNat (0:Int)).length:Nat):Int)then some (.inr false)else(if(J r2 aP.toNat).gV<0 then some (.inr false)else(if(J r2 aP.toNat).gV>=O.aF then some (.inr false)else some (.inl ())))))) ((if(J r2 aP.toNat).aL=2 then if bI (J r2 aP.toNat).Frame kF.length then if bI (J r2 aP.toNat).Frame rq.length then(bG K O r2 k1 (kF.set (J r2 aP.toNat).Frame.toNat (wi ((J r2 aP.toNat).gV+1))) (rq.set (J r2 aP.toNat).Frame.toNat (wi (aP+1))) tM (wi (aP+1)))else none else none else(if(J r2 aP.toNat).aL=8 then(if(J r2 aP.toNat).X<0 then some false else(if(J r2 aP.toNat).X>=O.aF then some false else(if(J r2 aP.toNat).X=(J r2 aP.toNat).gV then some false else if bI (J r2 aP.toNat).Frame kF.length then(if(J kF (J r2 aP.toNat).Frame.toNat)=(wi ((J r2 aP.toNat).X+1))then if bI (J r2 aP.toNat).Frame rq.length then if bI (J r2 aP.toNat).X tM.length then(if(J rq (J r2 aP.toNat).Frame.toNat)<=(J tM (J r2 aP.toNat).X.toNat)then some false else(bG K O r2 k1 kF rq (tM.set (J r2 aP.toNat).X.toNat (J rq (J r2 aP.toNat).Frame.toNat)) (wi (aP+1))))else none else none else some false)else none)))else(if(J r2 aP.toNat).aL=1 then eY ((if(J r2 aP.toNat).X=(-1)then(if(J r2 aP.toNat).Frame=0 then some true else if bI (J r2 aP.toNat).Frame kF.length then some ((J kF (J r2 aP.toNat).Frame.toNat)==(wi ((J r2 aP.toNat).gV+1)))else none)else some false)) (λw5=>(if w5=true then(bG K O r2 k1 kF rq tM (wi (aP+1)))else(if(J r2 aP.toNat).X<0 then some false else if bI (J r2 aP.toNat).Frame kF.length then(if(J kF (J r2 aP.toNat).Frame.toNat)=(wi ((J r2 aP.toNat).X+1))then(bG K O r2 k1 kF rq tM (wi (aP+1)))else some false)else none)))else(bG K O r2 k1 kF rq tM (wi (aP+1)))))))else(if(J r2 aP.toNat).aL=8 then xp ((if(J r2 aP.toNat).Frame<0 then some (.inr false)else(if(J r2 aP.toNat).Frame>=(((List.replicate O.au.toNat (0:Int)).length:Nat):Int)then some (.inr false)else(if(J r2 aP.toNat).gV<0 then some (.inr false)else(if(J r2 aP.toNat).gV>=O.aF then some (.inr false)else some (.inl ())))))) ((if(J r2 aP.toNat).aL=2 then if bI (J r2 aP.toNat).Frame kF.length then if bI (J r2 aP.toNat).Frame rq.length then(bG K O r2 k1 (kF.set (J r2 aP.toNat).Frame.toNat (wi ((J r2 aP.toNat).gV+1))) (rq.set (J r2 aP.toNat).Frame.toNat (wi (aP+1))) tM (wi (aP+1)))else none else none else(if(J r2 aP.toNat).aL=8 then(if(J r2 aP.toNat).X<0 then some false else(if(J r2 aP.toNat).X>=O.aF then some false else(if(J r2 aP.toNat).X=(J r2 aP.toNat).gV then some false else if bI (J r2 aP.toNat).Frame kF.length then(if(J kF (J r2 aP.toNat).Frame.toNat)=(wi ((J r2 aP.toNat).X+1))then if bI (J r2 aP.toNat).Frame rq.length then if bI (J r2 aP.toNat).X tM.length then(if(J rq (J r2 aP.toNat).Frame.toNat)<=(J tM (J r2 aP.toNat).X.toNat)then some false else(bG K O r2 k1 kF rq (tM.set (J r2 aP.toNat).X.toNat (J rq (J r2 aP.toNat).Frame.toNat)) (wi (aP+1))))else none else none else some false)else none)))else(if(J r2 aP.toNat).aL=1 then eY ((if(J r2 aP.toNat).X=(-1)then(if(J r2 aP.toNat).Frame=0 then some true else if bI (J r2 aP.toNat).Frame kF.length then some ((J kF (J r2 aP.toNat).Frame.toNat)==(wi ((J r2 aP.toNat).gV+1)))else none)else some false)) (λrX=>(if rX=true then(bG K O r2 k1 kF rq tM (wi (aP+1)))else(if(J r2 aP.toNat).X<0 then some false else if bI (J r2 aP.toNat).Frame kF.length then(if(J kF (J r2 aP.toNat).Frame.toNat)=(wi ((J r2 aP.toNat).X+1))then(bG K O r2 k1 kF rq tM (wi (aP+1)))else some false)else none)))else(bG K O r2 k1 kF rq tM (wi (aP+1)))))))else(if(J r2 aP.toNat).aL=1 then xp ((if(J r2 aP.toNat).Frame<0 then some (.inr false)else(if(J r2 aP.toNat).Frame>=(((List.replicate O.au.toNat (0:Int)).length:Nat):Int)then some (.inr false)else(if(J r2 aP.toNat).gV<0 then some (.inr false)else(if(J r2 aP.toNat).gV>=O.aF then some (.inr false)else some (.inl ())))))) ((if(J r2 aP.toNat).aL=2 then if bI (J r2 aP.toNat).Frame kF.length then if bI (J r2 aP.toNat).Frame rq.length then(bG K O r2 k1 (kF.set (J r2 aP.toNat).Frame.toNat (wi ((J r2 aP.toNat).gV+1))) (rq.set (J r2 aP.toNat).Frame.toNat (wi (aP+1))) tM (wi (aP+1)))else none else none else(if(J r2 aP.toNat).aL=8 then(if(J r2 aP.toNat).X<0 then some false else(if(J r2 aP.toNat).X>=O.aF then some false else(if(J r2 aP.toNat).X=(J r2 aP.toNat).gV then some false else if bI (J r2 aP.toNat).Frame kF.length then(if(J kF (J r2 aP.toNat).Frame.toNat)=(wi ((J r2 aP.toNat).X+1))then if bI (J r2 aP.toNat).Frame rq.length then if bI (J r2 aP.toNat).X tM.length then(if(J rq (J r2 aP.toNat).Frame.toNat)<=(J tM (J r2 aP.toNat).X.toNat)then some false else(bG K O r2 k1 kF rq (tM.set (J r2 aP.toNat).X.toNat (J rq (J r2 aP.toNat).Frame.toNat)) (wi (aP+1))))else none else none else some false)else none)))else(if(J r2 aP.toNat).aL=1 then eY ((if(J r2 aP.toNat).X=(-1)then(if(J r2 aP.toNat).Frame=0 then some true else if bI (J r2 aP.toNat).Frame kF.length then some ((J kF (J r2 aP.toNat).Frame.toNat)==(wi ((J r2 aP.toNat).gV+1)))else none)else some false)) (λoG=>(if oG=true then(bG K O r2 k1 kF rq tM (wi (aP+1)))else(if(J r2 aP.toNat).X<0 then some false else if bI (J r2 aP.toNat).Frame kF.length then(if(J kF (J r2 aP.toNat).Frame.toNat)=(wi ((J r2 aP.toNat).X+1))then(bG K O r2 k1 kF rq tM (wi (aP+1)))else some false)else none)))else(bG K O r2 k1 kF rq tM (wi (aP+1)))))))else(bG K O r2 k1 kF rq tM (wi (aP+1))))))else none else some true)
def lq(K:Nat)(O:bO):Option (Bool):=
 pM (kU K O) (λr2 r3 r4=>xp ((if r4=true then(if r3=true then some (.inl ())else some (.inr r4))else some (.inr r4))) (if 0<=O.au/\O.au*8<=140737488355328 then if 0<=O.aF/\O.aF*8<=140737488355328 then(bG K O r2 K (List.replicate O.au.toNat (0:Int)) (List.replicate O.au.toNat (0:Int)) (List.replicate O.aF.toNat (0:Int)) 0)else none else none))
end
open Go SL GX
section
variable {K:Nat}
theorem V4{x n:Int}(h1:1<=n)(h2:n<=1000) :∃i:Nat,uX x n=some (i:Int)/\iw x n=some (i:Int)/\(i:Int)<n:=by
 obtain⟨i,e1,e2⟩:=Pr (x:=x) h1 h2;refine⟨i,?_,e1,e2⟩;rw[<-e1];unfold uX iw;rw[eG]
theorem PA{f m afs:Nat}(hf:f<=m)(hm:m<=4096)(hG:cq f m afs=m)(hT:tq f m afs<=100000):∀(d g k:Nat) (z:Int),g+d=afs->d<k->(∀x,g<=x->x<afs->cq f m x<m)->0<=z->z+((tq f m afs-tq f m g:Nat):Int)<=1000000->tq f m g<=tq f m afs->
 oF K (m:Int) k z (cq f m g:Nat)=some (z+((tq f m afs-tq f m g:Nat):Int))
 | d,g,k,z,hd,hk,hx,hz,hz2,ht=>by
  obtain⟨k,rfl⟩ :∃n,k=n+1:=⟨k-1,aB⟩;have hl:=Pp hf g;rw[oF];by_cases e:g=afs
  ·subst e;rw[hG,eG,Nat.sub_self];simp
  ·obtain⟨d,rfl⟩ :∃n,d=n+1:=⟨d-1,aB⟩;have h1:=hx g (j9 _) aB;have hn:cq f m (g+1)=min (2*cq f m g) m:=rfl;have hT':tq f m (g+1)=tq f m g+1+cq f m (g+1):=rfl;have VP:∀y,g+1+y<=afs->tq f m (g+1)<=tq f m (g+1+y):=λy=>by
    induction y with
    | zero=>intro _;exact j9 _
    | succ y ih=>intro h;have:=ih aB;show _<=tq f m (g+1+y)+1+cq f m (g+1+y+1);omega
   have hle:tq f m (g+1)<=tq f m afs:=by have:=VP (afs-(g+1)) aB;rwa [show g+1+(afs-(g+1))=afs by omega]at this
   have hc:(if(m:Int)<wi ((2:Int)*((cq f m g:Nat):Int))then(m:Int)else wi ((2:Int)*((cq f m g:Nat):Int)))=((cq f m (g+1):Nat):Int):=by
    rw[eF aB];split<;>omega
   rw[oU,hc,eF (x:=(1:Int)+_) aB,eF (x:=z+_) aB,
    PA hf hm hG hT d (g+1) k _ aB aB (λx h1 h2=>hx x aB h2) aB aB hle]
   congr 1;omega
theorem Y3{N F:Nat}{lp:eM}{f m:Nat}(hl:WV lp.cA lp.dS lp.jL)(hF:lp.cA=F)(hf:lp.dS=f)(hm:lp.jL=m)(ZH:1<=N)(hN:N<=64)(hK:5000<K) :
 ∃afs,cq f m afs=m/\vv K (N:Int) lp=some ((4+10*F+N+N*(4+f+tq f m afs):Nat):Int)/\4+10*F+N+N*(4+f+tq f m afs)<=1048576:=by
 have f1:=hl.f1;have f2:=hl.f2;have a1:=hl.a1;have a2:=hl.a2;have m2:=hl.m2;have W0:f<=m:=by omega
 have h1:1<=f:=by omega
 obtain⟨G',x1,x2,x3,x4,x5⟩:=VQ (K:=K) (N:=N) (F:=F) (lp:=lp) (f:=f) (m:=m) hl hF hf hm ZH hN hK;obtain⟨afs,g1,g2,g3,g4,g5,g6,g7⟩:=N0 h1 W0 (m-f) 0 (by show m-f<=m-f;omega);have hGG:afs=G':=by
  rcases Nat.lt_trichotomy afs G' with h | h | h
  ·have:=x2 afs h;omega
  ·exact h
  ·have:=g3 G' aB h;omega
 subst hGG;refine⟨afs,x1,?_,x5⟩;have hGb:afs<=4096:=by
  rcases CV 4096 afs with h | h
  ·exfalso
   have:∀x,x<=afs->x<=tq f m x:=λx=>by
    induction x with
    | zero=>intro _;omega
    | succ x ih=>intro h;have:=ih aB;show _<=tq f m x+1+_;omega
   have hp:∀x,x<=afs->f+x<=cq f m x∨cq f m x=m:=λx=>by
    induction x with
    | zero=>intro _;exact .inl (by show f+0<=f;omega)
    | succ x ih =>
     intro h;have hn:cq f m (x+1)=min (2*cq f m x) m:=rfl;have:=Ki h1 W0 x;rcases ih aB with h' | h'<;>omega
   rcases hp 4096 aB with h' | h'
   ·have:=Pp W0 4096;omega
   ·have:=g3 4096 aB h;omega
  ·exact h
 have hd:=PA (K:=K) (f:=f) (m:=m) (afs:=afs) W0 aB x1 aB afs 0 K (4+f) aB aB (λx h1 h2=>g3 x h1 h2) aB (by have:tq f m 0=0:=rfl;omega) (Cf _);have z0:tq f m 0=0:=rfl;have c0:cq f m 0=f:=rfl;rw[z0,c0,Nat.sub_zero]at hd;have hmul:N*(4+f+tq f m afs)<=1048576:=by omega
 have hmi:(N:Int)*(4+(f:Int)+((tq f m afs:Nat):Int))=((N*(4+f+tq f m afs):Nat):Int):=by rw[Int.natCast_mul];congr 1
 unfold vv qf qk q8 mP xL sC;rw[oU,tR (show(N:Int)<=64 by omega),ay,aW rfl,oU,oU,oU,oU,tR (show lp.jL<=4096 by omega),ay,aW rfl,eT,
  cF aB,eG,ay,eG,eG,ay,ay,aW rfl,hf,hm,eF (x:=(4:Int)+(f:Int)) aB,hd,ay,hmi,hF]
 rw[eF (x:=(F:Int)*10) aB,eF (x:=(1:Int)+(F:Int)*10) aB,eF (x:=(2:Int)+(N:Int)) aB,eF (x:=(1:Int)+(1+(F:Int)*10)) aB,eF (x:=(1:Int)+(1+(F:Int)*10)+_) aB,eF (x:=((N*(4+f+tq f m afs):Nat):Int)) aB,eF aB]
 congr 1
 omega
section
variable {C:Am.kT}{p:aM}{s:Am.St}{S:ag}{M:af}{sz n i:Nat}{D:aQ}
theorem V5(b:vL C p s S M sz n)(a:Int):vL C p s S {M with sF:=a} sz n:=
 { b with ar:=⟨b.ar.size,b.ar.s1,b.ar.fit,b.ar.mark,b.ar.cl,b.ar.lg⟩}
theorem TT(h:S5 C p s S)(hn:C.N<=64):∀(e k g:Nat),g+e=C.N->e<k->∃b,j6 K S M k (g:Int)=some b/\(b=true->∀j,g<=j->j<C.N->s.pc j= .halted)
 | e,k,g,he,hk=>by
  obtain⟨k,rfl⟩ :∃m,k=m+1:=⟨k-1,aB⟩;rw[j6];by_cases hg:g<C.N
  ·obtain⟨e,rfl⟩ :∃m,e=m+1:=⟨e-1,aB⟩;rw[aW (by rw[h.wl];omega),QO h hg,ay];by_cases ZK:(act S g).aG=13
   ·rw[aW (by simp[ZK]),CG aB];obtain⟨b,b1,b2⟩:=TT h hn e k (g+1) aB aB;refine⟨b,b1,λhb j hj hjN => ?_⟩;by_cases ej:j=g
    ·subst ej;exact abR (h.wk j hg).3 ZK
    ·exact b2 hb j aB hjN
   ·rw[cF (by simp[ZK])];exact⟨false,rfl,λhb=>by cases hb⟩
  ·rw[cF (by rw[h.wl];omega)];exact⟨true,rfl,λ_ j h1 h2=>aB⟩
theorem V6(h:S5 C p s S)(hn:C.N<=64)(hK:100<K)(v:ai) :∃b,pJ K S M v=some b/\(b=true->v.aL=11∨v.aL=10/\∀j,j<C.N->s.pc j= .halted):=by
 unfold pJ;by_cases h1:v.aL=11
 ·rw[aW h1];exact⟨true,rfl,λ_=>.inl h1⟩
 ·rw[cF h1];by_cases h2:v.aL=10
  ·rw[aW h2];obtain⟨b,b1,b2⟩:=TT (K:=K) (M:=M) h hn C.N K 0 aB aB;rw[pT]at b1;exact⟨b,b1,λhb=>.inr ⟨h2,λj hj=>b2 hb j aB hj⟩⟩
  ·rw[cF h2];exact⟨false,rfl,λhb=>by cases hb⟩
def EY(g i:Nat)(l:List ai):Option Am.Ev->List ai
 | none=>l
 | some e=>l++[⟨(g:Int),(i:Int),(e.kind:Int),e.ax,e.x,e.v⟩]
def Y4(C:Am.kT)(s:Am.St)(l:List ai):Prop:=∃l0 e,l=l0++[e]/\(e.aL=11∨e.aL=10/\∀j,j<C.N->s.pc j= .halted)
theorem N6{afu:Am.St->List ai->Nat->Prop}{sc:nc}(hK:2000000<K)(hp:sc.jk.length<=1048576)
 (hI:∀(s:Am.St) (S:ag) (M:af) (l:List ai) (g i:Nat) (d:Int),vL C p s S M sz g->afu s l g->i<C.N->g<sc.jk.length->iw (GX.J sc.jk g) (C.N:Int)=some (i:Int)->afu (Am.aJ C s i d).s (EY g i l (Am.aJ C s i d).ev) (g+1)) :
 ∀(e k g:Nat) (s:Am.St) (S:ag) (M:af) (D:aQ) (l:List ai),vL C p s S M sz g->afu s l g->l.length<=g->g+e=sc.jk.length->e<k->
 ∃M' l' s' g',mq K (C.N:Int) sc k M S D l (g:Int)=some (M',l')/\afu s' l' g'/\l'.length<=g'/\g'<=sc.jk.length/\M'.log.length<=2000000000/\(g'=sc.jk.length∨Y4 C s' l')
 | e,k,g,s,S,M,D,l,b,gU,hl,he,hk=>by
  obtain⟨k,rfl⟩ :∃m,k=m+1:=⟨k-1,aB⟩;have n64:=b.ok.n64;have n1:=b.ok.n1;have afd:=b.ar.lg;have Ho:=b.n;rw[mq];by_cases hg:g<sc.jk.length
  ·obtain⟨e,rfl⟩ :∃m,e=m+1:=⟨e-1,aB⟩;obtain⟨i,hm,hm',hin⟩:=V4 (x:=GX.J sc.jk g) (n:=(C.N:Int)) aB aB;have hi:i<C.N:=by omega
   have bw:=V5 b (i:Int);obtain⟨S',M',e1,e2,e3,e4⟩:=NZ (K:=K) (D:=D) bw hi aB;have b':=TE bw hi e2 e3 aB;have hII:=hI s S M l g i (Cz D) b gU hi hg hm';have ZL:=b'.ar.lg;have hn:=b'.n;rw[oU,aW ⟨aB,aB⟩,dc,hm,ay];unfold rK;rw[ay,e1,Ru];cases Kb:(Am.aJ C s i (Cz D)).ev with
   | none =>
    rw[Kb]at hII;rw[aW (show(Tb i none).aL=0 from rfl),CG aB];exact N6 hK hp hI e k (g+1) _ _ _ _ l b' hII aB aB aB
   | some x =>
    rw[Kb]at hII;have hx0:x.kind≠0:=Am.Tr.k0 (Am.FQ b.fi b.dt hi (Cz D)) x Kb;have hl':(l++[(⟨(g:Int),(i:Int),(x.kind:Int),x.ax,x.x,x.v⟩:ai)]).length=l.length+1:=by simp
    rw[cF (show ¬(Tb i (some x)).aL=0 from λh=>hx0 (by have h:(x.kind:Int)=0:=h;omega)),oU];obtain⟨bo,b1,b2⟩:=V6 (K:=K) (M:=M') b'.jT n64 aB {Tb i (some x)with At:=(g:Int)};rw[b1,ay];cases bo with
    | true =>
     rw[aW rfl];exact⟨_,_,_,g+1,rfl,hII,by rw[jP];show l.length+1<=g+1;omega,aB,aB,.inr ⟨l,_,rfl,b2 rfl⟩⟩
    | false =>
     rw[cF eL,CG aB];exact N6 hK hp hI e k (g+1) _ _ _ _ _ b' hII (by rw[jP];show l.length+1<=g+1;omega) aB aB
  ·rw[eG];exact⟨M,l,s,g,rfl,gU,hl,aB,aB,.inl aB⟩
end
theorem V7{p:aM}{args:List Int}{n e:Int}{lp:eM}{sc:nc}(hp:sc.jk.length<=1048576)(hd:sc.nR.length<=1048576)(r2:mW K p args n lp=some e)(he:e≠0):su K p args n lp sc=some ([],[],e):=by
 unfold su;rw[eG,eG,eT,r2,ay,cF he]
theorem V8{p:aM}{args:List Int}{N F f m:Nat}{lp:eM}{sc:nc}(hp:sc.jk.length<=1048576)(hd:sc.nR.length<=1048576)(hK:4000000<K)
 (hv:Valid p) (ha:(args.length:Int)=(GX.J p.ak 0).aV) (MC:1<=N) (Wh:N<=64) (hl:WV lp.cA lp.dS lp.jL) (hF:lp.cA=F) (hf:lp.dS=f) (hm:lp.jL=m) (r2:mW K p args N lp=some 0)
 {afu:Am.St->List ai->Nat->Prop} (h0:afu (init (cfg p N F f m) args) [] 0)
 (hI:∀(s:Am.St) (S:ag) (M:af) (sz:Nat) (l:List ai) (g i:Nat) (d:Int),vL (cfg p N F f m) p s S M sz g->afu s l g->i<N->g<sc.jk.length->iw (GX.J sc.jk g) (N:Int)=some (i:Int)->afu (Am.aJ (cfg p N F f m) s i d).s (EY g i l (Am.aJ (cfg p N F f m) s i d).ev) (g+1)) :
 ∃lg l' s' g',su K p args N lp sc=some (l',lg,0)/\afu s' l' g'/\l'.length<=g'/\g'<=sc.jk.length/\(g'=sc.jk.length∨Y4 (cfg p N F f m) s' l'):=by
 have f1:=hl.f1;have f2:=hl.f2;have a1:=hl.a1;have a2:=hl.a2;have m2:=hl.m2;obtain⟨afs,q1,q4,q5⟩:=Y3 (K:=K) (N:=N) (F:=F) (lp:=lp) (f:=f) (m:=m) hl hF hf hm MC Wh aB;obtain⟨sz,hsz⟩ :∃sz:Nat,sz=4+10*F+N+N*(4+f+tq f m afs):=⟨_,rfl⟩;rw[<-hsz]at q4 q5;have hNW:N*(4+f)<=N*(4+f+tq f m afs):=Nat.mul_le_mul_left _ aB;unfold su;rw[eG,eG,eT,r2,ay,aW rfl,q4,ay];unfold wz zj;rw[aW (show((sz:Nat):Int)>=0 by omega),tR (show((sz:Nat):Int)<=1048576 by omega),ay,aW rfl,fh]
 try dsimp only
 rw[aW rfl];obtain⟨n1,n2⟩:=Yp (K:=K) (sz:=sz) (a:=0) (w:=false) (N:=N) (F:=F) (W:=4+f) hv ha hl hF aB aB (by first | omega | (simp only;omega)) aB aB aB r2;obtain⟨cs,e1,e2,e3⟩:=n1 aB
 try dsimp only at e1 e2
 rw[show(⟨((sz:Nat):Int),0,([]:List Int),([]:List aR),0,false⟩:af)=ar sz [] [] 0 false from rfl,e1,dz]
 try dsimp only
 have hfe:((f:Nat):Int)=lp.dS:=hf.symm;have b:=TG (p:=p) (args:=args) (N:=N) (F:=F) (f:=f) (m:=m) (sz:=sz) (afs:=afs) (c:=cs) (l:=xl false [] (tG 0 N F lp.dS)) (w:=false) (x:=0) hv ha aB aB aB aB aB aB aB q1 hsz q5 (by rw[hfe];exact e3) rfl;rw[<-hm]at b;rw[aW rfl];unfold pC;rw[ay,oU];have b':=QS b true;rw[hm]at b';obtain⟨M',l',s',g',x1,x2,x3,x4,x5,x6⟩:=N6 (K:=K) (afu:=afu) (sc:=sc) aB hp (λs S M l g i d hb hi ZM hg Zd=>hI s S M sz l g i d hb hi ZM hg Zd) sc.jk.length K 0 _ _ _ ⟨sc.nR⟩ [] b' h0 (j9 _) aB aB;rw[pT]at x1;have x1:mq K (N:Int) sc K _ _ _ [] 0=some (M',l'):=x1;rw[hm,x1,fh,YQ x5,ay];exact⟨_,l',s',g',rfl,x2,x3,x4,x6⟩
end
section
variable {K:Nat}
structure Small(c:bO):Prop where
 f:c.bR.length<=1048576
 k:∀i,i<c.bR.length->(J c.bR i).aq.length<=1048576
 a:c.oH.length<=1048576
 p:c.dk.length<=1048576
 d:c.fD.length<=1048576
theorem tw2{c:bO}(h:Small c){n:Nat}(hn:n<c.bR.length):∀(d k i:Nat) (l:List cx),i+d=(J c.bR n).aq.length->d<k->l.length=i->j1 K c (n:Int) k l (i:Int)=some (l++(J c.bR n).aq.drop i)
 | d,k,i,l,hd,hk,hl=>by
  obtain⟨k,rfl⟩ :∃m,k=m+1:=⟨k-1,aB⟩;have:=h.k n hn;rw[j1,dc];by_cases hi:i<(J c.bR n).aq.length
  ·obtain⟨d,rfl⟩ :∃m,d=m+1:=⟨d-1,aB⟩;rw[oU,aW ⟨aB,aB⟩,oU,dc,CG aB,tw2 h hn d k (i+1) _ aB aB (by simp[hl]),xI hi,pS];rfl
  ·rw[eG,yt aB,zU]
theorem tw1{c:bO}(h:Small c)(hK:2000000<K):∀(d k i:Nat) (l:List aD),i+d=c.bR.length->d<k->l.length=i->j2 K c k l (i:Int)=some (l++c.bR.drop i)
 | d,k,i,l,hd,hk,hl=>by
  obtain⟨k,rfl⟩ :∃m,k=m+1:=⟨k-1,aB⟩;have:=h.f;rw[j2];by_cases hi:i<c.bR.length
  ·obtain⟨d,rfl⟩ :∃m,d=m+1:=⟨d-1,aB⟩;have:=h.k i hi;have e:=tw2 (K:=K) h hi (J c.bR i).aq.length K 0 [] aB aB rfl;rw[pT,zb,ni]at e;rw[oU,aW ⟨aB,aB⟩,e,ay,oU,ay,dc,CG aB,tw1 h hK d k (i+1) _ aB aB (by simp[hl]),xI hi,pS];rfl
  ·rw[eG,yt aB,zU]
theorem tw3{c:bO}(h:Small c):∀(d k i:Nat) (l:List Int),i+d=c.oH.length->d<k->l.length=i->j3 K c k l (i:Int)=some (l++c.oH.drop i)
 | d,k,i,l,hd,hk,hl=>by
  obtain⟨k,rfl⟩ :∃m,k=m+1:=⟨k-1,aB⟩;have:=h.a;rw[j3];by_cases hi:i<c.oH.length
  ·obtain⟨d,rfl⟩ :∃m,d=m+1:=⟨d-1,aB⟩;rw[oU,aW ⟨aB,aB⟩,oU,dc,CG aB,tw3 h d k (i+1) _ aB aB (by simp[hl]),xI hi,pS];rfl
  ·rw[eG,yt aB,zU]
theorem tw4{c:bO}(h:Small c):∀(d k i:Nat) (l:List Int),i+d=c.dk.length->d<k->l.length=i->j4 K c k l (i:Int)=some (l++c.dk.drop i)
 | d,k,i,l,hd,hk,hl=>by
  obtain⟨k,rfl⟩ :∃m,k=m+1:=⟨k-1,aB⟩;have:=h.p;rw[j4];by_cases hi:i<c.dk.length
  ·obtain⟨d,rfl⟩ :∃m,d=m+1:=⟨d-1,aB⟩;rw[oU,aW ⟨aB,aB⟩,oU,dc,CG aB,tw4 h d k (i+1) _ aB aB (by simp[hl]),xI hi,pS];rfl
  ·rw[eG,yt aB,zU]
theorem tw5{c:bO}(h:Small c)(f:List aD)(a p:List Int):∀(d k i:Nat) (l:List Int),i+d=c.fD.length->d<k->l.length=i->j5 K c f a p k l (i:Int)=some {c with bR:=f,oH:=a,dk:=p,fD:=l++c.fD.drop i}
 | d,k,i,l,hd,hk,hl=>by
  obtain⟨k,rfl⟩ :∃m,k=m+1:=⟨k-1,aB⟩;have:=h.d;rw[j5];by_cases hi:i<c.fD.length
  ·obtain⟨d,rfl⟩ :∃m,d=m+1:=⟨d-1,aB⟩;rw[oU,aW ⟨aB,aB⟩,oU,dc,CG aB,tw5 h f a p d k (i+1) _ aB aB (by simp[hl]),xI hi,pS];rfl
  ·rw[eG,yt aB,zU]
theorem V9{c:bO}(h:Small c)(hK:2000000<K):pI K c=some c:=by
 have h1:=h.f;have h2:=h.a;have h3:=h.p;have h4:=h.d;have e1:=tw1 (K:=K) h hK c.bR.length K 0 [] aB aB rfl;have e2:=tw3 (K:=K) h c.oH.length K 0 [] aB aB rfl;have e3:=tw4 (K:=K) h c.dk.length K 0 [] aB aB rfl;have e4:=tw5 (K:=K) h c.bR c.oH c.dk c.fD.length K 0 [] aB aB rfl;rw[pT,zb,ni]at e1 e2 e3 e4;unfold pI;rw[e1,ay,e2,ay,e3,ay,e4]
end
section
variable {K:Nat}
def Hj(e:ai):Am.Ev:=⟨e.aL.toNat,e.Frame,e.X,e.V⟩
def Q1(e:ai):Prop:=e.aL=1/\e.Frame=0
instance (e:ai):Decidable (Q1 e):=by unfold Q1;infer_instance
def Q2(l:List ai):Prop:=∀e∈l,¬Q1 e
def xM:List ai->Prop
 | []=>True
 | e::l=>if Q1 e then e.gV=0/\e.X=-1/\e.V=1 else xM l
theorem EZ{e:ai}:∀{l:List ai},xM l->(Q2 l->Q1 e->e.gV=0/\e.X=-1/\e.V=1)->xM (l++[e])
 | [],_,h=>by
  show if Q1 e then _ else True;split
  ·next h'=>exact h (λ_ hx=>by cases hx) h'
  ·trivial
 | x::l,h1,h2=>by
  have h1:if Q1 x then x.gV=0/\x.X=-1/\x.V=1 else xM l:=h1;show if Q1 x then _ else xM (l++[e]);split
  ·next h'=>rw[aW h']at h1;exact h1
  ·next h' =>
   rw[cF h']at h1;exact EZ h1 (λhn hs=>h2 (λy hy=>by
    rcases List.mem_cons.1 hy with rfl | hy
    ·exact h'
    ·exact hn y hy) hs)
structure Pre(C:Am.kT)(ps:List Int)(s:Am.St)(l:List ai)(g:Nat):Prop where
 q:Am.Q0 (Am.wv s)
 nf:∀e∈l,e.aL≠11
 pk:∀k,k<g->iw (GX.J ps k) (C.N:Int)≠some 0
structure Tl(C:Am.kT)(ps:List Int)(s:Am.St)(l:List ai)(g:Nat):Prop where
 pre:Q2 l->Pre C ps s l g
 first:xM l
theorem Q3{g i:Nat}{l:List ai}{o:Option Am.Ev}{e:ai}(h:e∈EY g i l o):e∈l∨∃x,o=some x/\e=⟨(g:Int),(i:Int),(x.kind:Int),x.ax,x.x,x.v⟩:=by
 cases o with
 | none=>exact .inl h
 | some x =>
  rcases List.mem_append.1 (show e∈l++[_]from h)with h | h
  ·exact .inl h
  ·exact .inr ⟨x,rfl,List.mem_singleton.1 h⟩
theorem Q4{g i:Nat}{l:List ai}{o:Option Am.Ev}{e:ai}(h:e∈l):e∈EY g i l o:=by
 cases o with
 | none=>exact h
 | some x=>exact List.mem_append.2 (.inl h)
theorem TU{p:Am.Pc}(h:Am.sig p= .start) :∃x,p= .start x:=by
 cases p<;>first | exact⟨_,rfl⟩ | cases h
theorem Tl.aJ{C:Am.kT}{p:aM}{ps:List Int}{s:Am.St}{S:ag}{M:af}{sz g i:Nat}{l:List ai}{d:Int}(b:vL C p s S M sz g)(t:Tl C ps s l g)(hi:i<C.N)(hm:iw (GX.J ps g) (C.N:Int)=some (i:Int)):Tl C ps (Am.aJ C s i d).s (EY g i l (Am.aJ C s i d).ev) (g+1):=by
 have tr:=Am.FQ b.fi b.dt hi d;have main:Q2 l->i=0->∃x,(Am.aJ C s i d).ev=some x/\x.kind=1/\x.ax=0/\x.x=-1:=by
  intro hn h0;subst h0;obtain⟨q1,q2,q3,q4⟩:=(t.pre hn).q;obtain⟨x,hx⟩:=TU (p:=s.pc 0) q1;have q2:Am.vt (s.pc 0)=-1:=q2;rw[hx]at q2;have q2:x=-1:=q2;have q3:s.hold 0=some 0:=q3;subst q2;refine⟨_,by unfold Am.aJ;rw[hx];rfl,rfl,?_,rfl⟩;show(((s.hold 0).getD 0:Nat):Int)=0;rw[q3];rfl
 have other:Q2 l->i≠0->Am.Q0 (Am.wv (Am.aJ C s i d).s)/\∀x,(Am.aJ C s i d).ev=some x->x.kind≠11/\x.kind≠1:=λhn h0=>(t.pre hn).q.aJ tr h0 hi b.fi;constructor
 ·intro hn;have hn':Q2 l:=λe he=>hn e (Q4 he);by_cases h0:i=0
  ·obtain⟨x,x1,x2,x3,x4⟩:=main hn' h0
   exfalso
   rw[x1]at hn;exact hn _ (List.mem_append.2 (.inr (List.mem_singleton.2 rfl))) ⟨by show(x.kind:Int)=1;rw[x2];rfl,x3⟩
  ·obtain⟨o1,o2⟩:=other hn' h0;refine⟨o1,λe he => ?_,λk hk => ?_⟩
   ·rcases Q3 he with he | ⟨x,hx,rfl⟩
    ·exact(t.pre hn').nf e he
    ·have:=(o2 x hx).1;show(x.kind:Int)≠11;omega
   ·by_cases ek:k=g
    ·subst ek;rw[hm];intro h;have:(i:Int)=0:=Option.some.inj h;omega
    ·exact(t.pre hn').pk k aB
 ·cases Kb:(Am.aJ C s i d).ev with
  | none=>exact t.first
  | some x =>
   refine EZ t.first λhn hs => ?_;have hk:x.kind=1:=by have:(x.kind:Int)=1:=hs.1;omega
   by_cases h0:i=0
   ·obtain⟨y,y1,y2,y3,y4⟩:=main hn h0;rw[Kb]at y1;cases y1;exact⟨by show(i:Int)=0;omega,y4,tr.v1 hi b.fi x Kb hk⟩
   ·exact absurd hk ((other hn h0).2 x Kb).2
theorem TV{r:List ai}(hb:r.length<=100000000):∀(e k g:Nat),g+e=r.length->e<k->xM (r.drop g)->(∃x∈r.drop g,Q1 x)->j7 K r k (g:Int)=some (r,true,true)
 | e,k,g,he,hk,h1,h2=>by
  obtain⟨k,rfl⟩ :∃m,k=m+1:=⟨k-1,aB⟩;rw[j7];by_cases hg:g<r.length
  ·obtain⟨e,rfl⟩ :∃m,e=m+1:=⟨e-1,aB⟩;rw[xI hg]at h1 h2;have h1:if Q1 (GX.J r g)then _ else xM (r.drop (g+1)):=h1;rw[oU,aW ⟨aB,aB⟩,dc];by_cases hs:Q1 (GX.J r g)
   ·rw[aW hs]at h1;obtain⟨a1,a2,a3⟩:=h1;rw[aW hs.1,ay,aW (by rw[hs.2];rfl),aW ⟨aB,aB⟩,aW a1,aW a2,a3];rfl
   ·rw[cF hs]at h1;have h2 :∃x∈r.drop (g+1),Q1 x:=by
     obtain⟨x,hx,hx'⟩:=h2;rcases List.mem_cons.1 hx with rfl | hx
     ·exact absurd hx' hs
     ·exact⟨x,hx,hx'⟩
    have ih:=TV hb e k (g+1) aB aB h1 h2;by_cases h1k:(GX.J r g).aL=1
    ·rw[aW h1k,ay,cF (by simp;exact λh=>hs ⟨h1k,h⟩),CG aB];exact ih
    ·rw[cF h1k,ay,cF eL,CG aB];exact ih
  ·obtain⟨x,hx,_⟩:=h2;rw[yt aB]at hx;cases hx
theorem PB{c:bO}(hp:c.dk.length<=1048576){N:Nat}(hN:c.aF=N)(h1:1<=N)(h64:N<=64):∀(e k g:Nat),g+e=c.dk.length->e<k->∃b,jJ K c k (g:Int)=some b/\(b=true->∃x,x<c.dk.length/\iw (GX.J c.dk x) (N:Int)=some 0)
 | e,k,g,he,hk=>by
  obtain⟨k,rfl⟩ :∃m,k=m+1:=⟨k-1,aB⟩;rw[jJ];by_cases hg:g<c.dk.length
  ·obtain⟨e,rfl⟩ :∃m,e=m+1:=⟨e-1,aB⟩;obtain⟨i,hm,hin⟩:=Pr (x:=GX.J c.dk g) (n:=(N:Int)) aB aB;rw[oU,aW ⟨aB,aB⟩,dc,hN,hm,ay];by_cases h0:(i:Int)=0
   ·rw[aW h0];exact⟨true,rfl,λ_=>⟨g,hg,by rw[hm,h0]⟩⟩
   ·rw[cF h0,CG aB];exact PB hp hN h1 h64 e k (g+1) aB aB
  ·rw[eG];exact⟨false,rfl,λh=>by cases h⟩
theorem Wa{C:Am.kT}{ps args:List Int}:Tl C ps (init C args) [] 0:=
 ⟨λ_=>⟨⟨rfl,rfl,rfl,rfl⟩,(λe h=>by cases h),(λk h=>absurd h (Nat.not_lt_zero _))⟩,bx⟩
theorem TW{c:bO}(h:Small c)(hK:4000000<K){afq:Am.kT->Am.St->List ai->Nat->Prop}(h0:∀(N F f m:Nat),Valid ⟨c.bR⟩->(cfg ⟨c.bR⟩ N F f m).OK->afq (cfg ⟨c.bR⟩ N F f m) (init (cfg ⟨c.bR⟩ N F f m) c.oH) [] 0)
 (hJ:∀(C:Am.kT) (p:aM) (s:Am.St) (S:ag) (M:af) (sz:Nat) (l:List ai) (g i:Nat) (d:Int),vL C p s S M sz g->afq C s l g->i<C.N->afq C (Am.aJ C s i d).s (EY g i l (Am.aJ C s i d).ev) (g+1)) :
 (∃r,kU K c=some (r,false,true))∨∃r C s g,kU K c=some (r,true,true)/\afq C s r g/\r.length<=1048576/\c.au=C.F/\1<=C.F/\C.F<=4096/\g<=c.dk.length/\Valid ⟨c.bR⟩/\(c.oH.length:Int)=(GX.J c.bR 0).aV/\C.OK/\(∃N F f m,C=cfg ⟨c.bR⟩ N F f m/\c.aF=N)/\(g=c.dk.length∨Y4 C s r)/\c.gq=C.most:=by
 unfold kU;rw[V9 h aB,ay];obtain⟨e,r1,r2,r3,r4⟩:=Qm (K:=K) ⟨c.bR⟩ c.oH c.aF ⟨c.au,c.fH,c.gq⟩ aB;have hp:=h.p;have hd:=h.d;have hr:nu K c=some e:=by
  unfold nu pK;rw[cF (by show ¬(((c.dk.length:Nat):Int)>1048576);omega),Iy (show ¬(((c.fD.length:Nat):Int)>1048576) by omega),ay,cF eL,r1,ay]
 by_cases he:e=0
 ·subst he;obtain⟨hv,ha,MC,Wh,hl⟩:=r4 rfl;obtain⟨N,hN⟩ :∃N:Nat,c.aF=N:=⟨c.aF.toNat,aB⟩;have f1:=hl.f1;have f2:=hl.f2;have a1:=hl.a1;have a2:=hl.a2;have m2:=hl.m2;simp only at f1 f2 a1 a2 m2;obtain⟨F,hF⟩ :∃F:Nat,c.au=F:=⟨c.au.toNat,aB⟩;obtain⟨f,hf⟩ :∃f:Nat,c.fH=f:=⟨c.fH.toNat,aB⟩;obtain⟨m,hm⟩ :∃m:Nat,c.gq=m:=⟨c.gq.toNat,aB⟩;rw[hN]at r2 MC Wh;have hC:=S2 (p:=⟨c.bR⟩) (N:=N) (F:=F) (f:=f) (m:=m) hv aB aB aB aB aB aB aB;obtain⟨lg,l',s',g',x1,x2,x3,x4,x5⟩:=V8 (K:=K) (p:=⟨c.bR⟩) (args:=c.oH) (N:=N) (F:=F) (f:=f) (m:=m) (lp:=⟨c.au,c.fH,c.gq⟩) (sc:=⟨c.dk,c.fD⟩) hp hd hK hv ha aB aB hl hF hf hm r2
   (afu:=λs l g=>afq (cfg ⟨c.bR⟩ N F f m) s l g/\Tl (cfg ⟨c.bR⟩ N F f m) c.dk s l g) ⟨h0 _ _ _ _ hv hC,Wa⟩
   (λs S M sz l g i d b hi ZM hg Zd=>⟨hJ _ _ s S M sz l g i d b hi.1 ZM,hi.2.aJ b ZM Zd⟩)
  rw[hN,x1,dz,hr,ay,aW rfl,aW rfl];unfold rj;obtain⟨b,b1,b2⟩:=PB (K:=K) (c:=c) hp hN aB aB c.dk.length K 0 aB aB;rw[pT]at b1;rw[b1,ay];have hp':g'<=c.dk.length:=x4
  right
  refine⟨l',_,s',g',?_,x2.1,aB,hF,by show 1<=F;omega,by show F<=4096;omega,hp',hv,ha,hC,⟨_,_,_,_,rfl,by first | exact hN | rfl⟩,x5,hm⟩;cases b with
  | false=>rw[cF eL]
  | true =>
   rw[aW rfl];have ht:=TV (K:=K) (r:=l') aB l'.length K 0 aB aB (by rw[ni];exact x2.2.first) (by
    rw[ni];by_cases hs :∃x∈l',Q1 x
    ·exact hs
    ·exfalso
     have hn:Q2 l':=λe he h=>hs ⟨e,he,h⟩;have pr:=x2.2.pre hn;rcases x5 with x5 | ⟨l0,e,rfl,x5⟩
     ·obtain⟨x,y1,y2⟩:=b2 rfl;exact pr.pk x (by have x5:g'=c.dk.length:=x5;omega) y2
     ·rcases x5 with x5 | ⟨_,x5⟩
      ·exact pr.nf e (List.mem_append.2 (.inr (List.mem_singleton.2 rfl))) x5
      ·have hh:=x5 0 (by show 0<N;omega);have q1:Am.sig (s'.pc 0)= .start:=pr.q.1;rw[hh]at q1;cases q1)
   rw[pT]at ht;exact ht
 ·left
  rw[V7 hp hd r2 he,dz,hr,ay,aW rfl,cF he];exact⟨_,rfl⟩
theorem Wb{c:bO}(h:Small c)(hK:4000000<K){afq:Am.kT->Am.St->List ai->Nat->Prop}(h0:∀(N F f m:Nat),Valid ⟨c.bR⟩->(cfg ⟨c.bR⟩ N F f m).OK->afq (cfg ⟨c.bR⟩ N F f m) (init (cfg ⟨c.bR⟩ N F f m) c.oH) [] 0)
 (hJ:∀(C:Am.kT) (p:aM) (s:Am.St) (S:ag) (M:af) (sz:Nat) (l:List ai) (g i:Nat) (d:Int),vL C p s S M sz g->afq C s l g->i<C.N->afq C (Am.aJ C s i d).s (EY g i l (Am.aJ C s i d).ev) (g+1)) :
 (∃r,kU K c=some (r,false,true))∨∃r C s g,kU K c=some (r,true,true)/\afq C s r g/\r.length<=1048576/\c.au=C.F/\1<=C.F/\C.F<=4096/\g<=c.dk.length/\Valid ⟨c.bR⟩/\(c.oH.length:Int)=(GX.J c.bR 0).aV/\C.OK/\∃N F f m,C=cfg ⟨c.bR⟩ N F f m/\c.aF=N:=by
 rcases TW h hK h0 hJ with e | ⟨r,C,s,g,x1,x2,x3,x4,x5,x6,x7,x8,x9,Ax,vX,_⟩
 ·exact .inl e
 ·exact .inr ⟨r,C,s,g,x1,x2,x3,x4,x5,x6,x7,x8,x9,Ax,vX⟩
end
end Mo
end
section
namespace Am
structure RG where
 b:Nat->Nat
 num:Nat->Nat
 last:Nat->Nat
def Xd(C:kT)(i:Nat)(g:RG)(e:Ev):Prop:=
 if e.kind=8 then 0<=e.x/\e.x<C.N/\e.x≠i/\g.b e.ax.toNat=e.x.toNat+1/\g.last e.x.toNat<g.num e.ax.toNat
 else if e.kind=1 then(e.x=-1/\(e.ax=0∨g.b e.ax.toNat=i+1))∨(0<=e.x/\g.b e.ax.toNat=e.x.toNat+1)
 else True
def PC(i t:Nat)(g:RG)(e:Ev):RG:=
 if e.kind=8 then {g with last:=dW g.last e.x.toNat (g.num e.ax.toNat)}
 else if e.kind=2 then {g with b:=dW g.b e.ax.toNat (i+1),num:=dW g.num e.ax.toNat (t+1)}
 else g
structure RI(C:kT)(w:W)(g:RG)(t:Nat):Prop where
 q:∀j x,j<C.N->x∈w.v.q j->g.b x=j+1/\g.last j<g.num x
 s:∀j,j<C.N->(w.v.q j).Pairwise (λa b=>g.num a<g.num b)
 n:∀x,g.num x<=t
 l:∀j,g.last j<=t
 p:∀i x,i<C.N->w.v.pop i=some x->g.b x=i+1
 f:∀i f,i<C.N->w.v.g i= .start->w.v.hold i=some f->(w.fx i=-1/\(f=0∨g.b f=i+1))∨(0<=w.fx i/\g.b f=(w.fx i).toNat+1)
section
variable {C:kT}{w:W}{i t:Nat}{g:RG}
theorem RI.mono{t':Nat}(r:RI C w g t)(h:t<=t'):RI C w g t':=⟨r.q,r.s,λx=>E1 (r.n x) h,λx=>E1 (r.l x) h,r.p,r.f⟩
theorem RI.of{w':W}(r:RI C w g t)(h1:w'.v.q=w.v.q)(h2:w'.v.pop=w.v.pop)
 (hf:∀j,j<C.N->w'.v.g j= .start->w.v.g j= .start/\w'.v.hold j=w.v.hold j/\w'.fx j=w.fx j):RI C w' g t:=
 ⟨by rw[h1];exact r.q,by rw[h1];exact r.s,r.n,r.l,by rw[h2];exact r.p,λj f hj hg hh=>by
  obtain⟨a,b,c⟩:=hf j hj hg;rw[c];exact r.f j f hj a (b▸ hh)⟩
theorem RI.mv{w':W}(r:RI C w g t)(h1:w'.v.q=w.v.q)(h2:w'.v.pop=w.v.pop)
 (hf:∀j,j<C.N->w'.v.g j= .start->w.v.g j= .start/\w'.v.hold j=w.v.hold j/\w'.fx j=w.fx j):RI C w' g (t+1):=(r.of h1 h2 hf).mono (Nat.le_succ t)
theorem RI.push(r:RI C w g t)(h:w.v.FI C.N C.F)(hi:i<C.N){c:Nat}(hg:w.v.g i= .push c) :
 RI C {w with v:={w.v with g:=dW w.v.g i .run,q:=dW w.v.q i (w.v.q i++[c]),loc:=dW w.v.loc c (.SR i)}} {g with b:=dW g.b c (i+1),num:=dW g.num c (t+1)} (t+1) where
 q:=by have z0:=r.q;have z1:=r.l;have z2:=h.ps i c hi hg;have:=h.q;grind
 s:=λj hj=>by
  have z0:=r.s j hj;have z2:=h.ps i c hi hg;have z3:=h.q j;have z4:=r.n;have z5:(w.v.q j).Pairwise (λa b=>dW g.num c (t+1) a<dW g.num c (t+1) b):=by
   refine z0.imp_of_mem λ{a b} ha hb hab => ?_;have ea:a≠c:=by intro e;have:=(z3 a hj ha).2;rw[e,z2.2.1]at this;cases this
   have eb:b≠c:=by intro e;have:=(z3 b hj hb).2;rw[e,z2.2.1]at this;cases this
   rw[bA ea,bA eb];exact hab
  show(dW w.v.q i (w.v.q i++[c]) j).Pairwise _;by_cases e:j=i
  ·subst e;rw[bK,List.pairwise_append];refine⟨z5,List.pairwise_singleton _ _,λa ha b hb => ?_⟩;rw[List.mem_singleton.1 hb];show dW g.num c (t+1) a<dW g.num c (t+1) c;rw[bK];have ea:a≠c:=by intro e;have:=(z3 a hj ha).2;rw[e,z2.2.1]at this;cases this
   rw[bA ea];exact Nat.lt_succ_of_le (z4 a)
  ·rw[bA e];exact z5
 n:=by have z0:=r.n;grind
 l:=by have z0:=r.l;grind
 p:=by have z0:=r.p;have z2:=h.ps i c hi hg;have:=h.pop;grind
 f:=by have z0:=r.f;have z2:=h.ps i c hi hg;have:=h.hold;grind
theorem RI.aJ{w':W}{e:Option Ev}(tr:Tr C i w e w')(hi:i<C.N)(h:w.v.FI C.N C.F)(r:RI C w g t):match e with
 | none=>RI C w' g t
 | some e=>Xd C i g e/\RI C w' (PC i t g e) (t+1):=by
 cases tr with
 | gF e he =>
  cases e with
  | none=>exact r
  | some x =>
   have:x.kind≠1/\x.kind≠2/\x.kind≠8:=by
    simp only[quiet,yw,wE]at he;omega
   obtain⟨a1,a2,a3⟩:=this;simp only[Xd,PC,cF a1,cF a2,cF a3];exact⟨trivial,r.mono aB⟩
 | full c hg=>exact⟨trivial,show RI C _ g (t+1)from r.mv rfl rfl (by intro j hj;grind)⟩
 | start f hg hf =>
  refine⟨?_,show RI C _ g (t+1)from r.mv rfl rfl (by intro j hj;grind)⟩;have:=r.f i f hi hg hf;show(w.fx i=-1/\((f:Int)=0∨g.b f=i+1))∨_;rcases this with ⟨a,b | b⟩ | a
  ·exact .inl ⟨a,.inl (by rw[b];rfl)⟩
  ·exact .inl ⟨a,.inr b⟩
  ·exact .inr a
 | spawn f hg hf hn=>exact r.of rfl rfl (by intro j hj;grind)
 | zI hg hn=>exact⟨trivial,show RI C _ g (t+1)from r.mv rfl rfl (by intro j hj;grind)⟩
 | fork c f hg hf=>exact r.of rfl rfl (by intro j hj;grind)
 | push c f hg hf=>exact⟨trivial,r.push h hi hg⟩
 | wait f hg hf hk=>exact⟨trivial,show RI C _ g (t+1)from r.mv rfl rfl (by intro j hj;grind)⟩
 | pass f hg hf hk=>exact r.of rfl rfl (by intro j hj;grind)
 | one f hg hf=>exact⟨trivial,show RI C _ g (t+1)from r.mv rfl rfl (by intro j hj;grind)⟩
 | Iq v hg hf=>exact⟨trivial,show RI C _ g (t+1)from r.mv rfl rfl (by intro j hj;grind)⟩
 | ret f v hg hf h0=>exact⟨trivial,show RI C _ g (t+1)from r.mv rfl rfl (by intro j hj;grind)⟩
 | L2 p c hg hn=>exact r.of rfl rfl (by intro j hj;grind)
 | L4 p c hg hn=>exact r.of rfl rfl (by intro j hj;grind)
 | take p c hg=>exact⟨trivial,show RI C _ g (t+1)from r.mv rfl rfl (by intro j hj;grind)⟩
 | mZ x l hg hq =>
  have z0:=r.q;have z1:=r.s;have z2:=r.p;have z3:=r.f;refine⟨by grind,λj hj => ?_,r.n,r.l,by grind,by grind⟩;show(dW w.v.q i l j).Pairwise _;by_cases e:j=i
  ·subst e;rw[bK];have:=z1 j hj;rw[hq,List.pairwise_append]at this;exact this.1
  ·rw[bA e];exact z1 j hj
 | L5 x hg hq =>
  have z0:=r.q;have z1:=r.s;have z2:=r.p;have z3:=r.f;refine⟨by grind,λj hj => ?_,r.n,r.l,by grind,by grind⟩;show(dW w.v.q i [] j).Pairwise _;by_cases e:j=i
  ·subst e;rw[bK];exact List.Pairwise.nil
  ·rw[bA e];exact z1 j hj
 | got x hg hx =>
  have z2:=r.p;have z3:=r.f;exact⟨r.q,r.s,r.n,r.l,by grind,by grind⟩
 | DD k x l hk ID hg hx =>
  have z0:=r.q;have z1:=r.s;have z2:=r.p;have z3:=r.f;have z4:=r.n;have z5:=r.l;have y:=r.q k x hk (by rw[hx];simp);refine⟨⟨by show(0:Int)<=k;omega,by show(k:Int)<C.N;omega,by show(k:Int)≠i;omega,y.1,y.2⟩,?_,?_,?_,?_,z2,?_⟩
  ·intro j a hj ha;have ha:a∈dW w.v.q k l j:=ha;show g.b a=j+1/\dW g.last k (g.num x) j<g.num a;by_cases e:j=k
   ·subst e;rw[bK]at ha;rw[bK];have:=z1 j hj;rw[hx,List.pairwise_cons]at this;exact⟨(z0 j a hj (by rw[hx];exact Ku _ ha)).1,this.1 a ha⟩
   ·rw[bA e]at ha;rw[bA e];exact z0 j a hj ha
  ·intro j hj;show(dW w.v.q k l j).Pairwise _;by_cases e:j=k
   ·subst e;rw[bK];have:=z1 j hj;rw[hx,List.pairwise_cons]at this;exact this.2
   ·rw[bA e];exact z1 j hj
  ·intro a;show g.num a<=t+1;exact Kv (z4 a)
  ·intro a;show dW g.last (k:Int).toNat (g.num x) a<=t+1;rw[fC];split
   ·exact Kv (z4 x)
   ·exact Kv (z5 a)
  ·intro j f hj Un hh;have Un:dW w.v.g i .start j= .start:=Un;have hh:dW w.v.hold i (some x) j=some f:=hh;show(dW w.fx i (k:Int) j=-1/\(f=0∨g.b f=j+1))∨(0<=dW w.fx i (k:Int) j/\g.b f=(dW w.fx i (k:Int) j).toNat+1);by_cases e:j=i
   ·subst e;rw[bK]at hh;rw[bK];cases hh;exact .inr ⟨aB,y.1⟩
   ·rw[bA e]at Un hh;rw[bA e];exact z3 j f hj Un hh
theorem RI.acf{w':W}{e:Option Ev}(tr:Tr C i w e w')(hi:i<C.N)(h:w.v.FI C.N C.F)(r:RI C w g t):(e=none->RI C w' g t)/\∀x,e=some x->Xd C i g x/\RI C w' (PC i t g x) (t+1):=by
 have:=RI.aJ tr hi h r;cases e with
 | none=>exact⟨λ_=>this,λx h=>(by cases h)⟩
 | some x=>exact⟨λh=>(by cases h),λy hy=>(by cases hy;exact this)⟩
end
end Am
end
section
namespace Mo
open Go Go.RowKit SL GX
noncomputable section
variable {z w:World}{L:List bj}
theorem wj(H:lq K O=some r0)(h:jh z (L) w)(fU:BN L cH eX O.bR)(nQ:bL L 1 ck dB O.oH)(iJ:bL L 1 ck bz O.dk)(jF:bL L 1 ck bH O.fD)(LS:bL L 1 Gc (some ⟨0,0,none⟩) OC)(uu:bL L 5 gJ (some ⟨1,0,none⟩) w6) :
 nV 10 #[oP #[aY cH O.bR.length cZ,aY dB O.oH.length eD,Z O.aF,Z O.au,Z O.fH,Z O.gq,aY bz O.dk.length bS,aY bH O.fD.length cg]] w z (R r0) (L):=by
 unfold lq at H;refine ke func10 189 rfl λj=>ks<|kN h (#[aY cH O.bR.length cZ,aY dB O.oH.length eD,Z O.aF,Z O.au,Z O.fH,Z O.gq,aY bz O.dk.length bS,aY bH O.fD.length cg]) 32 λb1 w h=>bT<|I<|ks<|kM h<|tH H λr2 r3 r4 e5 H=>Wr (Bx (cH:=cH) (cZ:=cZ) (fU:=(ym.up 1 fU)) (dB:=dB) (eD:=eD) (nQ:=(bL.up 1 nQ)) (bz:=bz) (bS:=bS) (iJ:=(bL.up 1 iJ)) (bH:=bH) (cg:=cg) (jF:=(bL.up 1 jF)) (LS:=bL.up 1 LS) (uu:=bL.up 1 uu) (eX:=eX) e5 h :) λx6 x7 w h=>ko [.tuple #[aY x6 r2.length x7,R r3,R r4],U,U,U,U,U,U]<|I<|?_;obtain⟨o9,H,K9⟩:=CZ H;refine λ_ r=>cY (β:=Unit) (λ_ a w=>.inl ()=o9/\∃j,kH 189 (lk [(1,u b1 0),(3,aY x6 r2.length x7)] j) a/\Fit z (aC (xO b1 O cH cZ dB eD bz bS bH cg::Ca x6 x7 r2::L)) w) ?_ ?_
 ·refine qq r<|aN [U,R (!r4),R (!r4)]<|qI H (λoh H=>?_) λoh H=>?_
  ·refine cR (nT oh) [21,22] [R r3,R (!r3)]<|nv (nT oh) (R (!r3))<|I<|D5 H (λuR H=>?_) λuR H=>?_
   ·refine gD<|?_;exact λ_ r=>⟨(),gA H,r.fj (h.se 2 [1,0])⟩
   refine aN dx<|cB<|tr<|λ_ r=>oa (R r4) rfl r<|?_;replace H:=tg H K9;cases H;exact⟨rfl,h.se 2 []⟩
  refine bU (nF oh) [21,22]<|ny (nF oh) (R true)<|I<|λ_ r=>dX r (b:=true) rfl<|qq r<|aN dx<|cB<|tr<|λ_ r=>oa (R r4) rfl r<|?_;replace H:=tg H K9;cases H;exact⟨rfl,h.se 2 []⟩
 clear h r;rintro _ a w ⟨rfl,j,r,h⟩;replace H:=C0 K9;refine qq r<|aN dx<|kL h 3<|qg H λCD H=>λ_ r=>n3 (i:=O.au) (bytes:=8) (zc:=#[Z 0]) (0:Int) (wn rfl) rfl rfl r rfl aK aK CD aE (E:=3) aK aK rfl rfl h λiA w _ h r=>qq r<|bT<|I<|aN dx<|kL (h.pick 1) 3<|λ_ r=>n3 (i:=O.au) (bytes:=8) (zc:=#[Z 0]) (0:Int) (wn rfl) rfl rfl r rfl aK aK CD aE (E:=3) aK aK rfl rfl h λq7 w _ h r=>qq r<|bT<|I<|aN [U]<|kL (h.pick 2) 2<|qg H λpL H=>λ_ r=>n3 (i:=O.aF) (bytes:=8) (zc:=#[Z 0]) (0:Int) (wn rfl) rfl rfl r rfl aK aK pL aE (E:=3) aK aK rfl rfl h λtI w _ h r=>qq r<|bT<|I<|wq<|gS<|wb<|λ_ r=>dQ (β:=Nat) id (λm a w=>∃kF:List Int,∃rq:List Int,∃tM:List Int,∃aP:Int,(bG K O r2 m kF rq tM aP)=some r0/\∃j,kH 189 (lk [(1,u b1 0),(3,aY x6 r2.length x7),(6,aY iA (List.replicate O.au.toNat (0:Int)).length O.au.toNat),(7,aY q7 (List.replicate O.au.toNat (0:Int)).length O.au.toNat),(8,aY tI (List.replicate O.aF.toNat (0:Int)).length O.aF.toNat),(9,Z aP)] j) a/\Fit z (aC (xO b1 O cH cZ dB eD bz bS bH cg::Ca x6 x7 r2::rowOf 3 1 ck (aY iA (List.replicate O.au.toNat (0:Int)).length O.au.toNat) kF::rowOf 3 1 ck (aY q7 (List.replicate O.au.toNat (0:Int)).length O.au.toNat) rq::rowOf 3 1 ck (aY tI (List.replicate O.aF.toNat (0:Int)).length O.aF.toNat) tM::L)) w) K ⟨(List.replicate O.au.toNat (0:Int)),(List.replicate O.au.toNat (0:Int)),(List.replicate O.aF.toNat (0:Int)),0,H,r.fj (h.se 5 [3,4,2,1,0])⟩<|?_;clear h r H;rintro k1 a w ⟨kF,rq,tM,aP,H,j,r,h⟩;cases k1 with
 | zero=>exact absurd H (by simp[bG])
 | succ k1 =>
  rw[bG]at H;refine qq r<|wq<|aN [U,U,Z ((r2.length:Nat):Int),cJ (aP<((r2.length:Nat):Int))]<|I<|ez H (λsj H=>?_) λsj H=>?_
  ·refine gD<|wq<|wb<|ks<|qg H λDg H=>ko dx<|ki (h.pick 1) Dg<|xx (eu (J r2 aP.toNat)) (cs:=dI (J r2 aP.toNat)) ⟨(h.pick 1).bE eU (f:=0) (aS Dg) rfl,(h.pick 1).bE eU (f:=1) (aS Dg) rfl,(h.pick 1).bE eU (f:=2) (aS Dg) rfl,(h.pick 1).bE eU (f:=3) (aS Dg) rfl,(h.pick 1).bE eU (f:=4) (aS Dg) rfl,(h.pick 1).bE eU (f:=5) (aS Dg) rfl,bx⟩<|?_;refine kN h (gi) 47 λfY w h=>kA h (fu fY (J r2 aP.toNat)) λw h=>I<|wq<|aN [U]<|kL h 2<|ko [R ((J r2 aP.toNat).aL != 2),R ((J r2 aP.toNat).aL != 2)]<|qI H (λxU H=>?_) λxU H=>?_
   ·refine bU (bne_eq_false_iff_eq.mpr xU) [50,51,52]<|nv (bne_eq_false_iff_eq.mpr xU) (R false)<|bT<|bU (rfl:false=false) [55,56,57]<|bT<|I<|λ_ r=>iT r (b:=false) rfl<|qq r<|gD<|?_;obtain⟨o26,H,TX⟩:=CZ H;refine λ_ r=>cY (β:=Unit) (λ_ a w=>.inl ()=o26/\∃j,kH 189 (lk [(1,u b1 0),(3,aY x6 r2.length x7),(6,aY iA (List.replicate O.au.toNat (0:Int)).length O.au.toNat),(7,aY q7 (List.replicate O.au.toNat (0:Int)).length O.au.toNat),(8,aY tI (List.replicate O.aF.toNat (0:Int)).length O.aF.toNat),(9,Z aP),(10,u fY 0)] j) a/\Fit z (aC (xO b1 O cH cZ dB eD bz bS bH cg::Ca x6 x7 r2::rowOf 3 1 ck (aY iA (List.replicate O.au.toNat (0:Int)).length O.au.toNat) kF::rowOf 3 1 ck (aY q7 (List.replicate O.au.toNat (0:Int)).length O.au.toNat) rq::rowOf 3 1 ck (aY tI (List.replicate O.aF.toNat (0:Int)).length O.aF.toNat) tM::fu fY (J r2 aP.toNat)::L)) w) ?_ ?_
    ·refine qq r<|aN [U]<|kL h 3<|ko [cJ ((J r2 aP.toNat).Frame<0),cJ ((J r2 aP.toNat).Frame<0)]<|qI H (λqc H=>?_) λqc H=>?_
     ·refine bU (dT qc) [63,64,65,66,67]<|ny (dT qc) (R true)<|bT<|bU (rfl:true=true) [70,71,72]<|ko dx<|bU (rfl:true=true) [75,76,77,78,79]<|bT<|I<|λ_ r=>dX r (b:=true) rfl<|qq r<|gS<|wr<|tr<|br<|tr<|tr<|br<|tr<|λ_ r=>oa (R false) rfl r<|?_;replace H:=tg H TX;cases H;exact⟨rfl,h.se 6 []⟩
     refine cR (dF qc) [63] [u fY 3]<|sv (dF qc) h 3<|cR (dF qc) [65,66,67] [aY iA (List.replicate O.au.toNat (0:Int)).length O.au.toNat,Z (((List.replicate O.au.toNat (0:Int)).length:Nat):Int),cJ ((J r2 aP.toNat).Frame>=(((List.replicate O.au.toNat (0:Int)).length:Nat):Int))]<|nv (dF qc) (cJ ((J r2 aP.toNat).Frame>=(((List.replicate O.au.toNat (0:Int)).length:Nat):Int)))<|ko [cJ ((J r2 aP.toNat).Frame>=(((List.replicate O.au.toNat (0:Int)).length:Nat):Int))]<|qI H (λzp H=>?_) λzp H=>?_
     ·refine bU (dT zp) [70,71,72]<|ny (dT zp) (R true)<|bT<|bU (rfl:true=true) [75,76,77,78,79]<|bT<|I<|λ_ r=>dX r (b:=true) rfl<|qq r<|gS<|wr<|tr<|br<|tr<|tr<|br<|tr<|λ_ r=>oa (R false) rfl r<|?_;replace H:=tg H TX;cases H;exact⟨rfl,h.se 6 []⟩
     refine cR (dF zp) [70] [u fY 1]<|sv (dF zp) h 1<|cR (dF zp) [72] [cJ ((J r2 aP.toNat).gV<0)]<|nv (dF zp) (cJ ((J r2 aP.toNat).gV<0))<|ko [cJ ((J r2 aP.toNat).gV<0)]<|qI H (λyZ H=>?_) λyZ H=>?_
     ·refine bU (dT yZ) [75,76,77,78,79]<|ny (dT yZ) (R true)<|I<|λ_ r=>dX r (b:=true) rfl<|qq r<|gS<|wr<|tr<|br<|tr<|tr<|br<|tr<|λ_ r=>oa (R false) rfl r<|?_;replace H:=tg H TX;cases H;exact⟨rfl,h.se 6 []⟩
     refine cR (dF yZ) [75] [u fY 1]<|sv (dF yZ) h 1<|cR (dF yZ) [77] [u b1 2]<|sv (dF yZ) (h.pick 1) 2<|cR (dF yZ) [79] [cJ ((J r2 aP.toNat).gV>=O.aF)]<|nv (dF yZ) (cJ ((J r2 aP.toNat).gV>=O.aF))<|I<|ez H (λur H=>?_) λur H=>?_
     ·refine gS<|wr<|tr<|br<|tr<|tr<|br<|tr<|λ_ r=>oa (R false) rfl r<|?_;replace H:=tg H TX;cases H;exact⟨rfl,h.se 6 []⟩
     refine gD<|?_;exact λ_ r=>⟨(),gA H,r.fj (h.se 6 [1,2,3,4,5,0])⟩
    clear h r;rintro _ a w ⟨rfl,j,r,h⟩;replace H:=C0 TX;refine qq r<|aN [U]<|kL (h.pick 5) 2<|I<|wb<|aN [R ((J r2 aP.toNat).aL==2),R ((J r2 aP.toNat).aL==2)]<|I<|ez H (λvx H=>?_) λvx H=>?_
    ·refine aN dx<|kL (h.pick 5) 3<|bT<|kL (h.pick 5) 1<|qg H λEV H=>ko [Z (wi ((J r2 aP.toNat).gV+1))]<|ki (h.pick 2) EV<|qh h.m2 λh=>λ_ r=>BM (wn rfl) r aE h (J r2 aP.toNat).Frame.toNat 0 (Z (wi ((J r2 aP.toNat).gV+1))) (J kF (J r2 aP.toNat).Frame.toNat) (wi ((J r2 aP.toNat).gV+1)) (aS EV) λw h=>qq r<|I<|wl<|ko dx<|kL (h.pick 5) 3<|qg H λAz H=>ko [U,Z (wi (aP+1))]<|ki (h.pick 3) Az<|qh h.m3 λh=>λ_ r=>BM (wn rfl) r aE h (J r2 aP.toNat).Frame.toNat 0 (Z (wi (aP+1))) (J rq (J r2 aP.toNat).Frame.toNat) (wi (aP+1)) (aS Az) λw h=>qq r<|kl<|bn<|bn<|tn<|wl<|ko [U,Z (wi (aP+1)),Z (wi (aP+1))]<|I<|?_;exact λ_ r=>⟨_,⟨(kF.set (J r2 aP.toNat).Frame.toNat (wi ((J r2 aP.toNat).gV+1))),(rq.set (J r2 aP.toNat).Frame.toNat (wi (aP+1))),tM,(wi (aP+1)),H,r.fj (h.se 6 [2,3,1,0,4])⟩,gQ _⟩
    refine aN [R ((J r2 aP.toNat).aL==8),R ((J r2 aP.toNat).aL==8)]<|I<|ez H (λDh H=>?_) λDh H=>?_
    ·refine wq<|wq<|qI H (λvD H=>?_) λvD H=>?_
     ·refine lC [(fY,4,[Z (J r2 aP.toNat).X])] [0] 41 h (λh=>⟨⟨(h.pick 5).cell 4 rfl,bx⟩,bx⟩) λw h hd =>iy hd 40 [(0,100,u fY 4)]<|fg hd 0 39 1 rfl<|ju hd 37 100 [([2,3],cJ ((J r2 aP.toNat).X<0))]<|λ_ r=>eof hd 36 4 rfl (aX r (dT vD)) r<|?_;refine λ_ r=>eof hd 35 6 rfl (aX r (dT vD)) r<|?_;refine λ_ r=>eof hd 34 5 rfl (aX r (dT vD)) r<|?_;refine λ_ r=>eof hd 33 7 rfl (aX r (dT vD)) r<|?_;refine λ_ r=>eof hd 32 8 rfl (aX r (dT vD)) r<|?_;refine jl hd 31 9 rfl (R true) (λw=>qX (b:=(decide ((J r2 aP.toNat).X<0))) rfl aK (dT vD) aK)<|iy hd 30 [(10,110,R true)]<|λ_ r=>eof hd 29 11 rfl (aX r (c:=true) rfl) r<|?_;refine λ_ r=>eof hd 28 13 rfl (aX r (c:=true) rfl) r<|?_;refine λ_ r=>eof hd 27 12 rfl (aX r (c:=true) rfl) r<|?_;refine λ_ r=>eof hd 26 14 rfl (aX r (c:=true) rfl) r<|?_;refine λ_ r=>eof hd 25 15 rfl (aX r (c:=true) rfl) r<|?_;refine ju hd 23 100 [([16,17],R true)]<|λ_ r=>eof hd 22 18 rfl (aX r (c:=true) rfl) r<|?_;refine λ_ r=>eof hd 21 19 rfl (aX r (c:=true) rfl) r<|?_;refine λ_ r=>eof hd 20 23 rfl (aX r (c:=true) rfl) r<|?_;refine λ_ r=>eof hd 19 20 rfl (aX r (c:=true) rfl) r<|?_;refine λ_ r=>eof hd 18 21 rfl (aX r (c:=true) rfl) r<|?_;refine λ_ r=>eof hd 17 22 rfl (aX r (c:=true) rfl) r<|?_;refine λ_ r=>eof hd 16 24 rfl (aX r (c:=true) rfl) r<|?_;refine λ_ r=>eof hd 15 25 rfl (aX r (c:=true) rfl) r<|?_;refine λ_ r=>eof hd 14 26 rfl (aX r (c:=true) rfl) r<|?_;refine ju hd 12 100 [([27,28],R true)]<|λ_ r=>eof hd 11 29 rfl (aX r (c:=true) rfl) r<|?_;refine λ_ r=>eof hd 10 30 rfl (aX r (c:=true) rfl) r<|?_;refine λ_ r=>eof hd 9 34 rfl (aX r (c:=true) rfl) r<|?_;refine λ_ r=>eof hd 8 35 rfl (aX r (c:=true) rfl) r<|?_;refine λ_ r=>eof hd 7 31 rfl (aX r (c:=true) rfl) r<|?_;refine λ_ r=>eof hd 6 32 rfl (aX r (c:=true) rfl) r<|?_;refine λ_ r=>eof hd 5 33 rfl (aX r (c:=true) rfl) r<|?_;refine λ_ r=>eof hd 4 36 rfl (aX r (c:=true) rfl) r<|?_;refine λ_ r=>eof hd 3 37 rfl (aX r (c:=true) rfl) r<|?_;refine λ_ r=>eof hd 2 38 rfl (aX r (c:=true) rfl) r<|?_;refine λ_ r=>eof hd 1 39 rfl (aX r (c:=true) rfl) r<|?_;refine iy hd 0 [(40,140,R true)]<|kI<|tn<|λ_ r=>dX r (b:=true) rfl<|qq r<|gS<|wr<|tr<|br<|br<|tr<|tr<|br<|tr<|?_;cases H;exact gC (h.se 6 [])
     refine qI H (λyo H=>?_) λyo H=>?_
     ·refine lC [(fY,4,[Z (J r2 aP.toNat).X]),(fY,4,[Z (J r2 aP.toNat).X]),(b1,2,[Z O.aF])] [0,2,4,6] 41 h (λh=>⟨⟨(h.pick 5).cell 4 rfl,bx⟩,⟨(h.pick 5).cell 4 rfl,bx⟩,⟨h.cell 2 rfl,bx⟩,bx⟩) λw h hd =>iy hd 40 [(0,100,u fY 4)]<|fg hd 0 39 1 rfl<|ju hd 37 100 [([2,3],cJ ((J r2 aP.toNat).X<0))]<|λ_ r=>fV hd 36 4 rfl (aX r (dF vD)) r (u fY 4)<|?_;refine λ_ r=>fV hd 35 6 rfl (aX r (dF vD)) r (u b1 2)<|?_;refine λ_ r=>mT hd 1 34 5 r (aX r (dF vD)) rfl rfl<|?_;refine λ_ r=>mT hd 2 33 7 r (aX r (dF vD)) rfl rfl<|?_;refine λ_ r=>fV hd 32 8 rfl (aX r (dF vD)) r (cJ ((J r2 aP.toNat).X>=O.aF))<|?_;refine jl hd 31 9 rfl (cJ ((J r2 aP.toNat).X>=O.aF)) (λw=>nI (b:=(decide ((J r2 aP.toNat).X<0))) rfl aK (dF vD) aK)<|iy hd 30 [(10,110,cJ ((J r2 aP.toNat).X>=O.aF))]<|λ_ r=>eof hd 29 11 rfl (aX r (dT yo)) r<|?_;refine λ_ r=>eof hd 28 13 rfl (aX r (dT yo)) r<|?_;refine λ_ r=>eof hd 27 12 rfl (aX r (dT yo)) r<|?_;refine λ_ r=>eof hd 26 14 rfl (aX r (dT yo)) r<|?_;refine λ_ r=>eof hd 25 15 rfl (aX r (dT yo)) r<|?_;refine jl hd 24 16 rfl (R true) (λw=>qX (b:=(decide ((J r2 aP.toNat).X>=O.aF))) rfl aK (dT yo) aK)<|iy hd 23 [(17,117,R true)]<|λ_ r=>eof hd 22 18 rfl (aX r (c:=true) rfl) r<|?_;refine λ_ r=>eof hd 21 19 rfl (aX r (c:=true) rfl) r<|?_;refine λ_ r=>eof hd 20 23 rfl (aX r (c:=true) rfl) r<|?_;refine λ_ r=>eof hd 19 20 rfl (aX r (c:=true) rfl) r<|?_;refine λ_ r=>eof hd 18 21 rfl (aX r (c:=true) rfl) r<|?_;refine λ_ r=>eof hd 17 22 rfl (aX r (c:=true) rfl) r<|?_;refine λ_ r=>eof hd 16 24 rfl (aX r (c:=true) rfl) r<|?_;refine λ_ r=>eof hd 15 25 rfl (aX r (c:=true) rfl) r<|?_;refine λ_ r=>eof hd 14 26 rfl (aX r (c:=true) rfl) r<|?_;refine ju hd 12 100 [([27,28],R true)]<|λ_ r=>eof hd 11 29 rfl (aX r (c:=true) rfl) r<|?_;refine λ_ r=>eof hd 10 30 rfl (aX r (c:=true) rfl) r<|?_;refine λ_ r=>eof hd 9 34 rfl (aX r (c:=true) rfl) r<|?_;refine λ_ r=>eof hd 8 35 rfl (aX r (c:=true) rfl) r<|?_;refine λ_ r=>eof hd 7 31 rfl (aX r (c:=true) rfl) r<|?_;refine λ_ r=>eof hd 6 32 rfl (aX r (c:=true) rfl) r<|?_;refine λ_ r=>eof hd 5 33 rfl (aX r (c:=true) rfl) r<|?_;refine λ_ r=>eof hd 4 36 rfl (aX r (c:=true) rfl) r<|?_;refine λ_ r=>eof hd 3 37 rfl (aX r (c:=true) rfl) r<|?_;refine λ_ r=>eof hd 2 38 rfl (aX r (c:=true) rfl) r<|?_;refine λ_ r=>eof hd 1 39 rfl (aX r (c:=true) rfl) r<|?_;refine iy hd 0 [(40,140,R true)]<|kI<|tn<|λ_ r=>dX r (b:=true) rfl<|qq r<|gS<|wr<|tr<|br<|br<|tr<|tr<|br<|tr<|?_;cases H;exact gC (h.se 6 [])
     refine qI H (λvQ H=>?_) λvQ H=>?_
     ·refine lC [(fY,4,[Z (J r2 aP.toNat).X]),(fY,4,[Z (J r2 aP.toNat).X]),(b1,2,[Z O.aF]),(fY,4,[Z (J r2 aP.toNat).X]),(fY,1,[Z (J r2 aP.toNat).gV])] [0,2,4,6,8,11,13] 41 h (λh=>⟨⟨(h.pick 5).cell 4 rfl,bx⟩,⟨(h.pick 5).cell 4 rfl,bx⟩,⟨h.cell 2 rfl,bx⟩,⟨(h.pick 5).cell 4 rfl,bx⟩,⟨(h.pick 5).cell 1 rfl,bx⟩,bx⟩) λw h hd =>iy hd 40 [(0,100,u fY 4)]<|fg hd 0 39 1 rfl<|ju hd 37 100 [([2,3],cJ ((J r2 aP.toNat).X<0))]<|λ_ r=>fV hd 36 4 rfl (aX r (dF vD)) r (u fY 4)<|?_;refine λ_ r=>fV hd 35 6 rfl (aX r (dF vD)) r (u b1 2)<|?_;refine λ_ r=>mT hd 1 34 5 r (aX r (dF vD)) rfl rfl<|?_;refine λ_ r=>mT hd 2 33 7 r (aX r (dF vD)) rfl rfl<|?_;refine λ_ r=>fV hd 32 8 rfl (aX r (dF vD)) r (cJ ((J r2 aP.toNat).X>=O.aF))<|?_;refine jl hd 31 9 rfl (cJ ((J r2 aP.toNat).X>=O.aF)) (λw=>nI (b:=(decide ((J r2 aP.toNat).X<0))) rfl aK (dF vD) aK)<|iy hd 30 [(10,110,cJ ((J r2 aP.toNat).X>=O.aF))]<|λ_ r=>fV hd 29 11 rfl (aX r (dF yo)) r (u fY 4)<|?_;refine λ_ r=>fV hd 28 13 rfl (aX r (dF yo)) r (u fY 1)<|?_;refine λ_ r=>mT hd 3 27 12 r (aX r (dF yo)) rfl rfl<|?_;refine λ_ r=>mT hd 4 26 14 r (aX r (dF yo)) rfl rfl<|?_;refine λ_ r=>fV hd 25 15 rfl (aX r (dF yo)) r (R ((J r2 aP.toNat).X==(J r2 aP.toNat).gV))<|?_;refine jl hd 24 16 rfl (R ((J r2 aP.toNat).X==(J r2 aP.toNat).gV)) (λw=>nI (b:=(decide ((J r2 aP.toNat).X>=O.aF))) rfl aK (dF yo) aK)<|iy hd 23 [(17,117,R ((J r2 aP.toNat).X==(J r2 aP.toNat).gV))]<|λ_ r=>eof hd 22 18 rfl (aX r (beq_iff_eq.mpr vQ)) r<|?_;refine λ_ r=>eof hd 21 19 rfl (aX r (beq_iff_eq.mpr vQ)) r<|?_;refine λ_ r=>eof hd 20 23 rfl (aX r (beq_iff_eq.mpr vQ)) r<|?_;refine λ_ r=>eof hd 19 20 rfl (aX r (beq_iff_eq.mpr vQ)) r<|?_;refine λ_ r=>eof hd 18 21 rfl (aX r (beq_iff_eq.mpr vQ)) r<|?_;refine λ_ r=>eof hd 17 22 rfl (aX r (beq_iff_eq.mpr vQ)) r<|?_;refine λ_ r=>eof hd 16 24 rfl (aX r (beq_iff_eq.mpr vQ)) r<|?_;refine λ_ r=>eof hd 15 25 rfl (aX r (beq_iff_eq.mpr vQ)) r<|?_;refine λ_ r=>eof hd 14 26 rfl (aX r (beq_iff_eq.mpr vQ)) r<|?_;refine jl hd 13 27 rfl (R true) (λw=>qX (b:=((J r2 aP.toNat).X==(J r2 aP.toNat).gV)) rfl aK (beq_iff_eq.mpr vQ) aK)<|iy hd 12 [(28,128,R true)]<|λ_ r=>eof hd 11 29 rfl (aX r (c:=true) rfl) r<|?_;refine λ_ r=>eof hd 10 30 rfl (aX r (c:=true) rfl) r<|?_;refine λ_ r=>eof hd 9 34 rfl (aX r (c:=true) rfl) r<|?_;refine λ_ r=>eof hd 8 35 rfl (aX r (c:=true) rfl) r<|?_;refine λ_ r=>eof hd 7 31 rfl (aX r (c:=true) rfl) r<|?_;refine λ_ r=>eof hd 6 32 rfl (aX r (c:=true) rfl) r<|?_;refine λ_ r=>eof hd 5 33 rfl (aX r (c:=true) rfl) r<|?_;refine λ_ r=>eof hd 4 36 rfl (aX r (c:=true) rfl) r<|?_;refine λ_ r=>eof hd 3 37 rfl (aX r (c:=true) rfl) r<|?_;refine λ_ r=>eof hd 2 38 rfl (aX r (c:=true) rfl) r<|?_;refine λ_ r=>eof hd 1 39 rfl (aX r (c:=true) rfl) r<|?_;refine iy hd 0 [(40,140,R true)]<|kI<|tn<|λ_ r=>dX r (b:=true) rfl<|qq r<|gS<|wr<|tr<|br<|br<|tr<|tr<|br<|tr<|?_;cases H;exact gC (h.se 6 [])
     refine qg H λGA H=>qI H (λxz H=>?_) λxz H=>?_
     ·refine qg H λFo H=>qg H λxb H=>lC [(fY,4,[Z (J r2 aP.toNat).X]),(fY,4,[Z (J r2 aP.toNat).X]),(b1,2,[Z O.aF]),(fY,4,[Z (J r2 aP.toNat).X]),(fY,1,[Z (J r2 aP.toNat).gV]),(fY,3,[Z (J r2 aP.toNat).Frame]),(dA iA,(J r2 aP.toNat).Frame.toNat*1,[Z (J kF (J r2 aP.toNat).Frame.toNat)]),(fY,4,[Z (J r2 aP.toNat).X]),(fY,3,[Z (J r2 aP.toNat).Frame]),(dA q7,(J r2 aP.toNat).Frame.toNat*1,[Z (J rq (J r2 aP.toNat).Frame.toNat)]),(fY,4,[Z (J r2 aP.toNat).X]),(dA tI,(J r2 aP.toNat).X.toNat*1,[Z (J tM (J r2 aP.toNat).X.toNat)])] [0,2,4,6,8,11,13,15,19,21,23,25,26,30,32,35,37] 41 h (λh=>⟨⟨(h.pick 5).cell 4 rfl,bx⟩,⟨(h.pick 5).cell 4 rfl,bx⟩,⟨h.cell 2 rfl,bx⟩,⟨(h.pick 5).cell 4 rfl,bx⟩,⟨(h.pick 5).cell 1 rfl,bx⟩,⟨(h.pick 5).cell 3 rfl,bx⟩,⟨(h.pick 2).bE aE (f:=0) (aS GA) rfl,bx⟩,⟨(h.pick 5).cell 4 rfl,bx⟩,⟨(h.pick 5).cell 3 rfl,bx⟩,⟨(h.pick 3).bE aE (f:=0) (aS Fo) rfl,bx⟩,⟨(h.pick 5).cell 4 rfl,bx⟩,⟨(h.pick 4).bE aE (f:=0) (aS xb) rfl,bx⟩,bx⟩) λw h hd =>iy hd 40 [(0,100,u fY 4)]<|fg hd 0 39 1 rfl<|ju hd 37 100 [([2,3],cJ ((J r2 aP.toNat).X<0))]<|λ_ r=>fV hd 36 4 rfl (aX r (dF vD)) r (u fY 4)<|?_;refine λ_ r=>fV hd 35 6 rfl (aX r (dF vD)) r (u b1 2)<|?_;refine λ_ r=>mT hd 1 34 5 r (aX r (dF vD)) rfl rfl<|?_;refine λ_ r=>mT hd 2 33 7 r (aX r (dF vD)) rfl rfl<|?_;refine λ_ r=>fV hd 32 8 rfl (aX r (dF vD)) r (cJ ((J r2 aP.toNat).X>=O.aF))<|?_;refine jl hd 31 9 rfl (cJ ((J r2 aP.toNat).X>=O.aF)) (λw=>nI (b:=(decide ((J r2 aP.toNat).X<0))) rfl aK (dF vD) aK)<|iy hd 30 [(10,110,cJ ((J r2 aP.toNat).X>=O.aF))]<|λ_ r=>fV hd 29 11 rfl (aX r (dF yo)) r (u fY 4)<|?_;refine λ_ r=>fV hd 28 13 rfl (aX r (dF yo)) r (u fY 1)<|?_;refine λ_ r=>mT hd 3 27 12 r (aX r (dF yo)) rfl rfl<|?_;refine λ_ r=>mT hd 4 26 14 r (aX r (dF yo)) rfl rfl<|?_;refine λ_ r=>fV hd 25 15 rfl (aX r (dF yo)) r (R ((J r2 aP.toNat).X==(J r2 aP.toNat).gV))<|?_;refine jl hd 24 16 rfl (R ((J r2 aP.toNat).X==(J r2 aP.toNat).gV)) (λw=>nI (b:=(decide ((J r2 aP.toNat).X>=O.aF))) rfl aK (dF yo) aK)<|iy hd 23 [(17,117,R ((J r2 aP.toNat).X==(J r2 aP.toNat).gV))]<|λ_ r=>fV hd 22 18 rfl (aX r (bN vQ)) r (aY iA (List.replicate O.au.toNat (0:Int)).length O.au.toNat)<|?_;refine λ_ r=>fV hd 21 19 rfl (aX r (bN vQ)) r (u fY 3)<|?_;refine λ_ r=>fV hd 20 23 rfl (aX r (bN vQ)) r (u fY 4)<|?_;refine λ_ r=>mT hd 5 19 20 r (aX r (bN vQ)) rfl rfl<|?_;refine λ_ r=>fV hd 18 21 rfl (aX r (bN vQ)) r (u (dA iA) ((J r2 aP.toNat).Frame.toNat*1)) (hrun:=λw=>nN 3 rfl (h.pick 2) GA)<|?_;refine λ_ r=>mT hd 6 17 22 r (aX r (bN vQ)) rfl rfl<|?_;refine λ_ r=>mT hd 7 16 24 r (aX r (bN vQ)) rfl rfl<|?_;refine λ_ r=>fV hd 15 25 rfl (aX r (bN vQ)) r (Z (wi ((J r2 aP.toNat).X+1)))<|?_;refine λ_ r=>fV hd 14 26 rfl (aX r (bN vQ)) r (R ((J kF (J r2 aP.toNat).Frame.toNat) != (wi ((J r2 aP.toNat).X+1))))<|?_;refine jl hd 13 27 rfl (R ((J kF (J r2 aP.toNat).Frame.toNat) != (wi ((J r2 aP.toNat).X+1)))) (λw=>nI (b:=((J r2 aP.toNat).X==(J r2 aP.toNat).gV)) rfl aK (bN vQ) aK)<|?_
      refine iy hd 12 [(28,128,R ((J kF (J r2 aP.toNat).Frame.toNat) != (wi ((J r2 aP.toNat).X+1))))]<|λ_ r=>fV hd 11 29 rfl (aX r (bne_eq_false_iff_eq.mpr xz)) r (aY q7 (List.replicate O.au.toNat (0:Int)).length O.au.toNat)<|?_;refine λ_ r=>fV hd 10 30 rfl (aX r (bne_eq_false_iff_eq.mpr xz)) r (u fY 3)<|?_;refine λ_ r=>fV hd 9 34 rfl (aX r (bne_eq_false_iff_eq.mpr xz)) r (aY tI (List.replicate O.aF.toNat (0:Int)).length O.aF.toNat)<|?_;refine λ_ r=>fV hd 8 35 rfl (aX r (bne_eq_false_iff_eq.mpr xz)) r (u fY 4)<|?_;refine λ_ r=>mT hd 8 7 31 r (aX r (bne_eq_false_iff_eq.mpr xz)) rfl rfl<|?_;refine λ_ r=>fV hd 6 32 rfl (aX r (bne_eq_false_iff_eq.mpr xz)) r (u (dA q7) ((J r2 aP.toNat).Frame.toNat*1)) (hrun:=λw=>nN 3 rfl (h.pick 3) Fo)<|?_;refine λ_ r=>mT hd 9 5 33 r (aX r (bne_eq_false_iff_eq.mpr xz)) rfl rfl<|?_;refine λ_ r=>mT hd 10 4 36 r (aX r (bne_eq_false_iff_eq.mpr xz)) rfl rfl<|?_;refine λ_ r=>fV hd 3 37 rfl (aX r (bne_eq_false_iff_eq.mpr xz)) r (u (dA tI) ((J r2 aP.toNat).X.toNat*1)) (hrun:=λw=>nN 3 rfl (h.pick 4) xb)<|?_;refine λ_ r=>mT hd 11 2 38 r (aX r (bne_eq_false_iff_eq.mpr xz)) rfl rfl<|?_;refine λ_ r=>fV hd 1 39 rfl (aX r (bne_eq_false_iff_eq.mpr xz)) r (cJ ((J rq (J r2 aP.toNat).Frame.toNat)<=(J tM (J r2 aP.toNat).X.toNat)))<|?_;refine jl hd 0 40 rfl (cJ ((J rq (J r2 aP.toNat).Frame.toNat)<=(J tM (J r2 aP.toNat).X.toNat))) (λw=>nI (b:=((J kF (J r2 aP.toNat).Frame.toNat) != (wi ((J r2 aP.toNat).X+1)))) rfl aK (bne_eq_false_iff_eq.mpr xz) aK)<|kI<|tn<|ez H (λBe H=>?_) λBe H=>?_
      ·refine gS<|wr<|tr<|br<|br<|tr<|tr<|br<|tr<|?_;cases H;exact gC (h.se 6 [])
      refine gD<|lC [(fY,4,[Z (J r2 aP.toNat).X]),(fY,3,[Z (J r2 aP.toNat).Frame]),(dA q7,(J r2 aP.toNat).Frame.toNat*1,[Z (J rq (J r2 aP.toNat).Frame.toNat)])] [1,4,6] 10 h (λh=>⟨⟨(h.pick 5).cell 4 rfl,bx⟩,⟨(h.pick 5).cell 3 rfl,bx⟩,⟨(h.pick 3).bE aE (f:=0) (aS Fo) rfl,bx⟩,bx⟩) λw h hd =>ju hd 6 141 [([0],aY tI (List.replicate O.aF.toNat (0:Int)).length O.aF.toNat),([1],u fY 4),([3],aY q7 (List.replicate O.au.toNat (0:Int)).length O.au.toNat),([4],u fY 3)]<|fg hd 0 5 2 rfl<|fg hd 1 4 5 rfl<|jl hd 3 6 rfl (u (dA q7) ((J r2 aP.toNat).Frame.toNat*1)) (λw=>nN 3 rfl (h.pick 3) Fo)<|fg hd 2 2 7 rfl<|jl hd 1 8 rfl (u (dA tI) ((J r2 aP.toNat).X.toNat*1)) (λw=>nN 3 rfl (h.pick 4) xb)<|λ_ r=>lI 9 rfl<|qh h.m4 λh=>BM (wn rfl) r aE h (J r2 aP.toNat).X.toNat 0 (Z (J rq (J r2 aP.toNat).Frame.toNat)) (J tM (J r2 aP.toNat).X.toNat) (J rq (J r2 aP.toNat).Frame.toNat) (aS xb) λw h=>qq r<|I<|mJ<|kI<|bn<|bn<|tn<|wl<|ko [U,Z (wi (aP+1)),Z (wi (aP+1))]<|I<|?_;exact λ_ r=>⟨_,⟨kF,rq,(tM.set (J r2 aP.toNat).X.toNat (J rq (J r2 aP.toNat).Frame.toNat)),(wi (aP+1)),H,r.fj (h.se 6 [1,2,3,4,0])⟩,gQ _⟩
     refine lC [(fY,4,[Z (J r2 aP.toNat).X]),(fY,4,[Z (J r2 aP.toNat).X]),(b1,2,[Z O.aF]),(fY,4,[Z (J r2 aP.toNat).X]),(fY,1,[Z (J r2 aP.toNat).gV]),(fY,3,[Z (J r2 aP.toNat).Frame]),(dA iA,(J r2 aP.toNat).Frame.toNat*1,[Z (J kF (J r2 aP.toNat).Frame.toNat)]),(fY,4,[Z (J r2 aP.toNat).X])] [0,2,4,6,8,11,13,15,19,21,23,25] 41 h (λh=>⟨⟨(h.pick 5).cell 4 rfl,bx⟩,⟨(h.pick 5).cell 4 rfl,bx⟩,⟨h.cell 2 rfl,bx⟩,⟨(h.pick 5).cell 4 rfl,bx⟩,⟨(h.pick 5).cell 1 rfl,bx⟩,⟨(h.pick 5).cell 3 rfl,bx⟩,⟨(h.pick 2).bE aE (f:=0) (aS GA) rfl,bx⟩,⟨(h.pick 5).cell 4 rfl,bx⟩,bx⟩) λw h hd =>iy hd 40 [(0,100,u fY 4)]<|fg hd 0 39 1 rfl<|ju hd 37 100 [([2,3],cJ ((J r2 aP.toNat).X<0))]<|λ_ r=>fV hd 36 4 rfl (aX r (dF vD)) r (u fY 4)<|?_;refine λ_ r=>fV hd 35 6 rfl (aX r (dF vD)) r (u b1 2)<|?_;refine λ_ r=>mT hd 1 34 5 r (aX r (dF vD)) rfl rfl<|?_;refine λ_ r=>mT hd 2 33 7 r (aX r (dF vD)) rfl rfl<|?_;refine λ_ r=>fV hd 32 8 rfl (aX r (dF vD)) r (cJ ((J r2 aP.toNat).X>=O.aF))<|?_;refine jl hd 31 9 rfl (cJ ((J r2 aP.toNat).X>=O.aF)) (λw=>nI (b:=(decide ((J r2 aP.toNat).X<0))) rfl aK (dF vD) aK)<|iy hd 30 [(10,110,cJ ((J r2 aP.toNat).X>=O.aF))]<|λ_ r=>fV hd 29 11 rfl (aX r (dF yo)) r (u fY 4)<|?_;refine λ_ r=>fV hd 28 13 rfl (aX r (dF yo)) r (u fY 1)<|?_;refine λ_ r=>mT hd 3 27 12 r (aX r (dF yo)) rfl rfl<|?_;refine λ_ r=>mT hd 4 26 14 r (aX r (dF yo)) rfl rfl<|?_;refine λ_ r=>fV hd 25 15 rfl (aX r (dF yo)) r (R ((J r2 aP.toNat).X==(J r2 aP.toNat).gV))<|?_;refine jl hd 24 16 rfl (R ((J r2 aP.toNat).X==(J r2 aP.toNat).gV)) (λw=>nI (b:=(decide ((J r2 aP.toNat).X>=O.aF))) rfl aK (dF yo) aK)<|iy hd 23 [(17,117,R ((J r2 aP.toNat).X==(J r2 aP.toNat).gV))]<|λ_ r=>fV hd 22 18 rfl (aX r (bN vQ)) r (aY iA (List.replicate O.au.toNat (0:Int)).length O.au.toNat)<|?_;refine λ_ r=>fV hd 21 19 rfl (aX r (bN vQ)) r (u fY 3)<|?_;refine λ_ r=>fV hd 20 23 rfl (aX r (bN vQ)) r (u fY 4)<|?_;refine λ_ r=>mT hd 5 19 20 r (aX r (bN vQ)) rfl rfl<|?_;refine λ_ r=>fV hd 18 21 rfl (aX r (bN vQ)) r (u (dA iA) ((J r2 aP.toNat).Frame.toNat*1)) (hrun:=λw=>nN 3 rfl (h.pick 2) GA)<|?_;refine λ_ r=>mT hd 6 17 22 r (aX r (bN vQ)) rfl rfl<|?_;refine λ_ r=>mT hd 7 16 24 r (aX r (bN vQ)) rfl rfl<|?_;refine λ_ r=>fV hd 15 25 rfl (aX r (bN vQ)) r (Z (wi ((J r2 aP.toNat).X+1)))<|?_;refine λ_ r=>fV hd 14 26 rfl (aX r (bN vQ)) r (R ((J kF (J r2 aP.toNat).Frame.toNat) != (wi ((J r2 aP.toNat).X+1))))<|?_;refine jl hd 13 27 rfl (R ((J kF (J r2 aP.toNat).Frame.toNat) != (wi ((J r2 aP.toNat).X+1)))) (λw=>nI (b:=((J r2 aP.toNat).X==(J r2 aP.toNat).gV)) rfl aK (bN vQ) aK)<|iy hd 12 [(28,128,R ((J kF (J r2 aP.toNat).Frame.toNat) != (wi ((J r2 aP.toNat).X+1))))]<|λ_ r=>eof hd 11 29 rfl (aX r (bne_iff_ne.mpr xz)) r<|?_;refine λ_ r=>eof hd 10 30 rfl (aX r (bne_iff_ne.mpr xz)) r<|?_;refine λ_ r=>eof hd 9 34 rfl (aX r (bne_iff_ne.mpr xz)) r<|?_;refine λ_ r=>eof hd 8 35 rfl (aX r (bne_iff_ne.mpr xz)) r<|?_;refine λ_ r=>eof hd 7 31 rfl (aX r (bne_iff_ne.mpr xz)) r<|?_;refine λ_ r=>eof hd 6 32 rfl (aX r (bne_iff_ne.mpr xz)) r<|?_;refine λ_ r=>eof hd 5 33 rfl (aX r (bne_iff_ne.mpr xz)) r<|?_;refine λ_ r=>eof hd 4 36 rfl (aX r (bne_iff_ne.mpr xz)) r<|?_
     refine λ_ r=>eof hd 3 37 rfl (aX r (bne_iff_ne.mpr xz)) r<|?_;refine λ_ r=>eof hd 2 38 rfl (aX r (bne_iff_ne.mpr xz)) r<|?_;refine λ_ r=>eof hd 1 39 rfl (aX r (bne_iff_ne.mpr xz)) r<|?_;refine jl hd 0 40 rfl (R true) (λw=>qX (b:=((J kF (J r2 aP.toNat).Frame.toNat) != (wi ((J r2 aP.toNat).X+1)))) rfl aK (bne_iff_ne.mpr xz) aK)<|kI<|tn<|λ_ r=>dX r (b:=true) rfl<|qq r<|gS<|wr<|tr<|br<|br<|tr<|tr<|br<|tr<|?_;cases H;exact gC (h.se 6 [])
    refine aN [R ((J r2 aP.toNat).aL==1),R ((J r2 aP.toNat).aL==1)]<|I<|ez H (λM9 H=>?_) λM9 H=>?_
    ·refine DV H λo46 H aev=>λ_ r=>cY (β:=Unit) (λ_ a w=>∃w5:Bool,w5=o46/\∃j,kH 189 (lk [(1,u b1 0),(3,aY x6 r2.length x7),(6,aY iA (List.replicate O.au.toNat (0:Int)).length O.au.toNat),(7,aY q7 (List.replicate O.au.toNat (0:Int)).length O.au.toNat),(8,aY tI (List.replicate O.aF.toNat (0:Int)).length O.aF.toNat),(9,Z aP),(10,u fY 0),(11,R w5)] j) a/\Fit z (aC (xO b1 O cH cZ dB eD bz bS bH cg::Ca x6 x7 r2::rowOf 3 1 ck (aY iA (List.replicate O.au.toNat (0:Int)).length O.au.toNat) kF::rowOf 3 1 ck (aY q7 (List.replicate O.au.toNat (0:Int)).length O.au.toNat) rq::rowOf 3 1 ck (aY tI (List.replicate O.aF.toNat (0:Int)).length O.aF.toNat) tM::fu fY (J r2 aP.toNat)::L)) w) ?_ ?_
     ·refine qI H (λDl H=>?_) λDl H=>?_
      ·refine qI H (λCE H=>?_) λCE H=>?_
       ·refine vZ [(fY,4,[Z (J r2 aP.toNat).X]),(fY,3,[Z (J r2 aP.toNat).Frame])] [0,2,4] 20 h (λh=>⟨⟨(h.pick 5).cell 4 rfl,bx⟩,⟨(h.pick 5).cell 3 rfl,bx⟩,bx⟩) λw h hd =>qq r<|iy hd 19 [(0,152,u fY 4)]<|fg hd 0 18 1 rfl<|ju hd 16 152 [([2,3],R ((J r2 aP.toNat).X==(-1)))]<|λ_ r=>fV hd 15 4 rfl (aX r (beq_iff_eq.mpr Dl)) r (u fY 3)<|?_;refine λ_ r=>mT hd 1 14 5 r (aX r (beq_iff_eq.mpr Dl)) rfl rfl<|?_;refine λ_ r=>fV hd 13 6 rfl (aX r (beq_iff_eq.mpr Dl)) r (R ((J r2 aP.toNat).Frame==0))<|?_;refine λ_ r=>fV hd 12 7 rfl (aX r (beq_iff_eq.mpr Dl)) r (R ((J r2 aP.toNat).Frame==0))<|?_;refine λ_ r=>eof hd 11 8 rfl (aX r (beq_iff_eq.mpr CE)) r<|?_;refine λ_ r=>eof hd 10 9 rfl (aX r (beq_iff_eq.mpr CE)) r<|?_;refine λ_ r=>eof hd 9 13 rfl (aX r (beq_iff_eq.mpr CE)) r<|?_;refine λ_ r=>eof hd 8 10 rfl (aX r (beq_iff_eq.mpr CE)) r<|?_;refine λ_ r=>eof hd 7 11 rfl (aX r (beq_iff_eq.mpr CE)) r<|?_;refine λ_ r=>eof hd 6 12 rfl (aX r (beq_iff_eq.mpr CE)) r<|?_;refine λ_ r=>eof hd 5 14 rfl (aX r (beq_iff_eq.mpr CE)) r<|?_;refine λ_ r=>eof hd 4 15 rfl (aX r (beq_iff_eq.mpr CE)) r<|?_;refine λ_ r=>eof hd 3 16 rfl (aX r (beq_iff_eq.mpr CE)) r<|?_;refine λ_ r=>fV hd 2 17 rfl (aX r (beq_iff_eq.mpr Dl)) r (R true) (hrun:=λw=>qX (b:=((J r2 aP.toNat).Frame==0)) rfl aK (beq_iff_eq.mpr CE) aK)<|?_;refine jl hd 1 18 rfl (R true) (λw=>qX (b:=((J r2 aP.toNat).X==(-1))) rfl aK (beq_iff_eq.mpr Dl) aK)<|iy hd 0 [(19,11,R true)]<|kI<|tn<|?_;exact λ_ r=>⟨(),true,gA H,r.fj h⟩
       refine qg H λFb H=>vZ [(fY,4,[Z (J r2 aP.toNat).X]),(fY,3,[Z (J r2 aP.toNat).Frame]),(fY,3,[Z (J r2 aP.toNat).Frame]),(dA iA,(J r2 aP.toNat).Frame.toNat*1,[Z (J kF (J r2 aP.toNat).Frame.toNat)]),(fY,1,[Z (J r2 aP.toNat).gV])] [0,2,4,6,9,11,13,15] 20 h (λh=>⟨⟨(h.pick 5).cell 4 rfl,bx⟩,⟨(h.pick 5).cell 3 rfl,bx⟩,⟨(h.pick 5).cell 3 rfl,bx⟩,⟨(h.pick 2).bE aE (f:=0) (aS Fb) rfl,bx⟩,⟨(h.pick 5).cell 1 rfl,bx⟩,bx⟩) λw h hd =>qq r<|iy hd 19 [(0,152,u fY 4)]<|fg hd 0 18 1 rfl<|ju hd 16 152 [([2,3],R ((J r2 aP.toNat).X==(-1)))]<|λ_ r=>fV hd 15 4 rfl (aX r (beq_iff_eq.mpr Dl)) r (u fY 3)<|?_;refine λ_ r=>mT hd 1 14 5 r (aX r (beq_iff_eq.mpr Dl)) rfl rfl<|?_;refine λ_ r=>fV hd 13 6 rfl (aX r (beq_iff_eq.mpr Dl)) r (R ((J r2 aP.toNat).Frame==0))<|?_;refine λ_ r=>fV hd 12 7 rfl (aX r (beq_iff_eq.mpr Dl)) r (R ((J r2 aP.toNat).Frame==0))<|?_;refine λ_ r=>fV hd 11 8 rfl (aX r (bN CE)) r (aY iA (List.replicate O.au.toNat (0:Int)).length O.au.toNat)<|?_;refine λ_ r=>fV hd 10 9 rfl (aX r (bN CE)) r (u fY 3)<|?_;refine λ_ r=>fV hd 9 13 rfl (aX r (bN CE)) r (u fY 1)<|?_;refine λ_ r=>mT hd 2 8 10 r (aX r (bN CE)) rfl rfl<|?_;refine λ_ r=>fV hd 7 11 rfl (aX r (bN CE)) r (u (dA iA) ((J r2 aP.toNat).Frame.toNat*1)) (hrun:=λw=>nN 3 rfl (h.pick 2) Fb)<|?_;refine λ_ r=>mT hd 3 6 12 r (aX r (bN CE)) rfl rfl<|?_;refine λ_ r=>mT hd 4 5 14 r (aX r (bN CE)) rfl rfl<|?_;refine λ_ r=>fV hd 4 15 rfl (aX r (bN CE)) r (Z (wi ((J r2 aP.toNat).gV+1)))<|?_;refine λ_ r=>fV hd 3 16 rfl (aX r (bN CE)) r (R ((J kF (J r2 aP.toNat).Frame.toNat)==(wi ((J r2 aP.toNat).gV+1))))<|?_;refine λ_ r=>fV hd 2 17 rfl (aX r (beq_iff_eq.mpr Dl)) r (R ((J kF (J r2 aP.toNat).Frame.toNat)==(wi ((J r2 aP.toNat).gV+1)))) (hrun:=λw=>nI (b:=((J r2 aP.toNat).Frame==0)) rfl aK (bN CE) aK)<|?_;refine jl hd 1 18 rfl (R ((J kF (J r2 aP.toNat).Frame.toNat)==(wi ((J r2 aP.toNat).gV+1)))) (λw=>qX (b:=((J r2 aP.toNat).X==(-1))) rfl aK (beq_iff_eq.mpr Dl) aK)<|iy hd 0 [(19,11,R ((J kF (J r2 aP.toNat).Frame.toNat)==(wi ((J r2 aP.toNat).gV+1))))]<|kI<|tn<|?_;exact λ_ r=>⟨(),((J kF (J r2 aP.toNat).Frame.toNat)==(wi ((J r2 aP.toNat).gV+1))),gA H,r.fj h⟩
      refine vZ [(fY,4,[Z (J r2 aP.toNat).X])] [0] 20 h (λh=>⟨⟨(h.pick 5).cell 4 rfl,bx⟩,bx⟩) λw h hd =>qq r<|iy hd 19 [(0,152,u fY 4)]<|fg hd 0 18 1 rfl<|ju hd 16 152 [([2,3],R ((J r2 aP.toNat).X==(-1)))]<|λ_ r=>eof hd 15 4 rfl (aX r (bN Dl)) r<|?_;refine λ_ r=>eof hd 14 5 rfl (aX r (bN Dl)) r<|?_;refine λ_ r=>eof hd 13 6 rfl (aX r (bN Dl)) r<|?_;refine λ_ r=>eof hd 12 7 rfl (aX r (bN Dl)) r<|?_;refine λ_ r=>eof hd 11 8 rfl (dG r rfl rfl rfl aK) r<|?_;refine λ_ r=>eof hd 10 9 rfl (dG r rfl rfl rfl aK) r<|?_;refine λ_ r=>eof hd 9 13 rfl (dG r rfl rfl rfl aK) r<|?_;refine λ_ r=>eof hd 8 10 rfl (dG r rfl rfl rfl aK) r<|?_;refine λ_ r=>eof hd 7 11 rfl (dG r rfl rfl rfl aK) r<|?_;refine λ_ r=>eof hd 6 12 rfl (dG r rfl rfl rfl aK) r<|?_;refine λ_ r=>eof hd 5 14 rfl (dG r rfl rfl rfl aK) r<|?_;refine λ_ r=>eof hd 4 15 rfl (dG r rfl rfl rfl aK) r<|?_;refine λ_ r=>eof hd 3 16 rfl (dG r rfl rfl rfl aK) r<|?_;refine λ_ r=>eof hd 2 17 rfl (aX r (bN Dl)) r<|?_;refine jl hd 1 18 rfl (R false) (λw=>nI (b:=((J r2 aP.toNat).X==(-1))) rfl aK (bN Dl) aK)<|iy hd 0 [(19,11,R false)]<|kI<|tn<|?_;exact λ_ r=>⟨(),false,gA H,r.fj h⟩
     clear h r;rintro _ a w ⟨w5,rfl,j,r,h⟩;replace H:=DS aev;refine qq r<|wq<|qI H (λCq H=>?_) λCq H=>?_
     ·refine lC [] [] 18 h (λ_=>trivial) λw h hd =>ju hd 15 171 [([0],R w5),([1,2],R (!w5))]<|λ_ r=>eof hd 14 3 rfl (aX r (x:=!w5) (c:=false) (by rw[show w5=true from(Cq)];rfl)) r<|?_;refine λ_ r=>eof hd 13 4 rfl (aX r (x:=!w5) (c:=false) (by rw[show w5=true from(Cq)];rfl)) r<|?_;refine λ_ r=>eof hd 12 5 rfl (aX r (x:=!w5) (c:=false) (by rw[show w5=true from(Cq)];rfl)) r<|?_;refine λ_ r=>eof hd 11 6 rfl (aX r (x:=!w5) (c:=false) (by rw[show w5=true from(Cq)];rfl)) r<|?_;refine λ_ r=>eof hd 10 7 rfl (dG r rfl rfl rfl aK) r<|?_;refine λ_ r=>eof hd 9 8 rfl (dG r rfl rfl rfl aK) r<|?_;refine λ_ r=>eof hd 8 12 rfl (dG r rfl rfl rfl aK) r<|?_;refine λ_ r=>eof hd 7 9 rfl (dG r rfl rfl rfl aK) r<|?_;refine λ_ r=>eof hd 6 10 rfl (dG r rfl rfl rfl aK) r<|?_;refine λ_ r=>eof hd 5 11 rfl (dG r rfl rfl rfl aK) r<|?_;refine λ_ r=>eof hd 4 13 rfl (dG r rfl rfl rfl aK) r<|?_;refine λ_ r=>eof hd 3 14 rfl (dG r rfl rfl rfl aK) r<|?_;refine λ_ r=>eof hd 2 15 rfl (dG r rfl rfl rfl aK) r<|?_;refine λ_ r=>eof hd 1 16 rfl (aX r (x:=!w5) (c:=false) (by rw[show w5=true from(Cq)];rfl)) r<|?_;refine jl hd 0 17 rfl (R false) (λw=>nI (b:=(!w5)) rfl aK (by rw[show w5=true from(Cq)];rfl) aK)<|kI<|tn<|λ_ r=>iT r (b:=false) rfl<|qq r<|wk<|bn<|bn<|tn<|wl<|ko [U,Z (wi (aP+1)),Z (wi (aP+1))]<|I<|?_;exact λ_ r=>⟨_,⟨kF,rq,tM,(wi (aP+1)),H,r.fj (h.se 6 [0,1,2,3,4])⟩,gQ _⟩
     refine qI H (λFc H=>?_) λFc H=>?_
     ·refine lC [(fY,4,[Z (J r2 aP.toNat).X])] [1,3] 18 h (λh=>⟨⟨(h.pick 5).cell 4 rfl,bx⟩,bx⟩) λw h hd =>ju hd 15 171 [([0],R w5),([1,2],R (!w5))]<|λ_ r=>fV hd 14 3 rfl (aX r (x:=!w5) (c:=true) (by rw[show w5=false from(bF Cq)];rfl)) r (u fY 4)<|?_;refine λ_ r=>mT hd 0 13 4 r (aX r (x:=!w5) (c:=true) (by rw[show w5=false from(bF Cq)];rfl)) rfl rfl<|?_;refine λ_ r=>fV hd 12 5 rfl (aX r (x:=!w5) (c:=true) (by rw[show w5=false from(bF Cq)];rfl)) r (cJ ((J r2 aP.toNat).X<0))<|?_;refine λ_ r=>fV hd 11 6 rfl (aX r (x:=!w5) (c:=true) (by rw[show w5=false from(bF Cq)];rfl)) r (cJ ((J r2 aP.toNat).X<0))<|?_;refine λ_ r=>eof hd 10 7 rfl (aX r (dT Fc)) r<|?_;refine λ_ r=>eof hd 9 8 rfl (aX r (dT Fc)) r<|?_;refine λ_ r=>eof hd 8 12 rfl (aX r (dT Fc)) r<|?_;refine λ_ r=>eof hd 7 9 rfl (aX r (dT Fc)) r<|?_;refine λ_ r=>eof hd 6 10 rfl (aX r (dT Fc)) r<|?_;refine λ_ r=>eof hd 5 11 rfl (aX r (dT Fc)) r<|?_;refine λ_ r=>eof hd 4 13 rfl (aX r (dT Fc)) r<|?_;refine λ_ r=>eof hd 3 14 rfl (aX r (dT Fc)) r<|?_;refine λ_ r=>eof hd 2 15 rfl (aX r (dT Fc)) r<|?_;refine λ_ r=>fV hd 1 16 rfl (aX r (x:=!w5) (c:=true) (by rw[show w5=false from(bF Cq)];rfl)) r (R true) (hrun:=λw=>qX (b:=(decide ((J r2 aP.toNat).X<0))) rfl aK (dT Fc) aK)<|?_;refine jl hd 0 17 rfl (R true) (λw=>qX (b:=(!w5)) rfl aK (by rw[show w5=false from(bF Cq)];rfl) aK)<|kI<|tn<|λ_ r=>dX r (b:=true) rfl<|qq r<|gS<|wr<|br<|br<|tr<|tr<|br<|tr<|?_;cases H;exact gC (h.se 6 [])
     refine qg H λZC H=>lC [(fY,4,[Z (J r2 aP.toNat).X]),(fY,3,[Z (J r2 aP.toNat).Frame]),(dA iA,(J r2 aP.toNat).Frame.toNat*1,[Z (J kF (J r2 aP.toNat).Frame.toNat)]),(fY,4,[Z (J r2 aP.toNat).X])] [1,3,5,8,10,12,14] 18 h (λh=>⟨⟨(h.pick 5).cell 4 rfl,bx⟩,⟨(h.pick 5).cell 3 rfl,bx⟩,⟨(h.pick 2).bE aE (f:=0) (aS ZC) rfl,bx⟩,⟨(h.pick 5).cell 4 rfl,bx⟩,bx⟩) λw h hd =>ju hd 15 171 [([0],R w5),([1,2],R (!w5))]<|λ_ r=>fV hd 14 3 rfl (aX r (x:=!w5) (c:=true) (by rw[show w5=false from(bF Cq)];rfl)) r (u fY 4)<|?_;refine λ_ r=>mT hd 0 13 4 r (aX r (x:=!w5) (c:=true) (by rw[show w5=false from(bF Cq)];rfl)) rfl rfl<|?_;refine λ_ r=>fV hd 12 5 rfl (aX r (x:=!w5) (c:=true) (by rw[show w5=false from(bF Cq)];rfl)) r (cJ ((J r2 aP.toNat).X<0))<|?_;refine λ_ r=>fV hd 11 6 rfl (aX r (x:=!w5) (c:=true) (by rw[show w5=false from(bF Cq)];rfl)) r (cJ ((J r2 aP.toNat).X<0))<|?_;refine λ_ r=>fV hd 10 7 rfl (aX r (dF Fc)) r (aY iA (List.replicate O.au.toNat (0:Int)).length O.au.toNat)<|?_;refine λ_ r=>fV hd 9 8 rfl (aX r (dF Fc)) r (u fY 3)<|?_;refine λ_ r=>fV hd 8 12 rfl (aX r (dF Fc)) r (u fY 4)<|?_;refine λ_ r=>mT hd 1 7 9 r (aX r (dF Fc)) rfl rfl<|?_;refine λ_ r=>fV hd 6 10 rfl (aX r (dF Fc)) r (u (dA iA) ((J r2 aP.toNat).Frame.toNat*1)) (hrun:=λw=>nN 3 rfl (h.pick 2) ZC)<|?_;refine λ_ r=>mT hd 2 5 11 r (aX r (dF Fc)) rfl rfl<|?_;refine λ_ r=>mT hd 3 4 13 r (aX r (dF Fc)) rfl rfl<|?_;refine λ_ r=>fV hd 3 14 rfl (aX r (dF Fc)) r (Z (wi ((J r2 aP.toNat).X+1)))<|?_;refine λ_ r=>fV hd 2 15 rfl (aX r (dF Fc)) r (R ((J kF (J r2 aP.toNat).Frame.toNat) != (wi ((J r2 aP.toNat).X+1))))<|?_;refine λ_ r=>fV hd 1 16 rfl (aX r (x:=!w5) (c:=true) (by rw[show w5=false from(bF Cq)];rfl)) r (R ((J kF (J r2 aP.toNat).Frame.toNat) != (wi ((J r2 aP.toNat).X+1)))) (hrun:=λw=>nI (b:=(decide ((J r2 aP.toNat).X<0))) rfl aK (dF Fc) aK)<|?_;refine jl hd 0 17 rfl (R ((J kF (J r2 aP.toNat).Frame.toNat) != (wi ((J r2 aP.toNat).X+1)))) (λw=>qX (b:=(!w5)) rfl aK (by rw[show w5=false from(bF Cq)];rfl) aK)<|kI<|tn<|qB H (λc53 H=>?_) λc53 H=>?_
     ·refine wk<|bn<|bn<|tn<|wl<|ko [U,Z (wi (aP+1)),Z (wi (aP+1))]<|I<|?_;exact λ_ r=>⟨_,⟨kF,rq,tM,(wi (aP+1)),H,r.fj (h.se 6 [0,1,2,3,4])⟩,gQ _⟩
     refine gS<|wr<|br<|br<|tr<|tr<|br<|tr<|?_;cases H;exact gC (h.se 6 [])
    refine wk<|bn<|bn<|tn<|wl<|ko [U,Z (wi (aP+1)),Z (wi (aP+1))]<|I<|?_;exact λ_ r=>⟨_,⟨kF,rq,tM,(wi (aP+1)),H,r.fj (h.se 6 [0,1,2,3,4])⟩,gQ _⟩
   refine cR (bne_iff_ne.mpr xU) [50] [u fY 2]<|λ_ r=>ld (aX r (bne_iff_ne.mpr xU)) r (Z (J r2 aP.toNat).aL) (h.cell 2 rfl)<|?_;refine cR (bne_iff_ne.mpr xU) [52] [R ((J r2 aP.toNat).aL != 8)]<|ny (bne_iff_ne.mpr xU) (R ((J r2 aP.toNat).aL != 8))<|ko [R ((J r2 aP.toNat).aL != 8)]<|qI H (λV1 H=>?_) λV1 H=>?_
   ·refine bU (bne_eq_false_iff_eq.mpr V1) [55,56,57]<|nv (bne_eq_false_iff_eq.mpr V1) (R false)<|I<|λ_ r=>iT r (b:=false) rfl<|qq r<|gD<|?_;obtain⟨o56,H,TY⟩:=CZ H;refine λ_ r=>cY (β:=Unit) (λ_ a w=>.inl ()=o56/\∃j,kH 189 (lk [(1,u b1 0),(3,aY x6 r2.length x7),(6,aY iA (List.replicate O.au.toNat (0:Int)).length O.au.toNat),(7,aY q7 (List.replicate O.au.toNat (0:Int)).length O.au.toNat),(8,aY tI (List.replicate O.aF.toNat (0:Int)).length O.aF.toNat),(9,Z aP),(10,u fY 0)] j) a/\Fit z (aC (xO b1 O cH cZ dB eD bz bS bH cg::Ca x6 x7 r2::rowOf 3 1 ck (aY iA (List.replicate O.au.toNat (0:Int)).length O.au.toNat) kF::rowOf 3 1 ck (aY q7 (List.replicate O.au.toNat (0:Int)).length O.au.toNat) rq::rowOf 3 1 ck (aY tI (List.replicate O.aF.toNat (0:Int)).length O.aF.toNat) tM::fu fY (J r2 aP.toNat)::L)) w) ?_ ?_
    ·refine qq r<|aN [U]<|kL h 3<|ko [cJ ((J r2 aP.toNat).Frame<0),cJ ((J r2 aP.toNat).Frame<0)]<|qI H (λLo H=>?_) λLo H=>?_
     ·refine bU (dT Lo) [63,64,65,66,67]<|ny (dT Lo) (R true)<|bT<|bU (rfl:true=true) [70,71,72]<|ko dx<|bU (rfl:true=true) [75,76,77,78,79]<|bT<|I<|λ_ r=>dX r (b:=true) rfl<|qq r<|gS<|wr<|tr<|br<|tr<|tr<|br<|tr<|λ_ r=>oa (R false) rfl r<|?_;replace H:=tg H TY;cases H;exact⟨rfl,h.se 6 []⟩
     refine cR (dF Lo) [63] [u fY 3]<|sv (dF Lo) h 3<|cR (dF Lo) [65,66,67] [aY iA (List.replicate O.au.toNat (0:Int)).length O.au.toNat,Z (((List.replicate O.au.toNat (0:Int)).length:Nat):Int),cJ ((J r2 aP.toNat).Frame>=(((List.replicate O.au.toNat (0:Int)).length:Nat):Int))]<|nv (dF Lo) (cJ ((J r2 aP.toNat).Frame>=(((List.replicate O.au.toNat (0:Int)).length:Nat):Int)))<|ko [cJ ((J r2 aP.toNat).Frame>=(((List.replicate O.au.toNat (0:Int)).length:Nat):Int))]<|qI H (λVb H=>?_) λVb H=>?_
     ·refine bU (dT Vb) [70,71,72]<|ny (dT Vb) (R true)<|bT<|bU (rfl:true=true) [75,76,77,78,79]<|bT<|I<|λ_ r=>dX r (b:=true) rfl<|qq r<|gS<|wr<|tr<|br<|tr<|tr<|br<|tr<|λ_ r=>oa (R false) rfl r<|?_;replace H:=tg H TY;cases H;exact⟨rfl,h.se 6 []⟩
     refine cR (dF Vb) [70] [u fY 1]<|sv (dF Vb) h 1<|cR (dF Vb) [72] [cJ ((J r2 aP.toNat).gV<0)]<|nv (dF Vb) (cJ ((J r2 aP.toNat).gV<0))<|ko [cJ ((J r2 aP.toNat).gV<0)]<|qI H (λLf H=>?_) λLf H=>?_
     ·refine bU (dT Lf) [75,76,77,78,79]<|ny (dT Lf) (R true)<|I<|λ_ r=>dX r (b:=true) rfl<|qq r<|gS<|wr<|tr<|br<|tr<|tr<|br<|tr<|λ_ r=>oa (R false) rfl r<|?_;replace H:=tg H TY;cases H;exact⟨rfl,h.se 6 []⟩
     refine cR (dF Lf) [75] [u fY 1]<|sv (dF Lf) h 1<|cR (dF Lf) [77] [u b1 2]<|sv (dF Lf) (h.pick 1) 2<|cR (dF Lf) [79] [cJ ((J r2 aP.toNat).gV>=O.aF)]<|nv (dF Lf) (cJ ((J r2 aP.toNat).gV>=O.aF))<|I<|ez H (λNm H=>?_) λNm H=>?_
     ·refine gS<|wr<|tr<|br<|tr<|tr<|br<|tr<|λ_ r=>oa (R false) rfl r<|?_;replace H:=tg H TY;cases H;exact⟨rfl,h.se 6 []⟩
     refine gD<|?_;exact λ_ r=>⟨(),gA H,r.fj (h.se 6 [1,2,3,4,5,0])⟩
    clear h r;rintro _ a w ⟨rfl,j,r,h⟩;replace H:=C0 TY;refine qq r<|aN [U]<|kL (h.pick 5) 2<|I<|wb<|aN [R ((J r2 aP.toNat).aL==2),R ((J r2 aP.toNat).aL==2)]<|I<|ez H (λc61 H=>?_) λc61 H=>?_
    ·refine aN dx<|kL (h.pick 5) 3<|bT<|kL (h.pick 5) 1<|qg H λc62 H=>ko [Z (wi ((J r2 aP.toNat).gV+1))]<|ki (h.pick 2) c62<|qh h.m2 λh=>λ_ r=>BM (wn rfl) r aE h (J r2 aP.toNat).Frame.toNat 0 (Z (wi ((J r2 aP.toNat).gV+1))) (J kF (J r2 aP.toNat).Frame.toNat) (wi ((J r2 aP.toNat).gV+1)) (aS c62) λw h=>qq r<|I<|wl<|ko dx<|kL (h.pick 5) 3<|qg H λc63 H=>ko [U,Z (wi (aP+1))]<|ki (h.pick 3) c63<|qh h.m3 λh=>λ_ r=>BM (wn rfl) r aE h (J r2 aP.toNat).Frame.toNat 0 (Z (wi (aP+1))) (J rq (J r2 aP.toNat).Frame.toNat) (wi (aP+1)) (aS c63) λw h=>qq r<|kl<|bn<|bn<|tn<|wl<|ko [U,Z (wi (aP+1)),Z (wi (aP+1))]<|I<|?_;exact λ_ r=>⟨_,⟨(kF.set (J r2 aP.toNat).Frame.toNat (wi ((J r2 aP.toNat).gV+1))),(rq.set (J r2 aP.toNat).Frame.toNat (wi (aP+1))),tM,(wi (aP+1)),H,r.fj (h.se 6 [2,3,1,0,4])⟩,gQ _⟩
    refine aN [R ((J r2 aP.toNat).aL==8),R ((J r2 aP.toNat).aL==8)]<|I<|ez H (λc64 H=>?_) λc64 H=>?_
    ·refine wq<|wq<|qI H (λz9 H=>?_) λz9 H=>?_
     ·refine lC [(fY,4,[Z (J r2 aP.toNat).X])] [0] 41 h (λh=>⟨⟨(h.pick 5).cell 4 rfl,bx⟩,bx⟩) λw h hd =>iy hd 40 [(0,100,u fY 4)]<|fg hd 0 39 1 rfl<|ju hd 37 100 [([2,3],cJ ((J r2 aP.toNat).X<0))]<|λ_ r=>eof hd 36 4 rfl (aX r (dT z9)) r<|?_;refine λ_ r=>eof hd 35 6 rfl (aX r (dT z9)) r<|?_;refine λ_ r=>eof hd 34 5 rfl (aX r (dT z9)) r<|?_;refine λ_ r=>eof hd 33 7 rfl (aX r (dT z9)) r<|?_;refine λ_ r=>eof hd 32 8 rfl (aX r (dT z9)) r<|?_;refine jl hd 31 9 rfl (R true) (λw=>qX (b:=(decide ((J r2 aP.toNat).X<0))) rfl aK (dT z9) aK)<|iy hd 30 [(10,110,R true)]<|λ_ r=>eof hd 29 11 rfl (aX r (c:=true) rfl) r<|?_;refine λ_ r=>eof hd 28 13 rfl (aX r (c:=true) rfl) r<|?_;refine λ_ r=>eof hd 27 12 rfl (aX r (c:=true) rfl) r<|?_;refine λ_ r=>eof hd 26 14 rfl (aX r (c:=true) rfl) r<|?_;refine λ_ r=>eof hd 25 15 rfl (aX r (c:=true) rfl) r<|?_;refine ju hd 23 100 [([16,17],R true)]<|λ_ r=>eof hd 22 18 rfl (aX r (c:=true) rfl) r<|?_;refine λ_ r=>eof hd 21 19 rfl (aX r (c:=true) rfl) r<|?_;refine λ_ r=>eof hd 20 23 rfl (aX r (c:=true) rfl) r<|?_;refine λ_ r=>eof hd 19 20 rfl (aX r (c:=true) rfl) r<|?_;refine λ_ r=>eof hd 18 21 rfl (aX r (c:=true) rfl) r<|?_;refine λ_ r=>eof hd 17 22 rfl (aX r (c:=true) rfl) r<|?_;refine λ_ r=>eof hd 16 24 rfl (aX r (c:=true) rfl) r<|?_;refine λ_ r=>eof hd 15 25 rfl (aX r (c:=true) rfl) r<|?_;refine λ_ r=>eof hd 14 26 rfl (aX r (c:=true) rfl) r<|?_;refine ju hd 12 100 [([27,28],R true)]<|λ_ r=>eof hd 11 29 rfl (aX r (c:=true) rfl) r<|?_;refine λ_ r=>eof hd 10 30 rfl (aX r (c:=true) rfl) r<|?_;refine λ_ r=>eof hd 9 34 rfl (aX r (c:=true) rfl) r<|?_;refine λ_ r=>eof hd 8 35 rfl (aX r (c:=true) rfl) r<|?_;refine λ_ r=>eof hd 7 31 rfl (aX r (c:=true) rfl) r<|?_;refine λ_ r=>eof hd 6 32 rfl (aX r (c:=true) rfl) r<|?_;refine λ_ r=>eof hd 5 33 rfl (aX r (c:=true) rfl) r<|?_;refine λ_ r=>eof hd 4 36 rfl (aX r (c:=true) rfl) r<|?_;refine λ_ r=>eof hd 3 37 rfl (aX r (c:=true) rfl) r<|?_;refine λ_ r=>eof hd 2 38 rfl (aX r (c:=true) rfl) r<|?_;refine λ_ r=>eof hd 1 39 rfl (aX r (c:=true) rfl) r<|?_;refine iy hd 0 [(40,140,R true)]<|kI<|tn<|λ_ r=>dX r (b:=true) rfl<|qq r<|gS<|wr<|tr<|br<|br<|tr<|tr<|br<|tr<|?_;cases H;exact gC (h.se 6 [])
     refine qI H (λFA H=>?_) λFA H=>?_
     ·refine lC [(fY,4,[Z (J r2 aP.toNat).X]),(fY,4,[Z (J r2 aP.toNat).X]),(b1,2,[Z O.aF])] [0,2,4,6] 41 h (λh=>⟨⟨(h.pick 5).cell 4 rfl,bx⟩,⟨(h.pick 5).cell 4 rfl,bx⟩,⟨h.cell 2 rfl,bx⟩,bx⟩) λw h hd =>iy hd 40 [(0,100,u fY 4)]<|fg hd 0 39 1 rfl<|ju hd 37 100 [([2,3],cJ ((J r2 aP.toNat).X<0))]<|λ_ r=>fV hd 36 4 rfl (aX r (dF z9)) r (u fY 4)<|?_;refine λ_ r=>fV hd 35 6 rfl (aX r (dF z9)) r (u b1 2)<|?_;refine λ_ r=>mT hd 1 34 5 r (aX r (dF z9)) rfl rfl<|?_;refine λ_ r=>mT hd 2 33 7 r (aX r (dF z9)) rfl rfl<|?_;refine λ_ r=>fV hd 32 8 rfl (aX r (dF z9)) r (cJ ((J r2 aP.toNat).X>=O.aF))<|?_;refine jl hd 31 9 rfl (cJ ((J r2 aP.toNat).X>=O.aF)) (λw=>nI (b:=(decide ((J r2 aP.toNat).X<0))) rfl aK (dF z9) aK)<|iy hd 30 [(10,110,cJ ((J r2 aP.toNat).X>=O.aF))]<|λ_ r=>eof hd 29 11 rfl (aX r (dT FA)) r<|?_;refine λ_ r=>eof hd 28 13 rfl (aX r (dT FA)) r<|?_;refine λ_ r=>eof hd 27 12 rfl (aX r (dT FA)) r<|?_;refine λ_ r=>eof hd 26 14 rfl (aX r (dT FA)) r<|?_;refine λ_ r=>eof hd 25 15 rfl (aX r (dT FA)) r<|?_;refine jl hd 24 16 rfl (R true) (λw=>qX (b:=(decide ((J r2 aP.toNat).X>=O.aF))) rfl aK (dT FA) aK)<|iy hd 23 [(17,117,R true)]<|λ_ r=>eof hd 22 18 rfl (aX r (c:=true) rfl) r<|?_;refine λ_ r=>eof hd 21 19 rfl (aX r (c:=true) rfl) r<|?_;refine λ_ r=>eof hd 20 23 rfl (aX r (c:=true) rfl) r<|?_;refine λ_ r=>eof hd 19 20 rfl (aX r (c:=true) rfl) r<|?_;refine λ_ r=>eof hd 18 21 rfl (aX r (c:=true) rfl) r<|?_;refine λ_ r=>eof hd 17 22 rfl (aX r (c:=true) rfl) r<|?_;refine λ_ r=>eof hd 16 24 rfl (aX r (c:=true) rfl) r<|?_;refine λ_ r=>eof hd 15 25 rfl (aX r (c:=true) rfl) r<|?_;refine λ_ r=>eof hd 14 26 rfl (aX r (c:=true) rfl) r<|?_;refine ju hd 12 100 [([27,28],R true)]<|λ_ r=>eof hd 11 29 rfl (aX r (c:=true) rfl) r<|?_;refine λ_ r=>eof hd 10 30 rfl (aX r (c:=true) rfl) r<|?_;refine λ_ r=>eof hd 9 34 rfl (aX r (c:=true) rfl) r<|?_;refine λ_ r=>eof hd 8 35 rfl (aX r (c:=true) rfl) r<|?_;refine λ_ r=>eof hd 7 31 rfl (aX r (c:=true) rfl) r<|?_;refine λ_ r=>eof hd 6 32 rfl (aX r (c:=true) rfl) r<|?_;refine λ_ r=>eof hd 5 33 rfl (aX r (c:=true) rfl) r<|?_;refine λ_ r=>eof hd 4 36 rfl (aX r (c:=true) rfl) r<|?_;refine λ_ r=>eof hd 3 37 rfl (aX r (c:=true) rfl) r<|?_;refine λ_ r=>eof hd 2 38 rfl (aX r (c:=true) rfl) r<|?_;refine λ_ r=>eof hd 1 39 rfl (aX r (c:=true) rfl) r<|?_;refine iy hd 0 [(40,140,R true)]<|kI<|tn<|λ_ r=>dX r (b:=true) rfl<|qq r<|gS<|wr<|tr<|br<|br<|tr<|tr<|br<|tr<|?_;cases H;exact gC (h.se 6 [])
     refine qI H (λAu H=>?_) λAu H=>?_
     ·refine lC [(fY,4,[Z (J r2 aP.toNat).X]),(fY,4,[Z (J r2 aP.toNat).X]),(b1,2,[Z O.aF]),(fY,4,[Z (J r2 aP.toNat).X]),(fY,1,[Z (J r2 aP.toNat).gV])] [0,2,4,6,8,11,13] 41 h (λh=>⟨⟨(h.pick 5).cell 4 rfl,bx⟩,⟨(h.pick 5).cell 4 rfl,bx⟩,⟨h.cell 2 rfl,bx⟩,⟨(h.pick 5).cell 4 rfl,bx⟩,⟨(h.pick 5).cell 1 rfl,bx⟩,bx⟩) λw h hd =>iy hd 40 [(0,100,u fY 4)]<|fg hd 0 39 1 rfl<|ju hd 37 100 [([2,3],cJ ((J r2 aP.toNat).X<0))]<|λ_ r=>fV hd 36 4 rfl (aX r (dF z9)) r (u fY 4)<|?_;refine λ_ r=>fV hd 35 6 rfl (aX r (dF z9)) r (u b1 2)<|?_;refine λ_ r=>mT hd 1 34 5 r (aX r (dF z9)) rfl rfl<|?_;refine λ_ r=>mT hd 2 33 7 r (aX r (dF z9)) rfl rfl<|?_;refine λ_ r=>fV hd 32 8 rfl (aX r (dF z9)) r (cJ ((J r2 aP.toNat).X>=O.aF))<|?_;refine jl hd 31 9 rfl (cJ ((J r2 aP.toNat).X>=O.aF)) (λw=>nI (b:=(decide ((J r2 aP.toNat).X<0))) rfl aK (dF z9) aK)<|iy hd 30 [(10,110,cJ ((J r2 aP.toNat).X>=O.aF))]<|λ_ r=>fV hd 29 11 rfl (aX r (dF FA)) r (u fY 4)<|?_;refine λ_ r=>fV hd 28 13 rfl (aX r (dF FA)) r (u fY 1)<|?_;refine λ_ r=>mT hd 3 27 12 r (aX r (dF FA)) rfl rfl<|?_;refine λ_ r=>mT hd 4 26 14 r (aX r (dF FA)) rfl rfl<|?_;refine λ_ r=>fV hd 25 15 rfl (aX r (dF FA)) r (R ((J r2 aP.toNat).X==(J r2 aP.toNat).gV))<|?_;refine jl hd 24 16 rfl (R ((J r2 aP.toNat).X==(J r2 aP.toNat).gV)) (λw=>nI (b:=(decide ((J r2 aP.toNat).X>=O.aF))) rfl aK (dF FA) aK)<|iy hd 23 [(17,117,R ((J r2 aP.toNat).X==(J r2 aP.toNat).gV))]<|λ_ r=>eof hd 22 18 rfl (aX r (beq_iff_eq.mpr Au)) r<|?_;refine λ_ r=>eof hd 21 19 rfl (aX r (beq_iff_eq.mpr Au)) r<|?_;refine λ_ r=>eof hd 20 23 rfl (aX r (beq_iff_eq.mpr Au)) r<|?_;refine λ_ r=>eof hd 19 20 rfl (aX r (beq_iff_eq.mpr Au)) r<|?_;refine λ_ r=>eof hd 18 21 rfl (aX r (beq_iff_eq.mpr Au)) r<|?_;refine λ_ r=>eof hd 17 22 rfl (aX r (beq_iff_eq.mpr Au)) r<|?_;refine λ_ r=>eof hd 16 24 rfl (aX r (beq_iff_eq.mpr Au)) r<|?_;refine λ_ r=>eof hd 15 25 rfl (aX r (beq_iff_eq.mpr Au)) r<|?_;refine λ_ r=>eof hd 14 26 rfl (aX r (beq_iff_eq.mpr Au)) r<|?_;refine jl hd 13 27 rfl (R true) (λw=>qX (b:=((J r2 aP.toNat).X==(J r2 aP.toNat).gV)) rfl aK (beq_iff_eq.mpr Au) aK)<|iy hd 12 [(28,128,R true)]<|λ_ r=>eof hd 11 29 rfl (aX r (c:=true) rfl) r<|?_;refine λ_ r=>eof hd 10 30 rfl (aX r (c:=true) rfl) r<|?_;refine λ_ r=>eof hd 9 34 rfl (aX r (c:=true) rfl) r<|?_;refine λ_ r=>eof hd 8 35 rfl (aX r (c:=true) rfl) r<|?_;refine λ_ r=>eof hd 7 31 rfl (aX r (c:=true) rfl) r<|?_;refine λ_ r=>eof hd 6 32 rfl (aX r (c:=true) rfl) r<|?_;refine λ_ r=>eof hd 5 33 rfl (aX r (c:=true) rfl) r<|?_;refine λ_ r=>eof hd 4 36 rfl (aX r (c:=true) rfl) r<|?_;refine λ_ r=>eof hd 3 37 rfl (aX r (c:=true) rfl) r<|?_;refine λ_ r=>eof hd 2 38 rfl (aX r (c:=true) rfl) r<|?_;refine λ_ r=>eof hd 1 39 rfl (aX r (c:=true) rfl) r<|?_;refine iy hd 0 [(40,140,R true)]<|kI<|tn<|λ_ r=>dX r (b:=true) rfl<|qq r<|gS<|wr<|tr<|br<|br<|tr<|tr<|br<|tr<|?_;cases H;exact gC (h.se 6 [])
     refine qg H λWT H=>qI H (λDr H=>?_) λDr H=>?_
     ·refine qg H λUd H=>qg H λZF H=>lC [(fY,4,[Z (J r2 aP.toNat).X]),(fY,4,[Z (J r2 aP.toNat).X]),(b1,2,[Z O.aF]),(fY,4,[Z (J r2 aP.toNat).X]),(fY,1,[Z (J r2 aP.toNat).gV]),(fY,3,[Z (J r2 aP.toNat).Frame]),(dA iA,(J r2 aP.toNat).Frame.toNat*1,[Z (J kF (J r2 aP.toNat).Frame.toNat)]),(fY,4,[Z (J r2 aP.toNat).X]),(fY,3,[Z (J r2 aP.toNat).Frame]),(dA q7,(J r2 aP.toNat).Frame.toNat*1,[Z (J rq (J r2 aP.toNat).Frame.toNat)]),(fY,4,[Z (J r2 aP.toNat).X]),(dA tI,(J r2 aP.toNat).X.toNat*1,[Z (J tM (J r2 aP.toNat).X.toNat)])] [0,2,4,6,8,11,13,15,19,21,23,25,26,30,32,35,37] 41 h (λh=>⟨⟨(h.pick 5).cell 4 rfl,bx⟩,⟨(h.pick 5).cell 4 rfl,bx⟩,⟨h.cell 2 rfl,bx⟩,⟨(h.pick 5).cell 4 rfl,bx⟩,⟨(h.pick 5).cell 1 rfl,bx⟩,⟨(h.pick 5).cell 3 rfl,bx⟩,⟨(h.pick 2).bE aE (f:=0) (aS WT) rfl,bx⟩,⟨(h.pick 5).cell 4 rfl,bx⟩,⟨(h.pick 5).cell 3 rfl,bx⟩,⟨(h.pick 3).bE aE (f:=0) (aS Ud) rfl,bx⟩,⟨(h.pick 5).cell 4 rfl,bx⟩,⟨(h.pick 4).bE aE (f:=0) (aS ZF) rfl,bx⟩,bx⟩) λw h hd =>iy hd 40 [(0,100,u fY 4)]<|fg hd 0 39 1 rfl<|ju hd 37 100 [([2,3],cJ ((J r2 aP.toNat).X<0))]<|λ_ r=>fV hd 36 4 rfl (aX r (dF z9)) r (u fY 4)<|?_;refine λ_ r=>fV hd 35 6 rfl (aX r (dF z9)) r (u b1 2)<|?_;refine λ_ r=>mT hd 1 34 5 r (aX r (dF z9)) rfl rfl<|?_;refine λ_ r=>mT hd 2 33 7 r (aX r (dF z9)) rfl rfl<|?_;refine λ_ r=>fV hd 32 8 rfl (aX r (dF z9)) r (cJ ((J r2 aP.toNat).X>=O.aF))<|?_;refine jl hd 31 9 rfl (cJ ((J r2 aP.toNat).X>=O.aF)) (λw=>nI (b:=(decide ((J r2 aP.toNat).X<0))) rfl aK (dF z9) aK)<|iy hd 30 [(10,110,cJ ((J r2 aP.toNat).X>=O.aF))]<|λ_ r=>fV hd 29 11 rfl (aX r (dF FA)) r (u fY 4)<|?_;refine λ_ r=>fV hd 28 13 rfl (aX r (dF FA)) r (u fY 1)<|?_;refine λ_ r=>mT hd 3 27 12 r (aX r (dF FA)) rfl rfl<|?_;refine λ_ r=>mT hd 4 26 14 r (aX r (dF FA)) rfl rfl<|?_;refine λ_ r=>fV hd 25 15 rfl (aX r (dF FA)) r (R ((J r2 aP.toNat).X==(J r2 aP.toNat).gV))<|?_;refine jl hd 24 16 rfl (R ((J r2 aP.toNat).X==(J r2 aP.toNat).gV)) (λw=>nI (b:=(decide ((J r2 aP.toNat).X>=O.aF))) rfl aK (dF FA) aK)<|iy hd 23 [(17,117,R ((J r2 aP.toNat).X==(J r2 aP.toNat).gV))]<|λ_ r=>fV hd 22 18 rfl (aX r (bN Au)) r (aY iA (List.replicate O.au.toNat (0:Int)).length O.au.toNat)<|?_;refine λ_ r=>fV hd 21 19 rfl (aX r (bN Au)) r (u fY 3)<|?_;refine λ_ r=>fV hd 20 23 rfl (aX r (bN Au)) r (u fY 4)<|?_;refine λ_ r=>mT hd 5 19 20 r (aX r (bN Au)) rfl rfl<|?_;refine λ_ r=>fV hd 18 21 rfl (aX r (bN Au)) r (u (dA iA) ((J r2 aP.toNat).Frame.toNat*1)) (hrun:=λw=>nN 3 rfl (h.pick 2) WT)<|?_;refine λ_ r=>mT hd 6 17 22 r (aX r (bN Au)) rfl rfl<|?_;refine λ_ r=>mT hd 7 16 24 r (aX r (bN Au)) rfl rfl<|?_;refine λ_ r=>fV hd 15 25 rfl (aX r (bN Au)) r (Z (wi ((J r2 aP.toNat).X+1)))<|?_;refine λ_ r=>fV hd 14 26 rfl (aX r (bN Au)) r (R ((J kF (J r2 aP.toNat).Frame.toNat) != (wi ((J r2 aP.toNat).X+1))))<|?_;refine jl hd 13 27 rfl (R ((J kF (J r2 aP.toNat).Frame.toNat) != (wi ((J r2 aP.toNat).X+1)))) (λw=>nI (b:=((J r2 aP.toNat).X==(J r2 aP.toNat).gV)) rfl aK (bN Au) aK)<|?_
      refine iy hd 12 [(28,128,R ((J kF (J r2 aP.toNat).Frame.toNat) != (wi ((J r2 aP.toNat).X+1))))]<|λ_ r=>fV hd 11 29 rfl (aX r (bne_eq_false_iff_eq.mpr Dr)) r (aY q7 (List.replicate O.au.toNat (0:Int)).length O.au.toNat)<|?_;refine λ_ r=>fV hd 10 30 rfl (aX r (bne_eq_false_iff_eq.mpr Dr)) r (u fY 3)<|?_;refine λ_ r=>fV hd 9 34 rfl (aX r (bne_eq_false_iff_eq.mpr Dr)) r (aY tI (List.replicate O.aF.toNat (0:Int)).length O.aF.toNat)<|?_;refine λ_ r=>fV hd 8 35 rfl (aX r (bne_eq_false_iff_eq.mpr Dr)) r (u fY 4)<|?_;refine λ_ r=>mT hd 8 7 31 r (aX r (bne_eq_false_iff_eq.mpr Dr)) rfl rfl<|?_;refine λ_ r=>fV hd 6 32 rfl (aX r (bne_eq_false_iff_eq.mpr Dr)) r (u (dA q7) ((J r2 aP.toNat).Frame.toNat*1)) (hrun:=λw=>nN 3 rfl (h.pick 3) Ud)<|?_;refine λ_ r=>mT hd 9 5 33 r (aX r (bne_eq_false_iff_eq.mpr Dr)) rfl rfl<|?_;refine λ_ r=>mT hd 10 4 36 r (aX r (bne_eq_false_iff_eq.mpr Dr)) rfl rfl<|?_;refine λ_ r=>fV hd 3 37 rfl (aX r (bne_eq_false_iff_eq.mpr Dr)) r (u (dA tI) ((J r2 aP.toNat).X.toNat*1)) (hrun:=λw=>nN 3 rfl (h.pick 4) ZF)<|?_;refine λ_ r=>mT hd 11 2 38 r (aX r (bne_eq_false_iff_eq.mpr Dr)) rfl rfl<|?_;refine λ_ r=>fV hd 1 39 rfl (aX r (bne_eq_false_iff_eq.mpr Dr)) r (cJ ((J rq (J r2 aP.toNat).Frame.toNat)<=(J tM (J r2 aP.toNat).X.toNat)))<|?_;refine jl hd 0 40 rfl (cJ ((J rq (J r2 aP.toNat).Frame.toNat)<=(J tM (J r2 aP.toNat).X.toNat))) (λw=>nI (b:=((J kF (J r2 aP.toNat).Frame.toNat) != (wi ((J r2 aP.toNat).X+1)))) rfl aK (bne_eq_false_iff_eq.mpr Dr) aK)<|kI<|tn<|ez H (λc72 H=>?_) λc72 H=>?_
      ·refine gS<|wr<|tr<|br<|br<|tr<|tr<|br<|tr<|?_;cases H;exact gC (h.se 6 [])
      refine gD<|lC [(fY,4,[Z (J r2 aP.toNat).X]),(fY,3,[Z (J r2 aP.toNat).Frame]),(dA q7,(J r2 aP.toNat).Frame.toNat*1,[Z (J rq (J r2 aP.toNat).Frame.toNat)])] [1,4,6] 10 h (λh=>⟨⟨(h.pick 5).cell 4 rfl,bx⟩,⟨(h.pick 5).cell 3 rfl,bx⟩,⟨(h.pick 3).bE aE (f:=0) (aS Ud) rfl,bx⟩,bx⟩) λw h hd =>ju hd 6 141 [([0],aY tI (List.replicate O.aF.toNat (0:Int)).length O.aF.toNat),([1],u fY 4),([3],aY q7 (List.replicate O.au.toNat (0:Int)).length O.au.toNat),([4],u fY 3)]<|fg hd 0 5 2 rfl<|fg hd 1 4 5 rfl<|jl hd 3 6 rfl (u (dA q7) ((J r2 aP.toNat).Frame.toNat*1)) (λw=>nN 3 rfl (h.pick 3) Ud)<|fg hd 2 2 7 rfl<|jl hd 1 8 rfl (u (dA tI) ((J r2 aP.toNat).X.toNat*1)) (λw=>nN 3 rfl (h.pick 4) ZF)<|λ_ r=>lI 9 rfl<|qh h.m4 λh=>BM (wn rfl) r aE h (J r2 aP.toNat).X.toNat 0 (Z (J rq (J r2 aP.toNat).Frame.toNat)) (J tM (J r2 aP.toNat).X.toNat) (J rq (J r2 aP.toNat).Frame.toNat) (aS ZF) λw h=>qq r<|I<|mJ<|kI<|bn<|bn<|tn<|wl<|ko [U,Z (wi (aP+1)),Z (wi (aP+1))]<|I<|?_;exact λ_ r=>⟨_,⟨kF,rq,(tM.set (J r2 aP.toNat).X.toNat (J rq (J r2 aP.toNat).Frame.toNat)),(wi (aP+1)),H,r.fj (h.se 6 [1,2,3,4,0])⟩,gQ _⟩
     refine lC [(fY,4,[Z (J r2 aP.toNat).X]),(fY,4,[Z (J r2 aP.toNat).X]),(b1,2,[Z O.aF]),(fY,4,[Z (J r2 aP.toNat).X]),(fY,1,[Z (J r2 aP.toNat).gV]),(fY,3,[Z (J r2 aP.toNat).Frame]),(dA iA,(J r2 aP.toNat).Frame.toNat*1,[Z (J kF (J r2 aP.toNat).Frame.toNat)]),(fY,4,[Z (J r2 aP.toNat).X])] [0,2,4,6,8,11,13,15,19,21,23,25] 41 h (λh=>⟨⟨(h.pick 5).cell 4 rfl,bx⟩,⟨(h.pick 5).cell 4 rfl,bx⟩,⟨h.cell 2 rfl,bx⟩,⟨(h.pick 5).cell 4 rfl,bx⟩,⟨(h.pick 5).cell 1 rfl,bx⟩,⟨(h.pick 5).cell 3 rfl,bx⟩,⟨(h.pick 2).bE aE (f:=0) (aS WT) rfl,bx⟩,⟨(h.pick 5).cell 4 rfl,bx⟩,bx⟩) λw h hd =>iy hd 40 [(0,100,u fY 4)]<|fg hd 0 39 1 rfl<|ju hd 37 100 [([2,3],cJ ((J r2 aP.toNat).X<0))]<|λ_ r=>fV hd 36 4 rfl (aX r (dF z9)) r (u fY 4)<|?_;refine λ_ r=>fV hd 35 6 rfl (aX r (dF z9)) r (u b1 2)<|?_;refine λ_ r=>mT hd 1 34 5 r (aX r (dF z9)) rfl rfl<|?_;refine λ_ r=>mT hd 2 33 7 r (aX r (dF z9)) rfl rfl<|?_;refine λ_ r=>fV hd 32 8 rfl (aX r (dF z9)) r (cJ ((J r2 aP.toNat).X>=O.aF))<|?_;refine jl hd 31 9 rfl (cJ ((J r2 aP.toNat).X>=O.aF)) (λw=>nI (b:=(decide ((J r2 aP.toNat).X<0))) rfl aK (dF z9) aK)<|iy hd 30 [(10,110,cJ ((J r2 aP.toNat).X>=O.aF))]<|λ_ r=>fV hd 29 11 rfl (aX r (dF FA)) r (u fY 4)<|?_;refine λ_ r=>fV hd 28 13 rfl (aX r (dF FA)) r (u fY 1)<|?_;refine λ_ r=>mT hd 3 27 12 r (aX r (dF FA)) rfl rfl<|?_;refine λ_ r=>mT hd 4 26 14 r (aX r (dF FA)) rfl rfl<|?_;refine λ_ r=>fV hd 25 15 rfl (aX r (dF FA)) r (R ((J r2 aP.toNat).X==(J r2 aP.toNat).gV))<|?_;refine jl hd 24 16 rfl (R ((J r2 aP.toNat).X==(J r2 aP.toNat).gV)) (λw=>nI (b:=(decide ((J r2 aP.toNat).X>=O.aF))) rfl aK (dF FA) aK)<|iy hd 23 [(17,117,R ((J r2 aP.toNat).X==(J r2 aP.toNat).gV))]<|λ_ r=>fV hd 22 18 rfl (aX r (bN Au)) r (aY iA (List.replicate O.au.toNat (0:Int)).length O.au.toNat)<|?_;refine λ_ r=>fV hd 21 19 rfl (aX r (bN Au)) r (u fY 3)<|?_;refine λ_ r=>fV hd 20 23 rfl (aX r (bN Au)) r (u fY 4)<|?_;refine λ_ r=>mT hd 5 19 20 r (aX r (bN Au)) rfl rfl<|?_;refine λ_ r=>fV hd 18 21 rfl (aX r (bN Au)) r (u (dA iA) ((J r2 aP.toNat).Frame.toNat*1)) (hrun:=λw=>nN 3 rfl (h.pick 2) WT)<|?_;refine λ_ r=>mT hd 6 17 22 r (aX r (bN Au)) rfl rfl<|?_;refine λ_ r=>mT hd 7 16 24 r (aX r (bN Au)) rfl rfl<|?_;refine λ_ r=>fV hd 15 25 rfl (aX r (bN Au)) r (Z (wi ((J r2 aP.toNat).X+1)))<|?_;refine λ_ r=>fV hd 14 26 rfl (aX r (bN Au)) r (R ((J kF (J r2 aP.toNat).Frame.toNat) != (wi ((J r2 aP.toNat).X+1))))<|?_;refine jl hd 13 27 rfl (R ((J kF (J r2 aP.toNat).Frame.toNat) != (wi ((J r2 aP.toNat).X+1)))) (λw=>nI (b:=((J r2 aP.toNat).X==(J r2 aP.toNat).gV)) rfl aK (bN Au) aK)<|iy hd 12 [(28,128,R ((J kF (J r2 aP.toNat).Frame.toNat) != (wi ((J r2 aP.toNat).X+1))))]<|λ_ r=>eof hd 11 29 rfl (aX r (bne_iff_ne.mpr Dr)) r<|?_;refine λ_ r=>eof hd 10 30 rfl (aX r (bne_iff_ne.mpr Dr)) r<|?_;refine λ_ r=>eof hd 9 34 rfl (aX r (bne_iff_ne.mpr Dr)) r<|?_;refine λ_ r=>eof hd 8 35 rfl (aX r (bne_iff_ne.mpr Dr)) r<|?_;refine λ_ r=>eof hd 7 31 rfl (aX r (bne_iff_ne.mpr Dr)) r<|?_;refine λ_ r=>eof hd 6 32 rfl (aX r (bne_iff_ne.mpr Dr)) r<|?_;refine λ_ r=>eof hd 5 33 rfl (aX r (bne_iff_ne.mpr Dr)) r<|?_;refine λ_ r=>eof hd 4 36 rfl (aX r (bne_iff_ne.mpr Dr)) r<|?_
     refine λ_ r=>eof hd 3 37 rfl (aX r (bne_iff_ne.mpr Dr)) r<|?_;refine λ_ r=>eof hd 2 38 rfl (aX r (bne_iff_ne.mpr Dr)) r<|?_;refine λ_ r=>eof hd 1 39 rfl (aX r (bne_iff_ne.mpr Dr)) r<|?_;refine jl hd 0 40 rfl (R true) (λw=>qX (b:=((J kF (J r2 aP.toNat).Frame.toNat) != (wi ((J r2 aP.toNat).X+1)))) rfl aK (bne_iff_ne.mpr Dr) aK)<|kI<|tn<|λ_ r=>dX r (b:=true) rfl<|qq r<|gS<|wr<|tr<|br<|br<|tr<|tr<|br<|tr<|?_;cases H;exact gC (h.se 6 [])
    refine aN [R ((J r2 aP.toNat).aL==1),R ((J r2 aP.toNat).aL==1)]<|I<|ez H (λc73 H=>?_) λc73 H=>?_
    ·refine DV H λo76 H aew=>λ_ r=>cY (β:=Unit) (λ_ a w=>∃rX:Bool,rX=o76/\∃j,kH 189 (lk [(1,u b1 0),(3,aY x6 r2.length x7),(6,aY iA (List.replicate O.au.toNat (0:Int)).length O.au.toNat),(7,aY q7 (List.replicate O.au.toNat (0:Int)).length O.au.toNat),(8,aY tI (List.replicate O.aF.toNat (0:Int)).length O.aF.toNat),(9,Z aP),(10,u fY 0),(11,R rX)] j) a/\Fit z (aC (xO b1 O cH cZ dB eD bz bS bH cg::Ca x6 x7 r2::rowOf 3 1 ck (aY iA (List.replicate O.au.toNat (0:Int)).length O.au.toNat) kF::rowOf 3 1 ck (aY q7 (List.replicate O.au.toNat (0:Int)).length O.au.toNat) rq::rowOf 3 1 ck (aY tI (List.replicate O.aF.toNat (0:Int)).length O.aF.toNat) tM::fu fY (J r2 aP.toNat)::L)) w) ?_ ?_
     ·refine qI H (λKj H=>?_) λKj H=>?_
      ·refine qI H (λGU H=>?_) λGU H=>?_
       ·refine vZ [(fY,4,[Z (J r2 aP.toNat).X]),(fY,3,[Z (J r2 aP.toNat).Frame])] [0,2,4] 20 h (λh=>⟨⟨(h.pick 5).cell 4 rfl,bx⟩,⟨(h.pick 5).cell 3 rfl,bx⟩,bx⟩) λw h hd =>qq r<|iy hd 19 [(0,152,u fY 4)]<|fg hd 0 18 1 rfl<|ju hd 16 152 [([2,3],R ((J r2 aP.toNat).X==(-1)))]<|λ_ r=>fV hd 15 4 rfl (aX r (beq_iff_eq.mpr Kj)) r (u fY 3)<|?_;refine λ_ r=>mT hd 1 14 5 r (aX r (beq_iff_eq.mpr Kj)) rfl rfl<|?_;refine λ_ r=>fV hd 13 6 rfl (aX r (beq_iff_eq.mpr Kj)) r (R ((J r2 aP.toNat).Frame==0))<|?_;refine λ_ r=>fV hd 12 7 rfl (aX r (beq_iff_eq.mpr Kj)) r (R ((J r2 aP.toNat).Frame==0))<|?_;refine λ_ r=>eof hd 11 8 rfl (aX r (beq_iff_eq.mpr GU)) r<|?_;refine λ_ r=>eof hd 10 9 rfl (aX r (beq_iff_eq.mpr GU)) r<|?_;refine λ_ r=>eof hd 9 13 rfl (aX r (beq_iff_eq.mpr GU)) r<|?_;refine λ_ r=>eof hd 8 10 rfl (aX r (beq_iff_eq.mpr GU)) r<|?_;refine λ_ r=>eof hd 7 11 rfl (aX r (beq_iff_eq.mpr GU)) r<|?_;refine λ_ r=>eof hd 6 12 rfl (aX r (beq_iff_eq.mpr GU)) r<|?_;refine λ_ r=>eof hd 5 14 rfl (aX r (beq_iff_eq.mpr GU)) r<|?_;refine λ_ r=>eof hd 4 15 rfl (aX r (beq_iff_eq.mpr GU)) r<|?_;refine λ_ r=>eof hd 3 16 rfl (aX r (beq_iff_eq.mpr GU)) r<|?_;refine λ_ r=>fV hd 2 17 rfl (aX r (beq_iff_eq.mpr Kj)) r (R true) (hrun:=λw=>qX (b:=((J r2 aP.toNat).Frame==0)) rfl aK (beq_iff_eq.mpr GU) aK)<|?_;refine jl hd 1 18 rfl (R true) (λw=>qX (b:=((J r2 aP.toNat).X==(-1))) rfl aK (beq_iff_eq.mpr Kj) aK)<|iy hd 0 [(19,11,R true)]<|kI<|tn<|?_;exact λ_ r=>⟨(),true,gA H,r.fj h⟩
       refine qg H λWU H=>vZ [(fY,4,[Z (J r2 aP.toNat).X]),(fY,3,[Z (J r2 aP.toNat).Frame]),(fY,3,[Z (J r2 aP.toNat).Frame]),(dA iA,(J r2 aP.toNat).Frame.toNat*1,[Z (J kF (J r2 aP.toNat).Frame.toNat)]),(fY,1,[Z (J r2 aP.toNat).gV])] [0,2,4,6,9,11,13,15] 20 h (λh=>⟨⟨(h.pick 5).cell 4 rfl,bx⟩,⟨(h.pick 5).cell 3 rfl,bx⟩,⟨(h.pick 5).cell 3 rfl,bx⟩,⟨(h.pick 2).bE aE (f:=0) (aS WU) rfl,bx⟩,⟨(h.pick 5).cell 1 rfl,bx⟩,bx⟩) λw h hd =>qq r<|iy hd 19 [(0,152,u fY 4)]<|fg hd 0 18 1 rfl<|ju hd 16 152 [([2,3],R ((J r2 aP.toNat).X==(-1)))]<|λ_ r=>fV hd 15 4 rfl (aX r (beq_iff_eq.mpr Kj)) r (u fY 3)<|?_;refine λ_ r=>mT hd 1 14 5 r (aX r (beq_iff_eq.mpr Kj)) rfl rfl<|?_;refine λ_ r=>fV hd 13 6 rfl (aX r (beq_iff_eq.mpr Kj)) r (R ((J r2 aP.toNat).Frame==0))<|?_;refine λ_ r=>fV hd 12 7 rfl (aX r (beq_iff_eq.mpr Kj)) r (R ((J r2 aP.toNat).Frame==0))<|?_;refine λ_ r=>fV hd 11 8 rfl (aX r (bN GU)) r (aY iA (List.replicate O.au.toNat (0:Int)).length O.au.toNat)<|?_;refine λ_ r=>fV hd 10 9 rfl (aX r (bN GU)) r (u fY 3)<|?_;refine λ_ r=>fV hd 9 13 rfl (aX r (bN GU)) r (u fY 1)<|?_;refine λ_ r=>mT hd 2 8 10 r (aX r (bN GU)) rfl rfl<|?_;refine λ_ r=>fV hd 7 11 rfl (aX r (bN GU)) r (u (dA iA) ((J r2 aP.toNat).Frame.toNat*1)) (hrun:=λw=>nN 3 rfl (h.pick 2) WU)<|?_;refine λ_ r=>mT hd 3 6 12 r (aX r (bN GU)) rfl rfl<|?_;refine λ_ r=>mT hd 4 5 14 r (aX r (bN GU)) rfl rfl<|?_;refine λ_ r=>fV hd 4 15 rfl (aX r (bN GU)) r (Z (wi ((J r2 aP.toNat).gV+1)))<|?_;refine λ_ r=>fV hd 3 16 rfl (aX r (bN GU)) r (R ((J kF (J r2 aP.toNat).Frame.toNat)==(wi ((J r2 aP.toNat).gV+1))))<|?_;refine λ_ r=>fV hd 2 17 rfl (aX r (beq_iff_eq.mpr Kj)) r (R ((J kF (J r2 aP.toNat).Frame.toNat)==(wi ((J r2 aP.toNat).gV+1)))) (hrun:=λw=>nI (b:=((J r2 aP.toNat).Frame==0)) rfl aK (bN GU) aK)<|?_;refine jl hd 1 18 rfl (R ((J kF (J r2 aP.toNat).Frame.toNat)==(wi ((J r2 aP.toNat).gV+1)))) (λw=>qX (b:=((J r2 aP.toNat).X==(-1))) rfl aK (beq_iff_eq.mpr Kj) aK)<|iy hd 0 [(19,11,R ((J kF (J r2 aP.toNat).Frame.toNat)==(wi ((J r2 aP.toNat).gV+1))))]<|kI<|tn<|?_;exact λ_ r=>⟨(),((J kF (J r2 aP.toNat).Frame.toNat)==(wi ((J r2 aP.toNat).gV+1))),gA H,r.fj h⟩
      refine vZ [(fY,4,[Z (J r2 aP.toNat).X])] [0] 20 h (λh=>⟨⟨(h.pick 5).cell 4 rfl,bx⟩,bx⟩) λw h hd =>qq r<|iy hd 19 [(0,152,u fY 4)]<|fg hd 0 18 1 rfl<|ju hd 16 152 [([2,3],R ((J r2 aP.toNat).X==(-1)))]<|λ_ r=>eof hd 15 4 rfl (aX r (bN Kj)) r<|?_;refine λ_ r=>eof hd 14 5 rfl (aX r (bN Kj)) r<|?_;refine λ_ r=>eof hd 13 6 rfl (aX r (bN Kj)) r<|?_;refine λ_ r=>eof hd 12 7 rfl (aX r (bN Kj)) r<|?_;refine λ_ r=>eof hd 11 8 rfl (dG r rfl rfl rfl aK) r<|?_;refine λ_ r=>eof hd 10 9 rfl (dG r rfl rfl rfl aK) r<|?_;refine λ_ r=>eof hd 9 13 rfl (dG r rfl rfl rfl aK) r<|?_;refine λ_ r=>eof hd 8 10 rfl (dG r rfl rfl rfl aK) r<|?_;refine λ_ r=>eof hd 7 11 rfl (dG r rfl rfl rfl aK) r<|?_;refine λ_ r=>eof hd 6 12 rfl (dG r rfl rfl rfl aK) r<|?_;refine λ_ r=>eof hd 5 14 rfl (dG r rfl rfl rfl aK) r<|?_;refine λ_ r=>eof hd 4 15 rfl (dG r rfl rfl rfl aK) r<|?_;refine λ_ r=>eof hd 3 16 rfl (dG r rfl rfl rfl aK) r<|?_;refine λ_ r=>eof hd 2 17 rfl (aX r (bN Kj)) r<|?_;refine jl hd 1 18 rfl (R false) (λw=>nI (b:=((J r2 aP.toNat).X==(-1))) rfl aK (bN Kj) aK)<|iy hd 0 [(19,11,R false)]<|kI<|tn<|?_;exact λ_ r=>⟨(),false,gA H,r.fj h⟩
     clear h r;rintro _ a w ⟨rX,rfl,j,r,h⟩;replace H:=DS aew;refine qq r<|wq<|qI H (λHR H=>?_) λHR H=>?_
     ·refine lC [] [] 18 h (λ_=>trivial) λw h hd =>ju hd 15 171 [([0],R rX),([1,2],R (!rX))]<|λ_ r=>eof hd 14 3 rfl (aX r (x:=!rX) (c:=false) (by rw[show rX=true from(HR)];rfl)) r<|?_;refine λ_ r=>eof hd 13 4 rfl (aX r (x:=!rX) (c:=false) (by rw[show rX=true from(HR)];rfl)) r<|?_;refine λ_ r=>eof hd 12 5 rfl (aX r (x:=!rX) (c:=false) (by rw[show rX=true from(HR)];rfl)) r<|?_;refine λ_ r=>eof hd 11 6 rfl (aX r (x:=!rX) (c:=false) (by rw[show rX=true from(HR)];rfl)) r<|?_;refine λ_ r=>eof hd 10 7 rfl (dG r rfl rfl rfl aK) r<|?_;refine λ_ r=>eof hd 9 8 rfl (dG r rfl rfl rfl aK) r<|?_;refine λ_ r=>eof hd 8 12 rfl (dG r rfl rfl rfl aK) r<|?_;refine λ_ r=>eof hd 7 9 rfl (dG r rfl rfl rfl aK) r<|?_;refine λ_ r=>eof hd 6 10 rfl (dG r rfl rfl rfl aK) r<|?_;refine λ_ r=>eof hd 5 11 rfl (dG r rfl rfl rfl aK) r<|?_;refine λ_ r=>eof hd 4 13 rfl (dG r rfl rfl rfl aK) r<|?_;refine λ_ r=>eof hd 3 14 rfl (dG r rfl rfl rfl aK) r<|?_;refine λ_ r=>eof hd 2 15 rfl (dG r rfl rfl rfl aK) r<|?_;refine λ_ r=>eof hd 1 16 rfl (aX r (x:=!rX) (c:=false) (by rw[show rX=true from(HR)];rfl)) r<|?_;refine jl hd 0 17 rfl (R false) (λw=>nI (b:=(!rX)) rfl aK (by rw[show rX=true from(HR)];rfl) aK)<|kI<|tn<|λ_ r=>iT r (b:=false) rfl<|qq r<|wk<|bn<|bn<|tn<|wl<|ko [U,Z (wi (aP+1)),Z (wi (aP+1))]<|I<|?_;exact λ_ r=>⟨_,⟨kF,rq,tM,(wi (aP+1)),H,r.fj (h.se 6 [0,1,2,3,4])⟩,gQ _⟩
     refine qI H (λFq H=>?_) λFq H=>?_
     ·refine lC [(fY,4,[Z (J r2 aP.toNat).X])] [1,3] 18 h (λh=>⟨⟨(h.pick 5).cell 4 rfl,bx⟩,bx⟩) λw h hd =>ju hd 15 171 [([0],R rX),([1,2],R (!rX))]<|λ_ r=>fV hd 14 3 rfl (aX r (x:=!rX) (c:=true) (by rw[show rX=false from(bF HR)];rfl)) r (u fY 4)<|?_;refine λ_ r=>mT hd 0 13 4 r (aX r (x:=!rX) (c:=true) (by rw[show rX=false from(bF HR)];rfl)) rfl rfl<|?_;refine λ_ r=>fV hd 12 5 rfl (aX r (x:=!rX) (c:=true) (by rw[show rX=false from(bF HR)];rfl)) r (cJ ((J r2 aP.toNat).X<0))<|?_;refine λ_ r=>fV hd 11 6 rfl (aX r (x:=!rX) (c:=true) (by rw[show rX=false from(bF HR)];rfl)) r (cJ ((J r2 aP.toNat).X<0))<|?_;refine λ_ r=>eof hd 10 7 rfl (aX r (dT Fq)) r<|?_;refine λ_ r=>eof hd 9 8 rfl (aX r (dT Fq)) r<|?_;refine λ_ r=>eof hd 8 12 rfl (aX r (dT Fq)) r<|?_;refine λ_ r=>eof hd 7 9 rfl (aX r (dT Fq)) r<|?_;refine λ_ r=>eof hd 6 10 rfl (aX r (dT Fq)) r<|?_;refine λ_ r=>eof hd 5 11 rfl (aX r (dT Fq)) r<|?_;refine λ_ r=>eof hd 4 13 rfl (aX r (dT Fq)) r<|?_;refine λ_ r=>eof hd 3 14 rfl (aX r (dT Fq)) r<|?_;refine λ_ r=>eof hd 2 15 rfl (aX r (dT Fq)) r<|?_;refine λ_ r=>fV hd 1 16 rfl (aX r (x:=!rX) (c:=true) (by rw[show rX=false from(bF HR)];rfl)) r (R true) (hrun:=λw=>qX (b:=(decide ((J r2 aP.toNat).X<0))) rfl aK (dT Fq) aK)<|?_;refine jl hd 0 17 rfl (R true) (λw=>qX (b:=(!rX)) rfl aK (by rw[show rX=false from(bF HR)];rfl) aK)<|kI<|tn<|λ_ r=>dX r (b:=true) rfl<|qq r<|gS<|wr<|br<|br<|tr<|tr<|br<|tr<|?_;cases H;exact gC (h.se 6 [])
     refine qg H λc82 H=>lC [(fY,4,[Z (J r2 aP.toNat).X]),(fY,3,[Z (J r2 aP.toNat).Frame]),(dA iA,(J r2 aP.toNat).Frame.toNat*1,[Z (J kF (J r2 aP.toNat).Frame.toNat)]),(fY,4,[Z (J r2 aP.toNat).X])] [1,3,5,8,10,12,14] 18 h (λh=>⟨⟨(h.pick 5).cell 4 rfl,bx⟩,⟨(h.pick 5).cell 3 rfl,bx⟩,⟨(h.pick 2).bE aE (f:=0) (aS c82) rfl,bx⟩,⟨(h.pick 5).cell 4 rfl,bx⟩,bx⟩) λw h hd =>ju hd 15 171 [([0],R rX),([1,2],R (!rX))]<|λ_ r=>fV hd 14 3 rfl (aX r (x:=!rX) (c:=true) (by rw[show rX=false from(bF HR)];rfl)) r (u fY 4)<|?_;refine λ_ r=>mT hd 0 13 4 r (aX r (x:=!rX) (c:=true) (by rw[show rX=false from(bF HR)];rfl)) rfl rfl<|?_;refine λ_ r=>fV hd 12 5 rfl (aX r (x:=!rX) (c:=true) (by rw[show rX=false from(bF HR)];rfl)) r (cJ ((J r2 aP.toNat).X<0))<|?_;refine λ_ r=>fV hd 11 6 rfl (aX r (x:=!rX) (c:=true) (by rw[show rX=false from(bF HR)];rfl)) r (cJ ((J r2 aP.toNat).X<0))<|?_;refine λ_ r=>fV hd 10 7 rfl (aX r (dF Fq)) r (aY iA (List.replicate O.au.toNat (0:Int)).length O.au.toNat)<|?_;refine λ_ r=>fV hd 9 8 rfl (aX r (dF Fq)) r (u fY 3)<|?_;refine λ_ r=>fV hd 8 12 rfl (aX r (dF Fq)) r (u fY 4)<|?_;refine λ_ r=>mT hd 1 7 9 r (aX r (dF Fq)) rfl rfl<|?_;refine λ_ r=>fV hd 6 10 rfl (aX r (dF Fq)) r (u (dA iA) ((J r2 aP.toNat).Frame.toNat*1)) (hrun:=λw=>nN 3 rfl (h.pick 2) c82)<|?_;refine λ_ r=>mT hd 2 5 11 r (aX r (dF Fq)) rfl rfl<|?_;refine λ_ r=>mT hd 3 4 13 r (aX r (dF Fq)) rfl rfl<|?_;refine λ_ r=>fV hd 3 14 rfl (aX r (dF Fq)) r (Z (wi ((J r2 aP.toNat).X+1)))<|?_;refine λ_ r=>fV hd 2 15 rfl (aX r (dF Fq)) r (R ((J kF (J r2 aP.toNat).Frame.toNat) != (wi ((J r2 aP.toNat).X+1))))<|?_;refine λ_ r=>fV hd 1 16 rfl (aX r (x:=!rX) (c:=true) (by rw[show rX=false from(bF HR)];rfl)) r (R ((J kF (J r2 aP.toNat).Frame.toNat) != (wi ((J r2 aP.toNat).X+1)))) (hrun:=λw=>nI (b:=(decide ((J r2 aP.toNat).X<0))) rfl aK (dF Fq) aK)<|?_;refine jl hd 0 17 rfl (R ((J kF (J r2 aP.toNat).Frame.toNat) != (wi ((J r2 aP.toNat).X+1)))) (λw=>qX (b:=(!rX)) rfl aK (by rw[show rX=false from(bF HR)];rfl) aK)<|kI<|tn<|qB H (λc83 H=>?_) λc83 H=>?_
     ·refine wk<|bn<|bn<|tn<|wl<|ko [U,Z (wi (aP+1)),Z (wi (aP+1))]<|I<|?_;exact λ_ r=>⟨_,⟨kF,rq,tM,(wi (aP+1)),H,r.fj (h.se 6 [0,1,2,3,4])⟩,gQ _⟩
     refine gS<|wr<|br<|br<|tr<|tr<|br<|tr<|?_;cases H;exact gC (h.se 6 [])
    refine wk<|bn<|bn<|tn<|wl<|ko [U,Z (wi (aP+1)),Z (wi (aP+1))]<|I<|?_;exact λ_ r=>⟨_,⟨kF,rq,tM,(wi (aP+1)),H,r.fj (h.se 6 [0,1,2,3,4])⟩,gQ _⟩
   refine cR (bne_iff_ne.mpr V1) [55] [u fY 2]<|λ_ r=>ld (aX r (bne_iff_ne.mpr V1)) r (Z (J r2 aP.toNat).aL) (h.cell 2 rfl)<|?_;refine cR (bne_iff_ne.mpr V1) [57] [R ((J r2 aP.toNat).aL != 1)]<|ny (bne_iff_ne.mpr V1) (R ((J r2 aP.toNat).aL != 1))<|I<|qB H (λc84 H=>?_) λc84 H=>?_
   ·refine gD<|?_;obtain⟨o86,H,TZ⟩:=CZ H;refine λ_ r=>cY (β:=Unit) (λ_ a w=>.inl ()=o86/\∃j,kH 189 (lk [(1,u b1 0),(3,aY x6 r2.length x7),(6,aY iA (List.replicate O.au.toNat (0:Int)).length O.au.toNat),(7,aY q7 (List.replicate O.au.toNat (0:Int)).length O.au.toNat),(8,aY tI (List.replicate O.aF.toNat (0:Int)).length O.aF.toNat),(9,Z aP),(10,u fY 0)] j) a/\Fit z (aC (xO b1 O cH cZ dB eD bz bS bH cg::Ca x6 x7 r2::rowOf 3 1 ck (aY iA (List.replicate O.au.toNat (0:Int)).length O.au.toNat) kF::rowOf 3 1 ck (aY q7 (List.replicate O.au.toNat (0:Int)).length O.au.toNat) rq::rowOf 3 1 ck (aY tI (List.replicate O.aF.toNat (0:Int)).length O.aF.toNat) tM::fu fY (J r2 aP.toNat)::L)) w) ?_ ?_
    ·refine qq r<|aN [U]<|kL h 3<|ko [cJ ((J r2 aP.toNat).Frame<0),cJ ((J r2 aP.toNat).Frame<0)]<|qI H (λU4 H=>?_) λU4 H=>?_
     ·refine bU (dT U4) [63,64,65,66,67]<|ny (dT U4) (R true)<|bT<|bU (rfl:true=true) [70,71,72]<|ko dx<|bU (rfl:true=true) [75,76,77,78,79]<|bT<|I<|λ_ r=>dX r (b:=true) rfl<|qq r<|gS<|wr<|tr<|br<|tr<|tr<|br<|tr<|λ_ r=>oa (R false) rfl r<|?_;replace H:=tg H TZ;cases H;exact⟨rfl,h.se 6 []⟩
     refine cR (dF U4) [63] [u fY 3]<|sv (dF U4) h 3<|cR (dF U4) [65,66,67] [aY iA (List.replicate O.au.toNat (0:Int)).length O.au.toNat,Z (((List.replicate O.au.toNat (0:Int)).length:Nat):Int),cJ ((J r2 aP.toNat).Frame>=(((List.replicate O.au.toNat (0:Int)).length:Nat):Int))]<|nv (dF U4) (cJ ((J r2 aP.toNat).Frame>=(((List.replicate O.au.toNat (0:Int)).length:Nat):Int)))<|ko [cJ ((J r2 aP.toNat).Frame>=(((List.replicate O.au.toNat (0:Int)).length:Nat):Int))]<|qI H (λU9 H=>?_) λU9 H=>?_
     ·refine bU (dT U9) [70,71,72]<|ny (dT U9) (R true)<|bT<|bU (rfl:true=true) [75,76,77,78,79]<|bT<|I<|λ_ r=>dX r (b:=true) rfl<|qq r<|gS<|wr<|tr<|br<|tr<|tr<|br<|tr<|λ_ r=>oa (R false) rfl r<|?_;replace H:=tg H TZ;cases H;exact⟨rfl,h.se 6 []⟩
     refine cR (dF U9) [70] [u fY 1]<|sv (dF U9) h 1<|cR (dF U9) [72] [cJ ((J r2 aP.toNat).gV<0)]<|nv (dF U9) (cJ ((J r2 aP.toNat).gV<0))<|ko [cJ ((J r2 aP.toNat).gV<0)]<|qI H (λQh H=>?_) λQh H=>?_
     ·refine bU (dT Qh) [75,76,77,78,79]<|ny (dT Qh) (R true)<|I<|λ_ r=>dX r (b:=true) rfl<|qq r<|gS<|wr<|tr<|br<|tr<|tr<|br<|tr<|λ_ r=>oa (R false) rfl r<|?_;replace H:=tg H TZ;cases H;exact⟨rfl,h.se 6 []⟩
     refine cR (dF Qh) [75] [u fY 1]<|sv (dF Qh) h 1<|cR (dF Qh) [77] [u b1 2]<|sv (dF Qh) (h.pick 1) 2<|cR (dF Qh) [79] [cJ ((J r2 aP.toNat).gV>=O.aF)]<|nv (dF Qh) (cJ ((J r2 aP.toNat).gV>=O.aF))<|I<|ez H (λc90 H=>?_) λc90 H=>?_
     ·refine gS<|wr<|tr<|br<|tr<|tr<|br<|tr<|λ_ r=>oa (R false) rfl r<|?_;replace H:=tg H TZ;cases H;exact⟨rfl,h.se 6 []⟩
     refine gD<|?_;exact λ_ r=>⟨(),gA H,r.fj (h.se 6 [1,2,3,4,5,0])⟩
    clear h r;rintro _ a w ⟨rfl,j,r,h⟩;replace H:=C0 TZ;refine qq r<|aN [U]<|kL (h.pick 5) 2<|I<|wb<|aN [R ((J r2 aP.toNat).aL==2),R ((J r2 aP.toNat).aL==2)]<|I<|ez H (λc91 H=>?_) λc91 H=>?_
    ·refine aN dx<|kL (h.pick 5) 3<|bT<|kL (h.pick 5) 1<|qg H λc92 H=>ko [Z (wi ((J r2 aP.toNat).gV+1))]<|ki (h.pick 2) c92<|qh h.m2 λh=>λ_ r=>BM (wn rfl) r aE h (J r2 aP.toNat).Frame.toNat 0 (Z (wi ((J r2 aP.toNat).gV+1))) (J kF (J r2 aP.toNat).Frame.toNat) (wi ((J r2 aP.toNat).gV+1)) (aS c92) λw h=>qq r<|I<|wl<|ko dx<|kL (h.pick 5) 3<|qg H λc93 H=>ko [U,Z (wi (aP+1))]<|ki (h.pick 3) c93<|qh h.m3 λh=>λ_ r=>BM (wn rfl) r aE h (J r2 aP.toNat).Frame.toNat 0 (Z (wi (aP+1))) (J rq (J r2 aP.toNat).Frame.toNat) (wi (aP+1)) (aS c93) λw h=>qq r<|kl<|bn<|bn<|tn<|wl<|ko [U,Z (wi (aP+1)),Z (wi (aP+1))]<|I<|?_;exact λ_ r=>⟨_,⟨(kF.set (J r2 aP.toNat).Frame.toNat (wi ((J r2 aP.toNat).gV+1))),(rq.set (J r2 aP.toNat).Frame.toNat (wi (aP+1))),tM,(wi (aP+1)),H,r.fj (h.se 6 [2,3,1,0,4])⟩,gQ _⟩
    refine aN [R ((J r2 aP.toNat).aL==8),R ((J r2 aP.toNat).aL==8)]<|I<|ez H (λc94 H=>?_) λc94 H=>?_
    ·refine wq<|wq<|qI H (λBI H=>?_) λBI H=>?_
     ·refine lC [(fY,4,[Z (J r2 aP.toNat).X])] [0] 41 h (λh=>⟨⟨(h.pick 5).cell 4 rfl,bx⟩,bx⟩) λw h hd =>iy hd 40 [(0,100,u fY 4)]<|fg hd 0 39 1 rfl<|ju hd 37 100 [([2,3],cJ ((J r2 aP.toNat).X<0))]<|λ_ r=>eof hd 36 4 rfl (aX r (dT BI)) r<|?_;refine λ_ r=>eof hd 35 6 rfl (aX r (dT BI)) r<|?_;refine λ_ r=>eof hd 34 5 rfl (aX r (dT BI)) r<|?_;refine λ_ r=>eof hd 33 7 rfl (aX r (dT BI)) r<|?_;refine λ_ r=>eof hd 32 8 rfl (aX r (dT BI)) r<|?_;refine jl hd 31 9 rfl (R true) (λw=>qX (b:=(decide ((J r2 aP.toNat).X<0))) rfl aK (dT BI) aK)<|iy hd 30 [(10,110,R true)]<|λ_ r=>eof hd 29 11 rfl (aX r (c:=true) rfl) r<|?_;refine λ_ r=>eof hd 28 13 rfl (aX r (c:=true) rfl) r<|?_;refine λ_ r=>eof hd 27 12 rfl (aX r (c:=true) rfl) r<|?_;refine λ_ r=>eof hd 26 14 rfl (aX r (c:=true) rfl) r<|?_;refine λ_ r=>eof hd 25 15 rfl (aX r (c:=true) rfl) r<|?_;refine ju hd 23 100 [([16,17],R true)]<|λ_ r=>eof hd 22 18 rfl (aX r (c:=true) rfl) r<|?_;refine λ_ r=>eof hd 21 19 rfl (aX r (c:=true) rfl) r<|?_;refine λ_ r=>eof hd 20 23 rfl (aX r (c:=true) rfl) r<|?_;refine λ_ r=>eof hd 19 20 rfl (aX r (c:=true) rfl) r<|?_;refine λ_ r=>eof hd 18 21 rfl (aX r (c:=true) rfl) r<|?_;refine λ_ r=>eof hd 17 22 rfl (aX r (c:=true) rfl) r<|?_;refine λ_ r=>eof hd 16 24 rfl (aX r (c:=true) rfl) r<|?_;refine λ_ r=>eof hd 15 25 rfl (aX r (c:=true) rfl) r<|?_;refine λ_ r=>eof hd 14 26 rfl (aX r (c:=true) rfl) r<|?_;refine ju hd 12 100 [([27,28],R true)]<|λ_ r=>eof hd 11 29 rfl (aX r (c:=true) rfl) r<|?_;refine λ_ r=>eof hd 10 30 rfl (aX r (c:=true) rfl) r<|?_;refine λ_ r=>eof hd 9 34 rfl (aX r (c:=true) rfl) r<|?_;refine λ_ r=>eof hd 8 35 rfl (aX r (c:=true) rfl) r<|?_;refine λ_ r=>eof hd 7 31 rfl (aX r (c:=true) rfl) r<|?_;refine λ_ r=>eof hd 6 32 rfl (aX r (c:=true) rfl) r<|?_;refine λ_ r=>eof hd 5 33 rfl (aX r (c:=true) rfl) r<|?_;refine λ_ r=>eof hd 4 36 rfl (aX r (c:=true) rfl) r<|?_;refine λ_ r=>eof hd 3 37 rfl (aX r (c:=true) rfl) r<|?_;refine λ_ r=>eof hd 2 38 rfl (aX r (c:=true) rfl) r<|?_;refine λ_ r=>eof hd 1 39 rfl (aX r (c:=true) rfl) r<|?_;refine iy hd 0 [(40,140,R true)]<|kI<|tn<|λ_ r=>dX r (b:=true) rfl<|qq r<|gS<|wr<|tr<|br<|br<|tr<|tr<|br<|tr<|?_;cases H;exact gC (h.se 6 [])
     refine qI H (λEH H=>?_) λEH H=>?_
     ·refine lC [(fY,4,[Z (J r2 aP.toNat).X]),(fY,4,[Z (J r2 aP.toNat).X]),(b1,2,[Z O.aF])] [0,2,4,6] 41 h (λh=>⟨⟨(h.pick 5).cell 4 rfl,bx⟩,⟨(h.pick 5).cell 4 rfl,bx⟩,⟨h.cell 2 rfl,bx⟩,bx⟩) λw h hd =>iy hd 40 [(0,100,u fY 4)]<|fg hd 0 39 1 rfl<|ju hd 37 100 [([2,3],cJ ((J r2 aP.toNat).X<0))]<|λ_ r=>fV hd 36 4 rfl (aX r (dF BI)) r (u fY 4)<|?_;refine λ_ r=>fV hd 35 6 rfl (aX r (dF BI)) r (u b1 2)<|?_;refine λ_ r=>mT hd 1 34 5 r (aX r (dF BI)) rfl rfl<|?_;refine λ_ r=>mT hd 2 33 7 r (aX r (dF BI)) rfl rfl<|?_;refine λ_ r=>fV hd 32 8 rfl (aX r (dF BI)) r (cJ ((J r2 aP.toNat).X>=O.aF))<|?_;refine jl hd 31 9 rfl (cJ ((J r2 aP.toNat).X>=O.aF)) (λw=>nI (b:=(decide ((J r2 aP.toNat).X<0))) rfl aK (dF BI) aK)<|iy hd 30 [(10,110,cJ ((J r2 aP.toNat).X>=O.aF))]<|λ_ r=>eof hd 29 11 rfl (aX r (dT EH)) r<|?_;refine λ_ r=>eof hd 28 13 rfl (aX r (dT EH)) r<|?_;refine λ_ r=>eof hd 27 12 rfl (aX r (dT EH)) r<|?_;refine λ_ r=>eof hd 26 14 rfl (aX r (dT EH)) r<|?_;refine λ_ r=>eof hd 25 15 rfl (aX r (dT EH)) r<|?_;refine jl hd 24 16 rfl (R true) (λw=>qX (b:=(decide ((J r2 aP.toNat).X>=O.aF))) rfl aK (dT EH) aK)<|iy hd 23 [(17,117,R true)]<|λ_ r=>eof hd 22 18 rfl (aX r (c:=true) rfl) r<|?_;refine λ_ r=>eof hd 21 19 rfl (aX r (c:=true) rfl) r<|?_;refine λ_ r=>eof hd 20 23 rfl (aX r (c:=true) rfl) r<|?_;refine λ_ r=>eof hd 19 20 rfl (aX r (c:=true) rfl) r<|?_;refine λ_ r=>eof hd 18 21 rfl (aX r (c:=true) rfl) r<|?_;refine λ_ r=>eof hd 17 22 rfl (aX r (c:=true) rfl) r<|?_;refine λ_ r=>eof hd 16 24 rfl (aX r (c:=true) rfl) r<|?_;refine λ_ r=>eof hd 15 25 rfl (aX r (c:=true) rfl) r<|?_;refine λ_ r=>eof hd 14 26 rfl (aX r (c:=true) rfl) r<|?_;refine ju hd 12 100 [([27,28],R true)]<|λ_ r=>eof hd 11 29 rfl (aX r (c:=true) rfl) r<|?_;refine λ_ r=>eof hd 10 30 rfl (aX r (c:=true) rfl) r<|?_;refine λ_ r=>eof hd 9 34 rfl (aX r (c:=true) rfl) r<|?_;refine λ_ r=>eof hd 8 35 rfl (aX r (c:=true) rfl) r<|?_;refine λ_ r=>eof hd 7 31 rfl (aX r (c:=true) rfl) r<|?_;refine λ_ r=>eof hd 6 32 rfl (aX r (c:=true) rfl) r<|?_;refine λ_ r=>eof hd 5 33 rfl (aX r (c:=true) rfl) r<|?_;refine λ_ r=>eof hd 4 36 rfl (aX r (c:=true) rfl) r<|?_;refine λ_ r=>eof hd 3 37 rfl (aX r (c:=true) rfl) r<|?_;refine λ_ r=>eof hd 2 38 rfl (aX r (c:=true) rfl) r<|?_;refine λ_ r=>eof hd 1 39 rfl (aX r (c:=true) rfl) r<|?_;refine iy hd 0 [(40,140,R true)]<|kI<|tn<|λ_ r=>dX r (b:=true) rfl<|qq r<|gS<|wr<|tr<|br<|br<|tr<|tr<|br<|tr<|?_;cases H;exact gC (h.se 6 [])
     refine qI H (λCR H=>?_) λCR H=>?_
     ·refine lC [(fY,4,[Z (J r2 aP.toNat).X]),(fY,4,[Z (J r2 aP.toNat).X]),(b1,2,[Z O.aF]),(fY,4,[Z (J r2 aP.toNat).X]),(fY,1,[Z (J r2 aP.toNat).gV])] [0,2,4,6,8,11,13] 41 h (λh=>⟨⟨(h.pick 5).cell 4 rfl,bx⟩,⟨(h.pick 5).cell 4 rfl,bx⟩,⟨h.cell 2 rfl,bx⟩,⟨(h.pick 5).cell 4 rfl,bx⟩,⟨(h.pick 5).cell 1 rfl,bx⟩,bx⟩) λw h hd =>iy hd 40 [(0,100,u fY 4)]<|fg hd 0 39 1 rfl<|ju hd 37 100 [([2,3],cJ ((J r2 aP.toNat).X<0))]<|λ_ r=>fV hd 36 4 rfl (aX r (dF BI)) r (u fY 4)<|?_;refine λ_ r=>fV hd 35 6 rfl (aX r (dF BI)) r (u b1 2)<|?_;refine λ_ r=>mT hd 1 34 5 r (aX r (dF BI)) rfl rfl<|?_;refine λ_ r=>mT hd 2 33 7 r (aX r (dF BI)) rfl rfl<|?_;refine λ_ r=>fV hd 32 8 rfl (aX r (dF BI)) r (cJ ((J r2 aP.toNat).X>=O.aF))<|?_;refine jl hd 31 9 rfl (cJ ((J r2 aP.toNat).X>=O.aF)) (λw=>nI (b:=(decide ((J r2 aP.toNat).X<0))) rfl aK (dF BI) aK)<|iy hd 30 [(10,110,cJ ((J r2 aP.toNat).X>=O.aF))]<|λ_ r=>fV hd 29 11 rfl (aX r (dF EH)) r (u fY 4)<|?_;refine λ_ r=>fV hd 28 13 rfl (aX r (dF EH)) r (u fY 1)<|?_;refine λ_ r=>mT hd 3 27 12 r (aX r (dF EH)) rfl rfl<|?_;refine λ_ r=>mT hd 4 26 14 r (aX r (dF EH)) rfl rfl<|?_;refine λ_ r=>fV hd 25 15 rfl (aX r (dF EH)) r (R ((J r2 aP.toNat).X==(J r2 aP.toNat).gV))<|?_;refine jl hd 24 16 rfl (R ((J r2 aP.toNat).X==(J r2 aP.toNat).gV)) (λw=>nI (b:=(decide ((J r2 aP.toNat).X>=O.aF))) rfl aK (dF EH) aK)<|iy hd 23 [(17,117,R ((J r2 aP.toNat).X==(J r2 aP.toNat).gV))]<|λ_ r=>eof hd 22 18 rfl (aX r (beq_iff_eq.mpr CR)) r<|?_;refine λ_ r=>eof hd 21 19 rfl (aX r (beq_iff_eq.mpr CR)) r<|?_;refine λ_ r=>eof hd 20 23 rfl (aX r (beq_iff_eq.mpr CR)) r<|?_;refine λ_ r=>eof hd 19 20 rfl (aX r (beq_iff_eq.mpr CR)) r<|?_;refine λ_ r=>eof hd 18 21 rfl (aX r (beq_iff_eq.mpr CR)) r<|?_;refine λ_ r=>eof hd 17 22 rfl (aX r (beq_iff_eq.mpr CR)) r<|?_;refine λ_ r=>eof hd 16 24 rfl (aX r (beq_iff_eq.mpr CR)) r<|?_;refine λ_ r=>eof hd 15 25 rfl (aX r (beq_iff_eq.mpr CR)) r<|?_;refine λ_ r=>eof hd 14 26 rfl (aX r (beq_iff_eq.mpr CR)) r<|?_;refine jl hd 13 27 rfl (R true) (λw=>qX (b:=((J r2 aP.toNat).X==(J r2 aP.toNat).gV)) rfl aK (beq_iff_eq.mpr CR) aK)<|iy hd 12 [(28,128,R true)]<|λ_ r=>eof hd 11 29 rfl (aX r (c:=true) rfl) r<|?_;refine λ_ r=>eof hd 10 30 rfl (aX r (c:=true) rfl) r<|?_;refine λ_ r=>eof hd 9 34 rfl (aX r (c:=true) rfl) r<|?_;refine λ_ r=>eof hd 8 35 rfl (aX r (c:=true) rfl) r<|?_;refine λ_ r=>eof hd 7 31 rfl (aX r (c:=true) rfl) r<|?_;refine λ_ r=>eof hd 6 32 rfl (aX r (c:=true) rfl) r<|?_;refine λ_ r=>eof hd 5 33 rfl (aX r (c:=true) rfl) r<|?_;refine λ_ r=>eof hd 4 36 rfl (aX r (c:=true) rfl) r<|?_;refine λ_ r=>eof hd 3 37 rfl (aX r (c:=true) rfl) r<|?_;refine λ_ r=>eof hd 2 38 rfl (aX r (c:=true) rfl) r<|?_;refine λ_ r=>eof hd 1 39 rfl (aX r (c:=true) rfl) r<|?_;refine iy hd 0 [(40,140,R true)]<|kI<|tn<|λ_ r=>dX r (b:=true) rfl<|qq r<|gS<|wr<|tr<|br<|br<|tr<|tr<|br<|tr<|?_;cases H;exact gC (h.se 6 [])
     refine qg H λZG H=>qI H (λFB H=>?_) λFB H=>?_
     ·refine qg H λLU H=>qg H λLV H=>lC [(fY,4,[Z (J r2 aP.toNat).X]),(fY,4,[Z (J r2 aP.toNat).X]),(b1,2,[Z O.aF]),(fY,4,[Z (J r2 aP.toNat).X]),(fY,1,[Z (J r2 aP.toNat).gV]),(fY,3,[Z (J r2 aP.toNat).Frame]),(dA iA,(J r2 aP.toNat).Frame.toNat*1,[Z (J kF (J r2 aP.toNat).Frame.toNat)]),(fY,4,[Z (J r2 aP.toNat).X]),(fY,3,[Z (J r2 aP.toNat).Frame]),(dA q7,(J r2 aP.toNat).Frame.toNat*1,[Z (J rq (J r2 aP.toNat).Frame.toNat)]),(fY,4,[Z (J r2 aP.toNat).X]),(dA tI,(J r2 aP.toNat).X.toNat*1,[Z (J tM (J r2 aP.toNat).X.toNat)])] [0,2,4,6,8,11,13,15,19,21,23,25,26,30,32,35,37] 41 h (λh=>⟨⟨(h.pick 5).cell 4 rfl,bx⟩,⟨(h.pick 5).cell 4 rfl,bx⟩,⟨h.cell 2 rfl,bx⟩,⟨(h.pick 5).cell 4 rfl,bx⟩,⟨(h.pick 5).cell 1 rfl,bx⟩,⟨(h.pick 5).cell 3 rfl,bx⟩,⟨(h.pick 2).bE aE (f:=0) (aS ZG) rfl,bx⟩,⟨(h.pick 5).cell 4 rfl,bx⟩,⟨(h.pick 5).cell 3 rfl,bx⟩,⟨(h.pick 3).bE aE (f:=0) (aS LU) rfl,bx⟩,⟨(h.pick 5).cell 4 rfl,bx⟩,⟨(h.pick 4).bE aE (f:=0) (aS LV) rfl,bx⟩,bx⟩) λw h hd =>iy hd 40 [(0,100,u fY 4)]<|fg hd 0 39 1 rfl<|ju hd 37 100 [([2,3],cJ ((J r2 aP.toNat).X<0))]<|λ_ r=>fV hd 36 4 rfl (aX r (dF BI)) r (u fY 4)<|?_;refine λ_ r=>fV hd 35 6 rfl (aX r (dF BI)) r (u b1 2)<|?_;refine λ_ r=>mT hd 1 34 5 r (aX r (dF BI)) rfl rfl<|?_;refine λ_ r=>mT hd 2 33 7 r (aX r (dF BI)) rfl rfl<|?_;refine λ_ r=>fV hd 32 8 rfl (aX r (dF BI)) r (cJ ((J r2 aP.toNat).X>=O.aF))<|?_;refine jl hd 31 9 rfl (cJ ((J r2 aP.toNat).X>=O.aF)) (λw=>nI (b:=(decide ((J r2 aP.toNat).X<0))) rfl aK (dF BI) aK)<|iy hd 30 [(10,110,cJ ((J r2 aP.toNat).X>=O.aF))]<|λ_ r=>fV hd 29 11 rfl (aX r (dF EH)) r (u fY 4)<|?_;refine λ_ r=>fV hd 28 13 rfl (aX r (dF EH)) r (u fY 1)<|?_;refine λ_ r=>mT hd 3 27 12 r (aX r (dF EH)) rfl rfl<|?_;refine λ_ r=>mT hd 4 26 14 r (aX r (dF EH)) rfl rfl<|?_;refine λ_ r=>fV hd 25 15 rfl (aX r (dF EH)) r (R ((J r2 aP.toNat).X==(J r2 aP.toNat).gV))<|?_;refine jl hd 24 16 rfl (R ((J r2 aP.toNat).X==(J r2 aP.toNat).gV)) (λw=>nI (b:=(decide ((J r2 aP.toNat).X>=O.aF))) rfl aK (dF EH) aK)<|iy hd 23 [(17,117,R ((J r2 aP.toNat).X==(J r2 aP.toNat).gV))]<|λ_ r=>fV hd 22 18 rfl (aX r (bN CR)) r (aY iA (List.replicate O.au.toNat (0:Int)).length O.au.toNat)<|?_;refine λ_ r=>fV hd 21 19 rfl (aX r (bN CR)) r (u fY 3)<|?_;refine λ_ r=>fV hd 20 23 rfl (aX r (bN CR)) r (u fY 4)<|?_;refine λ_ r=>mT hd 5 19 20 r (aX r (bN CR)) rfl rfl<|?_;refine λ_ r=>fV hd 18 21 rfl (aX r (bN CR)) r (u (dA iA) ((J r2 aP.toNat).Frame.toNat*1)) (hrun:=λw=>nN 3 rfl (h.pick 2) ZG)<|?_;refine λ_ r=>mT hd 6 17 22 r (aX r (bN CR)) rfl rfl<|?_;refine λ_ r=>mT hd 7 16 24 r (aX r (bN CR)) rfl rfl<|?_;refine λ_ r=>fV hd 15 25 rfl (aX r (bN CR)) r (Z (wi ((J r2 aP.toNat).X+1)))<|?_;refine λ_ r=>fV hd 14 26 rfl (aX r (bN CR)) r (R ((J kF (J r2 aP.toNat).Frame.toNat) != (wi ((J r2 aP.toNat).X+1))))<|?_;refine jl hd 13 27 rfl (R ((J kF (J r2 aP.toNat).Frame.toNat) != (wi ((J r2 aP.toNat).X+1)))) (λw=>nI (b:=((J r2 aP.toNat).X==(J r2 aP.toNat).gV)) rfl aK (bN CR) aK)<|?_
      refine iy hd 12 [(28,128,R ((J kF (J r2 aP.toNat).Frame.toNat) != (wi ((J r2 aP.toNat).X+1))))]<|λ_ r=>fV hd 11 29 rfl (aX r (bne_eq_false_iff_eq.mpr FB)) r (aY q7 (List.replicate O.au.toNat (0:Int)).length O.au.toNat)<|?_;refine λ_ r=>fV hd 10 30 rfl (aX r (bne_eq_false_iff_eq.mpr FB)) r (u fY 3)<|?_;refine λ_ r=>fV hd 9 34 rfl (aX r (bne_eq_false_iff_eq.mpr FB)) r (aY tI (List.replicate O.aF.toNat (0:Int)).length O.aF.toNat)<|?_;refine λ_ r=>fV hd 8 35 rfl (aX r (bne_eq_false_iff_eq.mpr FB)) r (u fY 4)<|?_;refine λ_ r=>mT hd 8 7 31 r (aX r (bne_eq_false_iff_eq.mpr FB)) rfl rfl<|?_;refine λ_ r=>fV hd 6 32 rfl (aX r (bne_eq_false_iff_eq.mpr FB)) r (u (dA q7) ((J r2 aP.toNat).Frame.toNat*1)) (hrun:=λw=>nN 3 rfl (h.pick 3) LU)<|?_;refine λ_ r=>mT hd 9 5 33 r (aX r (bne_eq_false_iff_eq.mpr FB)) rfl rfl<|?_;refine λ_ r=>mT hd 10 4 36 r (aX r (bne_eq_false_iff_eq.mpr FB)) rfl rfl<|?_;refine λ_ r=>fV hd 3 37 rfl (aX r (bne_eq_false_iff_eq.mpr FB)) r (u (dA tI) ((J r2 aP.toNat).X.toNat*1)) (hrun:=λw=>nN 3 rfl (h.pick 4) LV)<|?_;refine λ_ r=>mT hd 11 2 38 r (aX r (bne_eq_false_iff_eq.mpr FB)) rfl rfl<|?_;refine λ_ r=>fV hd 1 39 rfl (aX r (bne_eq_false_iff_eq.mpr FB)) r (cJ ((J rq (J r2 aP.toNat).Frame.toNat)<=(J tM (J r2 aP.toNat).X.toNat)))<|?_;refine jl hd 0 40 rfl (cJ ((J rq (J r2 aP.toNat).Frame.toNat)<=(J tM (J r2 aP.toNat).X.toNat))) (λw=>nI (b:=((J kF (J r2 aP.toNat).Frame.toNat) != (wi ((J r2 aP.toNat).X+1)))) rfl aK (bne_eq_false_iff_eq.mpr FB) aK)<|kI<|tn<|ez H (λaex H=>?_) λaex H=>?_
      ·refine gS<|wr<|tr<|br<|br<|tr<|tr<|br<|tr<|?_;cases H;exact gC (h.se 6 [])
      refine gD<|lC [(fY,4,[Z (J r2 aP.toNat).X]),(fY,3,[Z (J r2 aP.toNat).Frame]),(dA q7,(J r2 aP.toNat).Frame.toNat*1,[Z (J rq (J r2 aP.toNat).Frame.toNat)])] [1,4,6] 10 h (λh=>⟨⟨(h.pick 5).cell 4 rfl,bx⟩,⟨(h.pick 5).cell 3 rfl,bx⟩,⟨(h.pick 3).bE aE (f:=0) (aS LU) rfl,bx⟩,bx⟩) λw h hd =>ju hd 6 141 [([0],aY tI (List.replicate O.aF.toNat (0:Int)).length O.aF.toNat),([1],u fY 4),([3],aY q7 (List.replicate O.au.toNat (0:Int)).length O.au.toNat),([4],u fY 3)]<|fg hd 0 5 2 rfl<|fg hd 1 4 5 rfl<|jl hd 3 6 rfl (u (dA q7) ((J r2 aP.toNat).Frame.toNat*1)) (λw=>nN 3 rfl (h.pick 3) LU)<|fg hd 2 2 7 rfl<|jl hd 1 8 rfl (u (dA tI) ((J r2 aP.toNat).X.toNat*1)) (λw=>nN 3 rfl (h.pick 4) LV)<|λ_ r=>lI 9 rfl<|qh h.m4 λh=>BM (wn rfl) r aE h (J r2 aP.toNat).X.toNat 0 (Z (J rq (J r2 aP.toNat).Frame.toNat)) (J tM (J r2 aP.toNat).X.toNat) (J rq (J r2 aP.toNat).Frame.toNat) (aS LV) λw h=>qq r<|I<|mJ<|kI<|bn<|bn<|tn<|wl<|ko [U,Z (wi (aP+1)),Z (wi (aP+1))]<|I<|?_;exact λ_ r=>⟨_,⟨kF,rq,(tM.set (J r2 aP.toNat).X.toNat (J rq (J r2 aP.toNat).Frame.toNat)),(wi (aP+1)),H,r.fj (h.se 6 [1,2,3,4,0])⟩,gQ _⟩
     refine lC [(fY,4,[Z (J r2 aP.toNat).X]),(fY,4,[Z (J r2 aP.toNat).X]),(b1,2,[Z O.aF]),(fY,4,[Z (J r2 aP.toNat).X]),(fY,1,[Z (J r2 aP.toNat).gV]),(fY,3,[Z (J r2 aP.toNat).Frame]),(dA iA,(J r2 aP.toNat).Frame.toNat*1,[Z (J kF (J r2 aP.toNat).Frame.toNat)]),(fY,4,[Z (J r2 aP.toNat).X])] [0,2,4,6,8,11,13,15,19,21,23,25] 41 h (λh=>⟨⟨(h.pick 5).cell 4 rfl,bx⟩,⟨(h.pick 5).cell 4 rfl,bx⟩,⟨h.cell 2 rfl,bx⟩,⟨(h.pick 5).cell 4 rfl,bx⟩,⟨(h.pick 5).cell 1 rfl,bx⟩,⟨(h.pick 5).cell 3 rfl,bx⟩,⟨(h.pick 2).bE aE (f:=0) (aS ZG) rfl,bx⟩,⟨(h.pick 5).cell 4 rfl,bx⟩,bx⟩) λw h hd =>iy hd 40 [(0,100,u fY 4)]<|fg hd 0 39 1 rfl<|ju hd 37 100 [([2,3],cJ ((J r2 aP.toNat).X<0))]<|λ_ r=>fV hd 36 4 rfl (aX r (dF BI)) r (u fY 4)<|?_;refine λ_ r=>fV hd 35 6 rfl (aX r (dF BI)) r (u b1 2)<|?_;refine λ_ r=>mT hd 1 34 5 r (aX r (dF BI)) rfl rfl<|?_;refine λ_ r=>mT hd 2 33 7 r (aX r (dF BI)) rfl rfl<|?_;refine λ_ r=>fV hd 32 8 rfl (aX r (dF BI)) r (cJ ((J r2 aP.toNat).X>=O.aF))<|?_;refine jl hd 31 9 rfl (cJ ((J r2 aP.toNat).X>=O.aF)) (λw=>nI (b:=(decide ((J r2 aP.toNat).X<0))) rfl aK (dF BI) aK)<|iy hd 30 [(10,110,cJ ((J r2 aP.toNat).X>=O.aF))]<|λ_ r=>fV hd 29 11 rfl (aX r (dF EH)) r (u fY 4)<|?_;refine λ_ r=>fV hd 28 13 rfl (aX r (dF EH)) r (u fY 1)<|?_;refine λ_ r=>mT hd 3 27 12 r (aX r (dF EH)) rfl rfl<|?_;refine λ_ r=>mT hd 4 26 14 r (aX r (dF EH)) rfl rfl<|?_;refine λ_ r=>fV hd 25 15 rfl (aX r (dF EH)) r (R ((J r2 aP.toNat).X==(J r2 aP.toNat).gV))<|?_;refine jl hd 24 16 rfl (R ((J r2 aP.toNat).X==(J r2 aP.toNat).gV)) (λw=>nI (b:=(decide ((J r2 aP.toNat).X>=O.aF))) rfl aK (dF EH) aK)<|iy hd 23 [(17,117,R ((J r2 aP.toNat).X==(J r2 aP.toNat).gV))]<|λ_ r=>fV hd 22 18 rfl (aX r (bN CR)) r (aY iA (List.replicate O.au.toNat (0:Int)).length O.au.toNat)<|?_;refine λ_ r=>fV hd 21 19 rfl (aX r (bN CR)) r (u fY 3)<|?_;refine λ_ r=>fV hd 20 23 rfl (aX r (bN CR)) r (u fY 4)<|?_;refine λ_ r=>mT hd 5 19 20 r (aX r (bN CR)) rfl rfl<|?_;refine λ_ r=>fV hd 18 21 rfl (aX r (bN CR)) r (u (dA iA) ((J r2 aP.toNat).Frame.toNat*1)) (hrun:=λw=>nN 3 rfl (h.pick 2) ZG)<|?_;refine λ_ r=>mT hd 6 17 22 r (aX r (bN CR)) rfl rfl<|?_;refine λ_ r=>mT hd 7 16 24 r (aX r (bN CR)) rfl rfl<|?_;refine λ_ r=>fV hd 15 25 rfl (aX r (bN CR)) r (Z (wi ((J r2 aP.toNat).X+1)))<|?_;refine λ_ r=>fV hd 14 26 rfl (aX r (bN CR)) r (R ((J kF (J r2 aP.toNat).Frame.toNat) != (wi ((J r2 aP.toNat).X+1))))<|?_;refine jl hd 13 27 rfl (R ((J kF (J r2 aP.toNat).Frame.toNat) != (wi ((J r2 aP.toNat).X+1)))) (λw=>nI (b:=((J r2 aP.toNat).X==(J r2 aP.toNat).gV)) rfl aK (bN CR) aK)<|iy hd 12 [(28,128,R ((J kF (J r2 aP.toNat).Frame.toNat) != (wi ((J r2 aP.toNat).X+1))))]<|λ_ r=>eof hd 11 29 rfl (aX r (bne_iff_ne.mpr FB)) r<|?_;refine λ_ r=>eof hd 10 30 rfl (aX r (bne_iff_ne.mpr FB)) r<|?_;refine λ_ r=>eof hd 9 34 rfl (aX r (bne_iff_ne.mpr FB)) r<|?_;refine λ_ r=>eof hd 8 35 rfl (aX r (bne_iff_ne.mpr FB)) r<|?_;refine λ_ r=>eof hd 7 31 rfl (aX r (bne_iff_ne.mpr FB)) r<|?_;refine λ_ r=>eof hd 6 32 rfl (aX r (bne_iff_ne.mpr FB)) r<|?_;refine λ_ r=>eof hd 5 33 rfl (aX r (bne_iff_ne.mpr FB)) r<|?_;refine λ_ r=>eof hd 4 36 rfl (aX r (bne_iff_ne.mpr FB)) r<|?_
     refine λ_ r=>eof hd 3 37 rfl (aX r (bne_iff_ne.mpr FB)) r<|?_;refine λ_ r=>eof hd 2 38 rfl (aX r (bne_iff_ne.mpr FB)) r<|?_;refine λ_ r=>eof hd 1 39 rfl (aX r (bne_iff_ne.mpr FB)) r<|?_;refine jl hd 0 40 rfl (R true) (λw=>qX (b:=((J kF (J r2 aP.toNat).Frame.toNat) != (wi ((J r2 aP.toNat).X+1)))) rfl aK (bne_iff_ne.mpr FB) aK)<|kI<|tn<|λ_ r=>dX r (b:=true) rfl<|qq r<|gS<|wr<|tr<|br<|br<|tr<|tr<|br<|tr<|?_;cases H;exact gC (h.se 6 [])
    refine aN [R ((J r2 aP.toNat).aL==1),R ((J r2 aP.toNat).aL==1)]<|I<|ez H (λYY H=>?_) λYY H=>?_
    ·refine DV H λaey H acg=>λ_ r=>cY (β:=Unit) (λ_ a w=>∃oG:Bool,oG=aey/\∃j,kH 189 (lk [(1,u b1 0),(3,aY x6 r2.length x7),(6,aY iA (List.replicate O.au.toNat (0:Int)).length O.au.toNat),(7,aY q7 (List.replicate O.au.toNat (0:Int)).length O.au.toNat),(8,aY tI (List.replicate O.aF.toNat (0:Int)).length O.aF.toNat),(9,Z aP),(10,u fY 0),(11,R oG)] j) a/\Fit z (aC (xO b1 O cH cZ dB eD bz bS bH cg::Ca x6 x7 r2::rowOf 3 1 ck (aY iA (List.replicate O.au.toNat (0:Int)).length O.au.toNat) kF::rowOf 3 1 ck (aY q7 (List.replicate O.au.toNat (0:Int)).length O.au.toNat) rq::rowOf 3 1 ck (aY tI (List.replicate O.aF.toNat (0:Int)).length O.aF.toNat) tM::fu fY (J r2 aP.toNat)::L)) w) ?_ ?_
     ·refine qI H (λzP H=>?_) λzP H=>?_
      ·refine qI H (λwR H=>?_) λwR H=>?_
       ·refine vZ [(fY,4,[Z (J r2 aP.toNat).X]),(fY,3,[Z (J r2 aP.toNat).Frame])] [0,2,4] 20 h (λh=>⟨⟨(h.pick 5).cell 4 rfl,bx⟩,⟨(h.pick 5).cell 3 rfl,bx⟩,bx⟩) λw h hd =>qq r<|iy hd 19 [(0,152,u fY 4)]<|fg hd 0 18 1 rfl<|ju hd 16 152 [([2,3],R ((J r2 aP.toNat).X==(-1)))]<|λ_ r=>fV hd 15 4 rfl (aX r (beq_iff_eq.mpr zP)) r (u fY 3)<|?_;refine λ_ r=>mT hd 1 14 5 r (aX r (beq_iff_eq.mpr zP)) rfl rfl<|?_;refine λ_ r=>fV hd 13 6 rfl (aX r (beq_iff_eq.mpr zP)) r (R ((J r2 aP.toNat).Frame==0))<|?_;refine λ_ r=>fV hd 12 7 rfl (aX r (beq_iff_eq.mpr zP)) r (R ((J r2 aP.toNat).Frame==0))<|?_;refine λ_ r=>eof hd 11 8 rfl (aX r (beq_iff_eq.mpr wR)) r<|?_;refine λ_ r=>eof hd 10 9 rfl (aX r (beq_iff_eq.mpr wR)) r<|?_;refine λ_ r=>eof hd 9 13 rfl (aX r (beq_iff_eq.mpr wR)) r<|?_;refine λ_ r=>eof hd 8 10 rfl (aX r (beq_iff_eq.mpr wR)) r<|?_;refine λ_ r=>eof hd 7 11 rfl (aX r (beq_iff_eq.mpr wR)) r<|?_;refine λ_ r=>eof hd 6 12 rfl (aX r (beq_iff_eq.mpr wR)) r<|?_;refine λ_ r=>eof hd 5 14 rfl (aX r (beq_iff_eq.mpr wR)) r<|?_;refine λ_ r=>eof hd 4 15 rfl (aX r (beq_iff_eq.mpr wR)) r<|?_;refine λ_ r=>eof hd 3 16 rfl (aX r (beq_iff_eq.mpr wR)) r<|?_;refine λ_ r=>fV hd 2 17 rfl (aX r (beq_iff_eq.mpr zP)) r (R true) (hrun:=λw=>qX (b:=((J r2 aP.toNat).Frame==0)) rfl aK (beq_iff_eq.mpr wR) aK)<|?_;refine jl hd 1 18 rfl (R true) (λw=>qX (b:=((J r2 aP.toNat).X==(-1))) rfl aK (beq_iff_eq.mpr zP) aK)<|iy hd 0 [(19,11,R true)]<|kI<|tn<|?_;exact λ_ r=>⟨(),true,gA H,r.fj h⟩
       refine qg H λach H=>vZ [(fY,4,[Z (J r2 aP.toNat).X]),(fY,3,[Z (J r2 aP.toNat).Frame]),(fY,3,[Z (J r2 aP.toNat).Frame]),(dA iA,(J r2 aP.toNat).Frame.toNat*1,[Z (J kF (J r2 aP.toNat).Frame.toNat)]),(fY,1,[Z (J r2 aP.toNat).gV])] [0,2,4,6,9,11,13,15] 20 h (λh=>⟨⟨(h.pick 5).cell 4 rfl,bx⟩,⟨(h.pick 5).cell 3 rfl,bx⟩,⟨(h.pick 5).cell 3 rfl,bx⟩,⟨(h.pick 2).bE aE (f:=0) (aS ach) rfl,bx⟩,⟨(h.pick 5).cell 1 rfl,bx⟩,bx⟩) λw h hd =>qq r<|iy hd 19 [(0,152,u fY 4)]<|fg hd 0 18 1 rfl<|ju hd 16 152 [([2,3],R ((J r2 aP.toNat).X==(-1)))]<|λ_ r=>fV hd 15 4 rfl (aX r (beq_iff_eq.mpr zP)) r (u fY 3)<|?_;refine λ_ r=>mT hd 1 14 5 r (aX r (beq_iff_eq.mpr zP)) rfl rfl<|?_;refine λ_ r=>fV hd 13 6 rfl (aX r (beq_iff_eq.mpr zP)) r (R ((J r2 aP.toNat).Frame==0))<|?_;refine λ_ r=>fV hd 12 7 rfl (aX r (beq_iff_eq.mpr zP)) r (R ((J r2 aP.toNat).Frame==0))<|?_;refine λ_ r=>fV hd 11 8 rfl (aX r (bN wR)) r (aY iA (List.replicate O.au.toNat (0:Int)).length O.au.toNat)<|?_;refine λ_ r=>fV hd 10 9 rfl (aX r (bN wR)) r (u fY 3)<|?_;refine λ_ r=>fV hd 9 13 rfl (aX r (bN wR)) r (u fY 1)<|?_;refine λ_ r=>mT hd 2 8 10 r (aX r (bN wR)) rfl rfl<|?_;refine λ_ r=>fV hd 7 11 rfl (aX r (bN wR)) r (u (dA iA) ((J r2 aP.toNat).Frame.toNat*1)) (hrun:=λw=>nN 3 rfl (h.pick 2) ach)<|?_;refine λ_ r=>mT hd 3 6 12 r (aX r (bN wR)) rfl rfl<|?_;refine λ_ r=>mT hd 4 5 14 r (aX r (bN wR)) rfl rfl<|?_;refine λ_ r=>fV hd 4 15 rfl (aX r (bN wR)) r (Z (wi ((J r2 aP.toNat).gV+1)))<|?_;refine λ_ r=>fV hd 3 16 rfl (aX r (bN wR)) r (R ((J kF (J r2 aP.toNat).Frame.toNat)==(wi ((J r2 aP.toNat).gV+1))))<|?_;refine λ_ r=>fV hd 2 17 rfl (aX r (beq_iff_eq.mpr zP)) r (R ((J kF (J r2 aP.toNat).Frame.toNat)==(wi ((J r2 aP.toNat).gV+1)))) (hrun:=λw=>nI (b:=((J r2 aP.toNat).Frame==0)) rfl aK (bN wR) aK)<|?_;refine jl hd 1 18 rfl (R ((J kF (J r2 aP.toNat).Frame.toNat)==(wi ((J r2 aP.toNat).gV+1)))) (λw=>qX (b:=((J r2 aP.toNat).X==(-1))) rfl aK (beq_iff_eq.mpr zP) aK)<|iy hd 0 [(19,11,R ((J kF (J r2 aP.toNat).Frame.toNat)==(wi ((J r2 aP.toNat).gV+1))))]<|kI<|tn<|?_;exact λ_ r=>⟨(),((J kF (J r2 aP.toNat).Frame.toNat)==(wi ((J r2 aP.toNat).gV+1))),gA H,r.fj h⟩
      refine vZ [(fY,4,[Z (J r2 aP.toNat).X])] [0] 20 h (λh=>⟨⟨(h.pick 5).cell 4 rfl,bx⟩,bx⟩) λw h hd =>qq r<|iy hd 19 [(0,152,u fY 4)]<|fg hd 0 18 1 rfl<|ju hd 16 152 [([2,3],R ((J r2 aP.toNat).X==(-1)))]<|λ_ r=>eof hd 15 4 rfl (aX r (bN zP)) r<|?_;refine λ_ r=>eof hd 14 5 rfl (aX r (bN zP)) r<|?_;refine λ_ r=>eof hd 13 6 rfl (aX r (bN zP)) r<|?_;refine λ_ r=>eof hd 12 7 rfl (aX r (bN zP)) r<|?_;refine λ_ r=>eof hd 11 8 rfl (dG r rfl rfl rfl aK) r<|?_;refine λ_ r=>eof hd 10 9 rfl (dG r rfl rfl rfl aK) r<|?_;refine λ_ r=>eof hd 9 13 rfl (dG r rfl rfl rfl aK) r<|?_;refine λ_ r=>eof hd 8 10 rfl (dG r rfl rfl rfl aK) r<|?_;refine λ_ r=>eof hd 7 11 rfl (dG r rfl rfl rfl aK) r<|?_;refine λ_ r=>eof hd 6 12 rfl (dG r rfl rfl rfl aK) r<|?_;refine λ_ r=>eof hd 5 14 rfl (dG r rfl rfl rfl aK) r<|?_;refine λ_ r=>eof hd 4 15 rfl (dG r rfl rfl rfl aK) r<|?_;refine λ_ r=>eof hd 3 16 rfl (dG r rfl rfl rfl aK) r<|?_;refine λ_ r=>eof hd 2 17 rfl (aX r (bN zP)) r<|?_;refine jl hd 1 18 rfl (R false) (λw=>nI (b:=((J r2 aP.toNat).X==(-1))) rfl aK (bN zP) aK)<|iy hd 0 [(19,11,R false)]<|kI<|tn<|?_;exact λ_ r=>⟨(),false,gA H,r.fj h⟩
     clear h r;rintro _ a w ⟨oG,rfl,j,r,h⟩;replace H:=DS acg;refine qq r<|wq<|qI H (λzQ H=>?_) λzQ H=>?_
     ·refine lC [] [] 18 h (λ_=>trivial) λw h hd =>ju hd 15 171 [([0],R oG),([1,2],R (!oG))]<|λ_ r=>eof hd 14 3 rfl (aX r (x:=!oG) (c:=false) (by rw[show oG=true from(zQ)];rfl)) r<|?_;refine λ_ r=>eof hd 13 4 rfl (aX r (x:=!oG) (c:=false) (by rw[show oG=true from(zQ)];rfl)) r<|?_;refine λ_ r=>eof hd 12 5 rfl (aX r (x:=!oG) (c:=false) (by rw[show oG=true from(zQ)];rfl)) r<|?_;refine λ_ r=>eof hd 11 6 rfl (aX r (x:=!oG) (c:=false) (by rw[show oG=true from(zQ)];rfl)) r<|?_;refine λ_ r=>eof hd 10 7 rfl (dG r rfl rfl rfl aK) r<|?_;refine λ_ r=>eof hd 9 8 rfl (dG r rfl rfl rfl aK) r<|?_;refine λ_ r=>eof hd 8 12 rfl (dG r rfl rfl rfl aK) r<|?_;refine λ_ r=>eof hd 7 9 rfl (dG r rfl rfl rfl aK) r<|?_;refine λ_ r=>eof hd 6 10 rfl (dG r rfl rfl rfl aK) r<|?_;refine λ_ r=>eof hd 5 11 rfl (dG r rfl rfl rfl aK) r<|?_;refine λ_ r=>eof hd 4 13 rfl (dG r rfl rfl rfl aK) r<|?_;refine λ_ r=>eof hd 3 14 rfl (dG r rfl rfl rfl aK) r<|?_;refine λ_ r=>eof hd 2 15 rfl (dG r rfl rfl rfl aK) r<|?_;refine λ_ r=>eof hd 1 16 rfl (aX r (x:=!oG) (c:=false) (by rw[show oG=true from(zQ)];rfl)) r<|?_;refine jl hd 0 17 rfl (R false) (λw=>nI (b:=(!oG)) rfl aK (by rw[show oG=true from(zQ)];rfl) aK)<|kI<|tn<|λ_ r=>iT r (b:=false) rfl<|qq r<|wk<|bn<|bn<|tn<|wl<|ko [U,Z (wi (aP+1)),Z (wi (aP+1))]<|I<|?_;exact λ_ r=>⟨_,⟨kF,rq,tM,(wi (aP+1)),H,r.fj (h.se 6 [0,1,2,3,4])⟩,gQ _⟩
     refine qI H (λvF H=>?_) λvF H=>?_
     ·refine lC [(fY,4,[Z (J r2 aP.toNat).X])] [1,3] 18 h (λh=>⟨⟨(h.pick 5).cell 4 rfl,bx⟩,bx⟩) λw h hd =>ju hd 15 171 [([0],R oG),([1,2],R (!oG))]<|λ_ r=>fV hd 14 3 rfl (aX r (x:=!oG) (c:=true) (by rw[show oG=false from(bF zQ)];rfl)) r (u fY 4)<|?_;refine λ_ r=>mT hd 0 13 4 r (aX r (x:=!oG) (c:=true) (by rw[show oG=false from(bF zQ)];rfl)) rfl rfl<|?_;refine λ_ r=>fV hd 12 5 rfl (aX r (x:=!oG) (c:=true) (by rw[show oG=false from(bF zQ)];rfl)) r (cJ ((J r2 aP.toNat).X<0))<|?_;refine λ_ r=>fV hd 11 6 rfl (aX r (x:=!oG) (c:=true) (by rw[show oG=false from(bF zQ)];rfl)) r (cJ ((J r2 aP.toNat).X<0))<|?_;refine λ_ r=>eof hd 10 7 rfl (aX r (dT vF)) r<|?_;refine λ_ r=>eof hd 9 8 rfl (aX r (dT vF)) r<|?_;refine λ_ r=>eof hd 8 12 rfl (aX r (dT vF)) r<|?_;refine λ_ r=>eof hd 7 9 rfl (aX r (dT vF)) r<|?_;refine λ_ r=>eof hd 6 10 rfl (aX r (dT vF)) r<|?_;refine λ_ r=>eof hd 5 11 rfl (aX r (dT vF)) r<|?_;refine λ_ r=>eof hd 4 13 rfl (aX r (dT vF)) r<|?_;refine λ_ r=>eof hd 3 14 rfl (aX r (dT vF)) r<|?_;refine λ_ r=>eof hd 2 15 rfl (aX r (dT vF)) r<|?_;refine λ_ r=>fV hd 1 16 rfl (aX r (x:=!oG) (c:=true) (by rw[show oG=false from(bF zQ)];rfl)) r (R true) (hrun:=λw=>qX (b:=(decide ((J r2 aP.toNat).X<0))) rfl aK (dT vF) aK)<|?_;refine jl hd 0 17 rfl (R true) (λw=>qX (b:=(!oG)) rfl aK (by rw[show oG=false from(bF zQ)];rfl) aK)<|kI<|tn<|λ_ r=>dX r (b:=true) rfl<|qq r<|gS<|wr<|br<|br<|tr<|tr<|br<|tr<|?_;cases H;exact gC (h.se 6 [])
     refine qg H λLK H=>lC [(fY,4,[Z (J r2 aP.toNat).X]),(fY,3,[Z (J r2 aP.toNat).Frame]),(dA iA,(J r2 aP.toNat).Frame.toNat*1,[Z (J kF (J r2 aP.toNat).Frame.toNat)]),(fY,4,[Z (J r2 aP.toNat).X])] [1,3,5,8,10,12,14] 18 h (λh=>⟨⟨(h.pick 5).cell 4 rfl,bx⟩,⟨(h.pick 5).cell 3 rfl,bx⟩,⟨(h.pick 2).bE aE (f:=0) (aS LK) rfl,bx⟩,⟨(h.pick 5).cell 4 rfl,bx⟩,bx⟩) λw h hd =>ju hd 15 171 [([0],R oG),([1,2],R (!oG))]<|λ_ r=>fV hd 14 3 rfl (aX r (x:=!oG) (c:=true) (by rw[show oG=false from(bF zQ)];rfl)) r (u fY 4)<|?_;refine λ_ r=>mT hd 0 13 4 r (aX r (x:=!oG) (c:=true) (by rw[show oG=false from(bF zQ)];rfl)) rfl rfl<|?_;refine λ_ r=>fV hd 12 5 rfl (aX r (x:=!oG) (c:=true) (by rw[show oG=false from(bF zQ)];rfl)) r (cJ ((J r2 aP.toNat).X<0))<|?_;refine λ_ r=>fV hd 11 6 rfl (aX r (x:=!oG) (c:=true) (by rw[show oG=false from(bF zQ)];rfl)) r (cJ ((J r2 aP.toNat).X<0))<|?_;refine λ_ r=>fV hd 10 7 rfl (aX r (dF vF)) r (aY iA (List.replicate O.au.toNat (0:Int)).length O.au.toNat)<|?_;refine λ_ r=>fV hd 9 8 rfl (aX r (dF vF)) r (u fY 3)<|?_;refine λ_ r=>fV hd 8 12 rfl (aX r (dF vF)) r (u fY 4)<|?_;refine λ_ r=>mT hd 1 7 9 r (aX r (dF vF)) rfl rfl<|?_;refine λ_ r=>fV hd 6 10 rfl (aX r (dF vF)) r (u (dA iA) ((J r2 aP.toNat).Frame.toNat*1)) (hrun:=λw=>nN 3 rfl (h.pick 2) LK)<|?_;refine λ_ r=>mT hd 2 5 11 r (aX r (dF vF)) rfl rfl<|?_;refine λ_ r=>mT hd 3 4 13 r (aX r (dF vF)) rfl rfl<|?_;refine λ_ r=>fV hd 3 14 rfl (aX r (dF vF)) r (Z (wi ((J r2 aP.toNat).X+1)))<|?_;refine λ_ r=>fV hd 2 15 rfl (aX r (dF vF)) r (R ((J kF (J r2 aP.toNat).Frame.toNat) != (wi ((J r2 aP.toNat).X+1))))<|?_;refine λ_ r=>fV hd 1 16 rfl (aX r (x:=!oG) (c:=true) (by rw[show oG=false from(bF zQ)];rfl)) r (R ((J kF (J r2 aP.toNat).Frame.toNat) != (wi ((J r2 aP.toNat).X+1)))) (hrun:=λw=>nI (b:=(decide ((J r2 aP.toNat).X<0))) rfl aK (dF vF) aK)<|?_;refine jl hd 0 17 rfl (R ((J kF (J r2 aP.toNat).Frame.toNat) != (wi ((J r2 aP.toNat).X+1)))) (λw=>qX (b:=(!oG)) rfl aK (by rw[show oG=false from(bF zQ)];rfl) aK)<|kI<|tn<|qB H (λaez H=>?_) λaez H=>?_
     ·refine wk<|bn<|bn<|tn<|wl<|ko [U,Z (wi (aP+1)),Z (wi (aP+1))]<|I<|?_;exact λ_ r=>⟨_,⟨kF,rq,tM,(wi (aP+1)),H,r.fj (h.se 6 [0,1,2,3,4])⟩,gQ _⟩
     refine gS<|wr<|br<|br<|tr<|tr<|br<|tr<|?_;cases H;exact gC (h.se 6 [])
    refine wk<|bn<|bn<|tn<|wl<|ko [U,Z (wi (aP+1)),Z (wi (aP+1))]<|I<|?_;exact λ_ r=>⟨_,⟨kF,rq,tM,(wi (aP+1)),H,r.fj (h.se 6 [0,1,2,3,4])⟩,gQ _⟩
   refine wx<|te<|bh<|tn<|wl<|ko [U,Z (wi (aP+1)),Z (wi (aP+1))]<|I<|?_;exact λ_ r=>⟨_,⟨kF,rq,tM,(wi (aP+1)),H,r.fj (h.se 6 [1,2,3,4,5])⟩,gQ _⟩
  refine wx<|te<|te<|bh<|tn<|gS<|wr<|?_;cases H;exact gC (h.se 5 [])
end
open Go SL GX
section
variable {K:Nat}{C:Am.kT}
theorem in8{i:Nat}{w w':Am.W}{e:Option Am.Ev}(t:Am.Tr C i w e w')(hi:i<C.N)(h:w.v.FI C.N C.F):∀x,e=some x->x.kind=8->0<=x.ax/\x.ax<C.F:=by
 have hF:=h.wD;intro x hx h8;cases t with
 | gF e he =>
  subst hx;simp only[Am.quiet,yw,wE]at he;omega
 | DD k y l hk ID hg hq =>
  cases hx;have z:=(h.q k y hk (by rw[hq];exact List.mem_cons.2 (.inl rfl))).2;have hy:y<w.v.nf:=by
   rcases CV y w.v.nf with h' | h'
   ·exact h'
   ·have:=h.free y h';rw[z]at this;cases this
  exact⟨by show(0:Int)<=(y:Int);omega,by show(y:Int)<C.F;omega⟩
 | _=>cases hx<;>simp[Am.ev]at h8
def rIn(C:Am.kT)(e:ai):Prop:=(e.aL=1∨e.aL=2∨e.aL=8->0<=e.Frame/\e.Frame<C.F)/\0<=e.gV/\e.gV<C.N/\0<=e.aL
def rF:Nat->Am.RG->List ai->Am.RG
 | _,o,[]=>o
 | t,o,e::l=>rF (t+1) (Am.PC e.gV.toNat t o (Hj e)) l
def rA(C:Am.kT):Nat->Am.RG->List ai->Prop
 | _,_,[]=>True
 | t,o,e::l=>(Am.Xd C e.gV.toNat o (Hj e)/\rIn C e)/\rA C (t+1) (Am.PC e.gV.toNat t o (Hj e)) l
theorem T0{e:ai}:∀{l:List ai} {t:Nat} {o:Am.RG},rF t o (l++[e])=Am.PC e.gV.toNat (t+l.length) (rF t o l) (Hj e)
 | [],_,_=>rfl
 | x::l,t,o=>by
  show rF (t+1) _ (l++[e])=Am.PC e.gV.toNat (t+(l.length+1)) (rF (t+1) _ l) (Hj e);rw[T0,show t+1+l.length=t+(l.length+1) by omega]
theorem T1{e:ai}:∀{l:List ai} {t:Nat} {o:Am.RG},rA C t o l->Am.Xd C e.gV.toNat (rF t o l) (Hj e)->rIn C e->rA C t o (l++[e])
 | [],_,_,_,h2,h3=>⟨⟨h2,h3⟩,bx⟩
 | x::l,_,_,h1,h2,h3=>⟨h1.1,T1 h1.2 h2 h3⟩
def rg0:Am.RG:=⟨λ_=>0,λ_=>0,λ_=>0⟩
def JR(C:Am.kT)(s:Am.St)(l:List ai)(g:Nat):Prop:=Am.RI C (Am.wv s) (rF 0 rg0 l) l.length/\rA C 0 rg0 l
theorem Wc(C:Am.kT)(args:List Int):JR C (init C args) [] 0:=by
 refine⟨⟨?_,?_,λx=>j9 _,λj=>j9 _,?_,?_⟩,bx⟩
 ·intro j x _ h;cases h
 ·intro j _;exact List.Pairwise.nil
 ·intro i x _ h;cases h
 ·intro i f hi hg hh;have hh:(if i=0 then some 0 else none)=some f:=hh;split at hh
  ·next e=>subst e;cases hh;exact .inl ⟨rfl,.inl rfl⟩
  ·cases hh
theorem Wd{p:aM}{s:Am.St}{S:ag}{M:af}{sz g i:Nat}{l:List ai}{d:Int}(b:vL C p s S M sz g)(j:JR C s l g)(hi:i<C.N):JR C (Am.aJ C s i d).s (EY g i l (Am.aJ C s i d).ev) (g+1):=by
 have tr:=Am.FQ b.fi b.dt hi d;have q:=Am.RI.acf tr hi b.fi j.1;cases Kb:(Am.aJ C s i d).ev with
 | none=>exact⟨q.1 Kb,j.2⟩
 | some x =>
  have q:=q.2 x Kb;have r:=tr.inr hi b.fi x Kb;have r8:=in8 tr hi b.fi x Kb;have ei:(i:Int).toNat=i:=dc i;constructor
  ·show Am.RI C _ (rF 0 rg0 (l++[_])) (l++[_]).length;rw[T0,jP,Ae];show Am.RI C _ (Am.PC ((i:Int)).toNat l.length _ (Hj ⟨(g:Int),(i:Int),(x.kind:Int),x.ax,x.x,x.v⟩)) (l.length+1);rw[ei];exact q.2
  ·refine T1 j.2 ?_ ⟨λh => ?_,by show(0:Int)<=(i:Int);omega,by show(i:Int)<C.N;omega,by show(0:Int)<=(x.kind:Int);omega⟩
   ·show Am.Xd C ((i:Int)).toNat _ _;rw[ei];exact q.1
   ·have h:(x.kind:Int)=1∨(x.kind:Int)=2∨(x.kind:Int)=8:=h;rcases h with h | h | h
    ·exact r.1 aB
    ·exact r.1 aB
    ·exact r8 aB
structure Ol(C:Am.kT)(o:Am.RG)(a b l:List Int):Prop where
 na:a.length=C.F
 nb:b.length=C.F
 nl:l.length=C.N
 by_:∀f,f<C.F->GX.J a f=(o.b f:Int)
 num:∀f,f<C.F->GX.J b f=(o.num f:Int)
 last:∀j,j<C.N->GX.J l j=(o.last j:Int)
 bn:∀f,o.b f<=C.N
set_option maxHeartbeats 4000000 in
theorem PD{c:bO}{r:List ai}(hr:r.length<=1048576)(hF:c.au=C.F)(hN:c.aF=C.N)(h4:C.F<=4096)(h64:C.N<=64):∀(e k g:Nat) (o:Am.RG) (a b l:List Int),g+e=r.length->e<k->rA C g o (r.drop g)->Ol C o a b l->bG K c r k a b l (g:Int)=some true
 | e,k,g,o,a,b,l,he,hk,hA,hR=>by
  obtain⟨k,rfl⟩ :∃m,k=m+1:=⟨k-1,aB⟩;rw[bG];by_cases hg:g<r.length
  ·obtain⟨e,rfl⟩ :∃m,e=m+1:=⟨e-1,aB⟩;rw[xI hg]at hA;obtain⟨⟨hok,hin⟩,Y5⟩:=hA;have ih:=PD hr hF hN h4 h64 e k (g+1);rw[oU,aW ⟨aB,aB⟩,dc];generalize GX.J r g=v at hok hin Y5;obtain⟨i1,w0,w1,k0⟩:=hin;have na:=hR.na;have nb:=hR.nb;have nl:=hR.nl;have hlen:(((List.replicate c.au.toNat (0:Int)).length:Nat):Int)=C.F:=by rw[lY];omega
   have ek:(Hj v).kind=v.aL.toNat:=rfl;rw[CG (i:=g) aB];by_cases h2:v.aL=2
   ·obtain⟨f1,f2⟩:=i1 (.inr (.inl h2));have fa:v.Frame.toNat<C.F:=by omega
    have e2:Am.PC v.gV.toNat g o (Hj v)={o with b:=Am.dW o.b v.Frame.toNat (v.gV.toNat+1),num:=Am.dW o.num v.Frame.toNat (g+1)}:=by
     unfold Am.PC;rw[eG,oU];rfl
    rw[e2]at Y5;rw[aW h2,eG,cF (by rw[hlen];omega),eG,cF (by rw[hN];omega),eT,aW h2,aW ⟨f1,by rw[na];exact f2⟩,aW ⟨f1,by rw[nb];exact f2⟩,eF aB];refine ih _ _ _ _ aB aB Y5 ⟨by rw[hU,na],by rw[hU,nb],nl,λf hf => ?_,λf hf => ?_,hR.last,λf => ?_⟩
    ·rw[pU (by rw[na];exact fa)];show _=((Am.dW o.b v.Frame.toNat (v.gV.toNat+1) f:Nat):Int);rw[Am.fC];by_cases e:f=v.Frame.toNat
     ·rw[aW e,aW e];omega
     ·rw[cF e,cF e];exact hR.by_ f hf
    ·rw[pU (by rw[nb];exact fa)];show _=((Am.dW o.num v.Frame.toNat (g+1) f:Nat):Int);rw[Am.fC];by_cases e:f=v.Frame.toNat
     ·rw[aW e,aW e]
     ·rw[cF e,cF e];exact hR.num f hf
    ·show Am.dW o.b v.Frame.toNat (v.gV.toNat+1) f<=C.N;rw[Am.fC];split
     ·omega
     ·exact hR.bn f
   ·rw[cF h2];by_cases h8:v.aL=8
    ·obtain⟨f1,f2⟩:=i1 (.inr (.inr h8));have fa:v.Frame.toNat<C.F:=by omega
     have e2:Am.PC v.gV.toNat g o (Hj v)={o with last:=Am.dW o.last v.X.toNat (o.num v.Frame.toNat)}:=by
      unfold Am.PC;rw[oU];rfl
     rw[e2]at Y5;unfold Am.Xd at hok;rw[oU]at hok;obtain⟨x1,x2,x3,x4,x5⟩:=hok;change 0<=v.X at x1;change v.X<C.N at x2;change v.X≠v.gV.toNat at x3;change o.b v.Frame.toNat=v.X.toNat+1 at x4;change o.last v.X.toNat<o.num v.Frame.toNat at x5;have xa:v.X.toNat<C.N:=by omega
     rw[aW h8,eG,cF (by rw[hlen];omega),eG,cF (by rw[hN];omega),eT,cF h2,aW h8,eG,cF (by rw[hN];omega),eG,aW ⟨f1,by rw[na];exact f2⟩,hR.by_ _ fa,eF aB,oU,aW ⟨f1,by rw[nb];exact f2⟩,aW ⟨x1,by rw[nl];exact x2⟩,hR.num _ fa,hR.last _ xa,eG];refine ih _ _ _ _ aB aB Y5 ⟨na,nb,by rw[hU,nl],hR.by_,hR.num,λj hj => ?_,hR.bn⟩;rw[pU (by rw[nl];exact xa)];show _=((Am.dW o.last v.X.toNat (o.num v.Frame.toNat) j:Nat):Int);rw[Am.fC];by_cases e:j=v.X.toNat
     ·rw[aW e,aW e]
     ·rw[cF e,cF e];exact hR.last j hj
    ·rw[cF h8];have e2:Am.PC v.gV.toNat g o (Hj v)=o:=by
      unfold Am.PC;rw[eG,eG]
     rw[e2]at Y5;have go:=ih o a b l aB aB Y5 hR;by_cases h1:v.aL=1
     ·obtain⟨f1,f2⟩:=i1 (.inl h1);have fa:v.Frame.toNat<C.F:=by omega
      unfold Am.Xd at hok;rw[eG,oU]at hok;rw[aW h1,eG,cF (by rw[hlen];omega),eG,cF (by rw[hN];omega),eT,cF h2,cF h8,aW h1];have hx:(v.X=-1/\(v.Frame=0∨o.b v.Frame.toNat=v.gV.toNat+1))∨(0<=v.X/\o.b v.Frame.toNat=v.X.toNat+1):=hok;have hbn:=hR.bn v.Frame.toNat;rcases hx with ⟨x1,x2⟩ | ⟨x1,x2⟩
      ·rw[aW x1];by_cases h0:v.Frame=0
       ·rw[aW h0,ay,aW rfl];exact go
       ·rcases x2 with x2 | x2
        ·exact absurd x2 h0
        ·rw[cF h0,aW ⟨f1,by rw[na];exact f2⟩,ay,hR.by_ _ fa,eF aB,aW (by rw[x2];simp;omega)];exact go
      ·rw[eG,ay,cF eL,eG,aW ⟨f1,by rw[na];exact f2⟩,hR.by_ _ fa,eF aB,oU];exact go
     ·rw[cF h1];exact go
  ·rw[eG]
theorem N7{c:bO}(h:Small c)(hK:4000000<K):lq K c=some true:=by
 unfold lq;rcases Wb (K:=K) h hK (afq:=JR) (λN F f m hv _=>Wc _ _) (λC p s S M sz l g i d b j hi=>Wd b j hi)with ⟨r,e⟩ | ⟨r,C,s,g,e,j,hr,hF,h1,h4,hgp,hv,ha,hCO,N,F,f,m,hC,hN⟩
 ·rw[e,dz,aW rfl,cF eL,Jj]
 ·have hCN:C.N=N:=by rw[hC];rfl
  have n64:=hCO.n64;rw[e,dz,aW rfl,aW rfl,eT,aW ⟨aB,aB⟩,aW ⟨aB,aB⟩];have hn:c.au.toNat=C.F:=by omega
  have hw:c.aF.toNat=C.N:=by omega
  rw[hn,hw];have:=PD (K:=K) (c:=c) (C:=C) hr hF aB h4 n64 r.length K 0 rg0 (List.replicate C.F (0:Int)) (List.replicate C.F (0:Int)) (List.replicate C.N (0:Int)) aB aB (by rw[ni];exact j.2)
   ⟨by rw[lY],by rw[lY],by rw[lY],λy hy=>by rw[xD hy];rfl,λy hy=>by rw[xD hy];rfl,λy hy=>by rw[xD hy];rfl,λy=>Cf _⟩
  rw[pT]at this;exact this
end
end Mo
end
end Go.Proofs.YtaiffafelihaaaaGreatDoor
