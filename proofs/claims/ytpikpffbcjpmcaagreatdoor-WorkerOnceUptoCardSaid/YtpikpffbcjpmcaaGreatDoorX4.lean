/- plunderlaw11.WorkerOnce answers true for every input of the bulk that the statement names, and leaves its input alone. Conditions: none. -/
import Derived.Test.YtpikpffbcjpmcaaGreatDoorX3
set_option linter.unusedVariables false
set_option linter.unusedSimpArgs false
set_option linter.unusedSectionVars false
set_option maxRecDepth 100000
set_option maxHeartbeats 4000000
namespace Go.Proofs.YtpikpffbcjpmcaaGreatDoor
section
namespace Mo
open Go SL GX
theorem yP{o:aK}{v:Int}(ha:o.ag=4)(h1:1<=v)(h2:v<=4096)(hb:-4000000000000<=o.b-o.t/\o.b-o.t<=4000000000000):bR o v=if o.b-o.t<v then some {o with ag:=10,c:=v}else if o.lj<=v then some {o with ag:=0,c:=v,code:=3,value:=0}
 else some {o with ag:=5,c:=v,c2:=if o.lj<2*v then o.lj else 2*v}:=by
 unfold bR NM
 rw[iM_ ha,iM_ ha,iM_ ha,au ha,iO_,bz (x:=o.b-o.t) (by omega),bz (x:=2*v) (by omega)];rfl
theorem yQ{o:aK}{v:Int}(ha:o.ag=8)(hb:-4000000000000<=o.i/\o.i<=4000000000000):bR o v=if o.i+1=o.b then some {o with ag:=9,i:=o.i+1}else some {o with ag:=7,i:=o.i+1}:=by
 unfold bR
 rw[iM_ ha,iM_ ha,iM_ ha,iM_ ha,iM_ ha,iM_ ha,iM_ ha,au ha,bz (x:=o.i+1) (by omega)]
section
variable {K:Nat}{C:Am.dH}{p:ay}{s:Am.St}{S:af}{M:ae}{sz n i:Nat}{D:aA}{d:Int}
variable (b:j0 C p s S M sz n)(hi:i<C.N)
include b hi
theorem Aj:s.mem (.cap i (s.cur i))=Am.js C (s.cur i)/\(1:Int)<=s.mem (.cap i (s.cur i))/\s.mem (.cap i (s.cur i))<=C.most/\(C.most:Int)<=4096:=by
 have h:=Am.nZ b.z hi
 have h1:=Am.oz b.ok (s.cur i)
 have h2:=Am.tj b.ok (s.cur i)
 have h3:=b.ok.m4
 change s.mem (.cap i (s.cur i))=_ at h
 omega
theorem vy{c:Nat}(hc:(act S i).ct=c)(hg:(Am.view s).g i= .push c){o':aK}{M':ae}(h1:bX M (act S i).aG=some (o',M'))(h2:o'.kind=1)(h3:o'.ag=0)(h4:o'.code=3) :
 aU S M (i:Int) D=some (mL (Am.ev 11 c 1 0),Ok S i {{act S i with aG:=o' }with aJ:=14},M'):=by
 have hin:aZ (act S i).ct S.ak.length:=by rw[hc];exact b.task (WR b hi hg)
 have hw:=b.wl hi
 unfold aU bE OV MR
 rw[Zi,au hin,OU,au hin,jG h1 (tv (by rw[h2];decide) h3),bZ,h4,aj (by decide),au rfl,au (by rw[da];exact b.lU hi)]
 rw[show ag (Ok S i {act S i with aG:=o' }).aa i={act S i with aG:=o' }from eN hw]
 show some (_,Ok (Ok S i _) i _,_)=_
 rw[rY]
 show some ((⟨0,0,11,(act S i).ct,1,0⟩:ah),_,_)=_
 rw[hc];rfl
theorem tB{c:Nat}{bb t:Int}(hp:s.pc i= .iH c bb t):cY C p sz n M (Am.step C s i d) (aU S M (i:Int) D):=by
 obtain⟨w1,w2,w3⟩:=b.dh.wk i hi
 rw[hp]at w3
 obtain⟨a1,a2,⟨o1,o2,o3,o4⟩,a3,a4,a5,a6⟩:=w3
 obtain⟨c0,c1,c2,c3⟩:=Aj b hi
 have r1:=b.qD (i:=i) (x:=bb) (by rw[hp];simp[Am.cr])
 have r2:=b.qD (i:=i) (x:=t) (by rw[hp];simp[Am.cr])
 have hg:(Am.view s).g i= .push c:=by show Am.sig (s.pc i)=_;rw[hp];rfl
 have hs:∀o',bR (act S i).aG (s.mem (.cap i (s.cur i)))=some o'->_:=λo' h=>fL o1 o2 (by decide) (by decide) (Yf b.ar b.z b.cN hi (mA s i) o2 a6) (o':=o') (by rw[au rfl];exact h)
 have e0:=yP o2 (v:=s.mem (.cap i (s.cur i))) c1 (by omega) (by rw[a4,a5];omega)
 unfold Am.step;rw[hp];simp only
 by_cases h1:bb-t<s.mem (.cap i (s.cur i))
 ·rw[au h1];rw[au (by rw[a4,a5];exact h1)]at e0
  exact .mk b hi (gO b hi a2 hg (hs _ e0) o1 (by show(10:Int)≠0;decide)) w1 w2 rfl ⟨a1,a2,⟨o1,rfl,o3,o4⟩,a3,a4,a6,rfl⟩ (b.kR rfl (by rw[hp];rfl) _ _ _ _ _) (Lg.nt rfl) trivial
 ·rw[aj h1];rw[aj (by rw[a4,a5];exact h1)]at e0
  by_cases h2:(C.most:Int)<=s.mem (.cap i (s.cur i))
  ·rw[au h2];rw[au (by rw[o4];exact h2)]at e0
   exact .mk b hi (vy b hi a2 hg (hs _ e0) o1 rfl rfl) w1 w2 rfl rfl (b.kR rfl (by rw[hp];rfl) _ _ _ _ _) (Lg.nt rfl) (by show(11:Nat)≠0;decide)
  ·rw[aj h2];rw[aj (by rw[o4];exact h2)]at e0
   refine .mk b hi (gO b hi a2 hg (hs _ e0) o1 (by show(5:Int)≠0;decide)) w1 w2 rfl ⟨a1,a2,⟨o1,rfl,o3,o4⟩,a3,a4,a5,a6,rfl,?_⟩ (b.kR rfl (by rw[hp];rfl) _ _ _ _ _) (Lg.nt rfl) trivial
   show(if(act S i).aG.lj<_ then(act S i).aG.lj else _)=_
   rw[o4];unfold Am.cW;split<;>split<;>omega
theorem qK{c:Nat}{bb t cc:Int}(h:Am.nq C s i bb t cc):cc=Am.js C (s.cur i)/\Am.cW C cc=Am.js C (s.cur i+1)/\(1:Int)<=Am.cW C cc/\Am.cW C cc<=4096:=by
 have e:=h.2.2.2.2.1
 rw[Am.nZ b.z hi]at e
 have h1:=Am.oz b.ok (s.cur i+1)
 have h2:=Am.tj b.ok (s.cur i+1)
 have h3:=b.ok.m4
 refine⟨e,by rw[e];exact Am.lE C _,?_,?_⟩<;>rw[e,Am.lE C]<;>omega
theorem yR{c:Nat}{bb t cc:Int}(hp:s.pc i= .grow c bb t cc):cY C p sz n M (Am.step C s i d) (aU S M (i:Int) D):=by
 obtain⟨w1,w2,w3⟩:=b.dh.wk i hi
 rw[hp]at w3
 obtain⟨a1,a2,⟨o1,o2,o3,o4⟩,a3,a4,a5,a6,a7,a8⟩:=w3
 have P:=(b.dt.1 i hi).ph
 unfold Am.gz at P;rw[hp]at P;simp only at P
 obtain⟨g1,g2,g3,g4⟩:=qK b hi (c:=c) P
 have hg:(Am.view s).g i= .push c:=by show Am.sig (s.pc i)=_;rw[hp];rfl
 have tC:Am.gen s i=s.cur i:=by unfold Am.gen;rw[hp];rfl
 obtain⟨G,q1,q2⟩:=b.room
 have xl:=b.z.step b.ok b.dt hi d
 have hsz:=rZ xl q1 q2
 have hlen:=b.ar.cl.len
 have KQ:(Am.step C s i d).s.size=s.size+1+Am.js C (s.cur i+1):=by unfold Am.step;rw[hp];show s.size+1+Am.cW C cc=_;rw[g2]
 have hs:=fL o1 o2 (by decide) (by decide) (yL (k:=Am.js C (s.cur i+1)) b.ar b.cN o2 (by rw[a8];exact g2) (by omega)) (o':={(act S i).aG with ag:=6,a2:=s.size}) (by
  rw[au rfl];unfold bR;rw[iM_ o2,iM_ o2,iM_ o2,iM_ o2,au o2])
 have KR:Am.gen (Am.step C s i d).s=Am.bq (Am.gen s) i (s.cur i+1):=by
  unfold Am.step;rw[hp];simp only
  funext j;rw[Am.bM];unfold Am.gen;simp only[Am.St.to,Am.bM]
  split
  ·next e=>subst e;rfl
  ·rfl
 have yo:=b.ar.cl.grow (s':=(Am.step C s i d).s) b.z hi tC (λa=>by unfold Am.step;rw[hp];cases a<;>rfl) KQ (by unfold Am.step;rw[hp];rfl) KR
 have HQ:(Am.step C s i d).s.base=Am.bq s.base i (Am.bq (s.base i) (s.cur i+1) s.size):=by unfold Am.step;rw[hp];rfl
 have har:AR C (Am.step C s i d).s {nt M (M.cell++List.replicate (1+Am.js C (s.cur i+1)) 0) 4 s.size ((1+Am.js C (s.cur i+1):Nat):Int) 0 true with dL:=s.size+((1+Am.js C (s.cur i+1):Nat):Int)} sz (n+1):=by
  refine⟨b.ar.size,b.ar.s1,hsz,?_,yo,?_⟩
  ·show s.size+((1+Am.js C (s.cur i+1):Nat):Int)=(((M.cell++List.replicate _ 0).length:Nat):Int)
   rw[ad9,aeb];omega
  ·have:=b.ar.lg
   show(if M.watched=true then M.log++[_]else M.log).length<=_
   split
   ·rw[ad9];simp;omega
   ·omega
 have CE:Lg C (Am.step C s i d).s M {nt M (M.cell++List.replicate (1+Am.js C (s.cur i+1)) 0) 4 s.size ((1+Am.js C (s.cur i+1):Nat):Int) 0 true with dL:=s.size+((1+Am.js C (s.cur i+1):Nat):Int)} (Am.BE (.cap i (s.cur i+1)) (1+Am.cW C cc)):=by
  have pl:Am.place C (Am.step C s i d).s (.cap i (s.cur i+1))=s.size:=by show(Am.step C s i d).s.base i (s.cur i+1)=_;rw[HQ,Am.aL,Am.aL]
  have e:((1+Am.js C (s.cur i+1):Nat):Int)=1+Am.cW C cc:=by rw[g2];omega
  rw[e]
  exact Lg.nt (M:=M) (c:=M.cell++List.replicate (1+Am.js C (s.cur i+1)) 0) pl
 have hb:∀j g,(j≠i∨g<=s.cur i)->(Am.step C s i d).s.base j g=s.base j g:=λj g h=>by
  rw[HQ,Am.bM];split
  ·next e=>subst e;rw[Am.aI (by omega)]
  ·rfl
 have Ee:(Am.step C s i d).s.cur=s.cur:=by unfold Am.step;rw[hp];rfl
 have HO:(Am.step C s i d).s.pc=Am.bq s.pc i (.fH c bb t cc):=by unfold Am.step;rw[hp];rfl
 have qX:(Am.step C s i d).ev=none:=by unfold Am.step;rw[hp]
 have hac:(Am.step C s i d).acc=Am.BE (.cap i (s.cur i+1)) (1+Am.cW C cc):=by unfold Am.step;rw[hp]
 refine cY.mk (a:={act S i with aG:={(act S i).aG with ag:=6,a2:=s.size}}) b hi (by rw[qX];exact gO b hi a2 hg hs o1 (by show(6:Int)≠0;decide)) w1 (by show(act S i).an=_;rw[w2];unfold Am.step;rw[hp];rfl) HO ?_ har (by rw[hac];exact CE) (by rw[qX];trivial)
  (by unfold Am.step;rw[hp];intros;rfl) (by unfold Am.step;rw[hp];intros;rfl) (λj _=>by rw[Ee]) hb (by unfold Am.step;rw[hp];rfl) (by unfold Am.step;rw[hp];rfl) (by unfold Am.step;rw[hp];rfl)
 rw[Ee]
 refine⟨a1,a2,⟨o1,rfl,o3,o4⟩,a3,a4,a5,?_,a7,a8,?_⟩
 ·rw[hb i (s.cur i) (.inr (aea _))];exact a6
 ·show s.size=_;rw[HQ,Am.aL,Am.aL]
theorem tD{c:Nat}{bb t cc:Int}(hp:s.pc i= .fH c bb t cc):cY C p sz n M (Am.step C s i d) (aU S M (i:Int) D):=by
 obtain⟨w1,w2,w3⟩:=b.dh.wk i hi
 rw[hp]at w3
 obtain⟨a1,a2,⟨o1,o2,o3,o4⟩,a3,a4,a5,a6,a7,a8,a9⟩:=w3
 have hg:(Am.view s).g i= .push c:=by show Am.sig (s.pc i)=_;rw[hp];rfl
 have tC:s.cur i+1<=Am.gen s i:=by unfold Am.gen;rw[hp];exact aea _
 have hs:=fL o1 o2 (by decide) (by decide) (tw b.ar b.z b.cN hi tC o2 a9) (o':={(act S i).aG with ag:=7,i:=(act S i).aG.t}) (by
  rw[au rfl];unfold bR;rw[iM_ o2,iM_ o2,iM_ o2,iM_ o2,iM_ o2,au o2])
 rw[a8]at hs
 unfold Am.step;rw[hp];simp only
 exact .mk b hi (gO b hi a2 hg hs o1 (by show(7:Int)≠0;decide)) w1 w2 rfl ⟨a1,a2,⟨o1,rfl,o3,o4⟩,a3,a4,a5,a6,a7,a8,a9,a5⟩ (b.lR (c:=.cap i (s.cur i+1)) rfl (by rw[hp];rfl) ⟨hi,tC⟩ _ _ _ _ _) (Lg.nt rfl) trivial
theorem si{c:Nat}{bb t cc m:Int}(hp:s.pc i= .dZ c bb t cc m):cY C p sz n M (Am.step C s i d) (aU S M (i:Int) D):=by
 obtain⟨w1,w2,w3⟩:=b.dh.wk i hi
 rw[hp]at w3
 obtain⟨a1,a2,⟨o1,o2,o3,o4⟩,a3,a4,a5,a6,a7,a8,a9,yq⟩:=w3
 have P:=(b.dt.1 i hi).ph
 unfold Am.gz at P;rw[hp]at P;simp only at P
 obtain⟨g1,g2,g3,g4⟩:=qK b hi (c:=c) P.1
 have r1:=b.qD (i:=i) (x:=m) (by rw[hp];simp[Am.cr])
 have hg:(Am.view s).g i= .push c:=by show Am.sig (s.pc i)=_;rw[hp];rfl
 have hs:=fL o1 o2 (by decide) (by decide) (yM b.ar b.z b.ok b.cN hi (mA s i) o2 a6 (by rw[a7];exact g1) (by rw[yq];exact r1)) (o':={(act S i).aG with ag:=8,x:=s.mem (.el i (s.cur i) (Am.ix (act S i).aG.i (act S i).aG.c))}) (by
  rw[au rfl];unfold bR;rw[iM_ o2,iM_ o2,iM_ o2,iM_ o2,iM_ o2,iM_ o2,au o2])
 rw[a7,yq]at hs
 unfold Am.step;rw[hp];simp only
 exact .mk b hi (gO b hi a2 hg hs o1 (by show(8:Int)≠0;decide)) w1 w2 rfl ⟨a1,a2,⟨o1,rfl,o3,o4⟩,a3,a4,a5,a6,a7,a8,a9,yq,rfl⟩ (b.kR rfl (by rw[hp];rfl) _ _ _ _ _) (Lg.nt rfl) trivial
theorem Yg{c:Nat}{bb t cc m x:Int}(hp:s.pc i= .ew c bb t cc m x):cY C p sz n M (Am.step C s i d) (aU S M (i:Int) D):=by
 obtain⟨w1,w2,w3⟩:=b.dh.wk i hi
 rw[hp]at w3
 obtain⟨a1,a2,⟨o1,o2,o3,o4⟩,a3,a4,a5,a6,a7,a8,a9,yq,KS⟩:=w3
 have P:=(b.dt.1 i hi).ph
 unfold Am.gz at P;rw[hp]at P;simp only at P
 obtain⟨g1,g2,g3,g4⟩:=qK b hi (c:=c) P.1
 have r1:=b.qD (i:=i) (x:=m) (by rw[hp];simp[Am.cr])
 have hg:(Am.view s).g i= .push c:=by show Am.sig (s.pc i)=_;rw[hp];rfl
 have tC:s.cur i+1<=Am.gen s i:=by unfold Am.gen;rw[hp];exact aea _
 have hac:=yN b.ar b.z b.ok b.cN hi tC o2 a9 (by rw[a8];exact g2) (by rw[yq];exact r1)
 rw[a8,yq,KS]at hac
 have hv:=(mH (x:=m) b.ar b.z b.ok hi tC g2 r1).2
 have e0:=yQ o2 (v:=0) (by rw[yq];omega)
 have hlt:=P.2.2.2.1
 unfold Am.step;rw[hp];simp only
 by_cases e:m+1<bb
 ·rw[au e];rw[aj (by rw[yq,a4];omega)]at e0
  have hs:=fL o1 o2 (by decide) (by decide) hac (o':=_) (by rw[au rfl];exact e0)
  exact .mk b hi (gO b hi a2 hg hs o1 (by show(7:Int)≠0;decide)) w1 w2 rfl ⟨a1,a2,⟨o1,rfl,o3,o4⟩,a3,a4,a5,a6,a7,a8,a9,by rw[<-yq]⟩ (b.lR (c:=.el i (s.cur i+1) (Am.ix m (Am.cW C cc))) rfl (by rw[hp];rfl) hv _ _ _ _ _) (Lg.nt rfl) trivial
 ·rw[aj e];rw[au (by rw[yq,a4];omega)]at e0
  have hs:=fL o1 o2 (by decide) (by decide) hac (o':=_) (by rw[au rfl];exact e0)
  exact .mk b hi (gO b hi a2 hg hs o1 (by show(9:Int)≠0;decide)) w1 w2 rfl ⟨a1,a2,⟨o1,rfl,o3,o4⟩,a3,a4,a8,a9⟩ (b.lR (c:=.el i (s.cur i+1) (Am.ix m (Am.cW C cc))) rfl (by rw[hp];rfl) hv _ _ _ _ _) (Lg.nt rfl) trivial
theorem tE{c:Nat}{bb t cc:Int}(hp:s.pc i= .fI c bb t cc):cY C p sz n M (Am.step C s i d) (aU S M (i:Int) D):=by
 obtain⟨w1,w2,w3⟩:=b.dh.wk i hi
 rw[hp]at w3
 obtain⟨a1,a2,⟨o1,o2,o3,o4⟩,a3,a4,a8,a9⟩:=w3
 have hg:(Am.view s).g i= .push c:=by show Am.sig (s.pc i)=_;rw[hp];rfl
 have hs:=fL o1 o2 (by decide) (by decide) (ZC b.ar b.z b.cN hi o2 o3) (o':={(act S i).aG with ag:=10,a:=(act S i).aG.a2,c:=(act S i).aG.c2}) (by
  rw[au rfl];unfold bR;rw[iM_ o2,iM_ o2,iM_ o2,iM_ o2,iM_ o2,iM_ o2,iM_ o2,iM_ o2,au o2])
 unfold Am.step;rw[hp];simp only
 have KT:Am.bq s.cur i (s.cur i+1) i=s.cur i+1:=Am.aL _ _ _
 refine .mk b hi (gO b hi a2 hg hs o1 (by show(10:Int)≠0;decide)) w1 w2 (q:=.ef c bb (Am.cW C cc)) rfl ?_ ?_ ?_ trivial (hc:=λj hj=>Am.aI hj)
 ·show ph C i _ _ (Am.bq s.cur i (s.cur i+1) i) _ _
  rw[KT];exact⟨a1,a2,⟨o1,rfl,o3,o4⟩,a3,a4,a9,a8⟩
 ·rw[a9]
  refine b.ar.set (s':=({s.wr (.buf i) (s.base i (s.cur i+1))with cur:=Am.bq s.cur i (s.cur i+1)}:Am.St).to i (.ef c bb (Am.cW C cc))) b.z (b:=.buf i) (v:=s.base i (s.cur i+1)) hi rfl rfl rfl ?_ _ _ _ _ _
  funext j;unfold Am.gen;simp only[Am.St.to,Am.St.wr,Am.bM]
  split
  ·next e=>subst e;rw[hp];rfl
  ·rfl
 ·rw[a9];exact Lg.nt rfl
theorem sj{c:Nat}{bb cc:Int}(hp:s.pc i= .ef c bb cc):cY C p sz n M (Am.step C s i d) (aU S M (i:Int) D):=by
 obtain⟨w1,w2,w3⟩:=b.dh.wk i hi
 rw[hp]at w3
 obtain⟨a1,a2,⟨o1,o2,o3,o4⟩,a3,a4,a6,a7⟩:=w3
 have P:=(b.dt.1 i hi).ph
 unfold Am.gz at P;rw[hp]at P;simp only at P
 have yI:cc=Am.js C (s.cur i):=P.2.2.2.trans (Am.nZ b.z hi)
 have r1:=b.qD (i:=i) (x:=bb) (by rw[hp];simp[Am.cr])
 have hg:(Am.view s).g i= .push c:=by show Am.sig (s.pc i)=_;rw[hp];rfl
 have hv:=(mH (x:=bb) b.ar b.z b.ok hi (mA s i) yI r1).2
 have hs:=fL o1 o2 (by decide) (by decide) (yO b.ar b.z b.ok b.cN hi (mA s i) o2 a6 (by rw[a7];exact yI) (by rw[a4];exact r1)) (o':={(act S i).aG with ag:=11}) (by
  rw[au rfl];unfold bR;rw[iM_ o2,iM_ o2,iM_ o2,iM_ o2,iM_ o2,iM_ o2,iM_ o2,iM_ o2,iM_ o2,au o2])
 rw[a7,a4,a3]at hs
 unfold Am.step;rw[hp];simp only
 exact .mk b hi (gO b hi a2 hg hs o1 (by show(11:Int)≠0;decide)) w1 w2 rfl ⟨a1,a2,⟨o1,rfl,o3,o4⟩,a4⟩ (b.lR (c:=.el i (s.cur i) (Am.ix bb cc)) rfl (by rw[hp];rfl) hv _ _ _ _ _) (Lg.nt rfl) trivial
end
theorem Ef{o:aK}(hk:o.kind=1)(hb:-4000000000000<=o.b/\o.b<=4000000000000):OW o=some (o.b+1):=by
 unfold OW;rw[au hk,bz (by omega)]
theorem Eg{o:aK}(hk:o.kind=2)(hi:o.i=0):OW o=some o.b:=by
 unfold OW;rw[iM_ hk,au hi]
theorem Eh{o:aK}(hk:o.kind=2)(hi:o.i=1)(h:o.b<o.t):OW o=some o.t:=by
 unfold OW;rw[iM_ hk,iM_ hi,iQ_]
theorem Ei{o:aK}(hk:o.kind=2)(hi:o.i=1)(h:o.t<=o.b)(hb:-4000000000000<=o.t/\o.t<=4000000000000):OW o=some (o.t+1):=by
 unfold OW;rw[iM_ hk,iM_ hi,iO_,bz (by omega)]
section
variable {o:aK}{v:Int}
theorem Ej(ha:o.ag=1)(hv:-4000000000000<=v/\v<=4000000000000):bS o v=some {o with ag:=3,b:=v-1}:=by
 unfold bS;rw[au ha,bz (by omega)]
theorem Ek(ha:o.ag=3):bS o v=some {o with ag:=11,a:=v}:=by
 unfold bS;rw[iM_ ha,au ha]
theorem tF(ha:o.ag=11):bS o v=if o.i=0 then some {o with ag:=2}else if o.nM=true then some {o with ag:=0,code:=4,value:=o.x}else some {o with ag:=0,code:=5,value:=0}:=by
 unfold bS NM;rw[iM_ ha,iM_ ha,au ha];rfl
theorem El(ha:o.ag=2):bS o v=if v>o.b then some {o with ag:=11,t:=v,i:=1}else some {o with ag:=4,t:=v,i:=1}:=by
 unfold bS;rw[iM_ ha,iM_ ha,iM_ ha,au ha]
theorem Em(ha:o.ag=4)(hv:1<=v):bS o v=some {o with ag:=12,c:=v}:=by
 unfold bS;rw[iM_ ha,iM_ ha,iM_ ha,iM_ ha,au ha,iO_]
theorem BO(ha:o.ag=12):bS o v=if o.t<o.b then some {o with ag:=0,x:=v,code:=4,value:=v}else some {o with ag:=13,x:=v}:=by
 unfold bS NM;rw[iM_ ha,iM_ ha,iM_ ha,iM_ ha,iM_ ha,au ha];rfl
theorem BP(ha:o.ag=13):bS o v=some {o with ag:=11,nM:=v==1}:=by
 unfold bS;rw[iM_ ha,iM_ ha,iM_ ha,iM_ ha,iM_ ha,iM_ ha,au ha]
theorem En(ha:o.ag=2):Oa o v=some {o with ag:=1,t:=v}:=by unfold Oa;rw[au ha]
theorem Eo(ha:o.ag=1):Oa o v=if o.t>=v then some {o with ag:=0,b:=v,code:=5,value:=0}else some {o with ag:=3,b:=v}:=by
 unfold Oa NM;rw[iM_ ha,au ha];rfl
theorem Ep(ha:o.ag=3):Oa o v=some {o with ag:=4,a:=v}:=by
 unfold Oa;rw[iM_ ha,iM_ ha,au ha]
theorem Er(ha:o.ag=4)(hv:1<=v):Oa o v=some {o with ag:=12,c:=v}:=by
 unfold Oa;rw[iM_ ha,iM_ ha,iM_ ha,au ha,iO_]
theorem BQ(ha:o.ag=12):Oa o v=some {o with ag:=13,x:=v}:=by
 unfold Oa;rw[iM_ ha,iM_ ha,iM_ ha,iM_ ha,au ha]
theorem BR(ha:o.ag=13):Oa o v=if v=1 then some {o with ag:=0,code:=4,value:=o.x}else some {o with ag:=0,code:=6,value:=0}:=by
 unfold Oa NM;rw[iM_ ha,iM_ ha,iM_ ha,iM_ ha,iM_ ha,au ha];rfl
end
section
variable {K:Nat}{C:Am.dH}{p:ay}{s:Am.St}{S:af}{M M':ae}{sz n i:Nat}{D:aA}{d:Int}{o':aK}
theorem j0.yS(b:j0 C p s S M sz n)(hi:i<C.N):kW (⟨S.dM,S.bT⟩:bU) (i:Int)=some (⟨2+10*(C.F:Int),C.N,i,2,8,1,0,0,0,List.replicate 64 ⟨0,0⟩,⟨0,0,0,0,0,0,0,0,0,0,0,0,0,false,0,0⟩⟩:aX):=by
 have h1:=b.ok.n1;have h2:=b.ok.n64
 unfold kW fA fc Wu Pk
 rw[b.dh.lb,b.dh.lw]
 simp only
 rw[iO_,iO_,ai,bz (x:=2+(C.N:Int)) (by omega),iQ_,iQ_,afC (by omega),ai,au rfl]
def Es(C:Am.dH)(i:Nat):aX:=⟨2+10*(C.F:Int),C.N,i,2,8,1,0,0,0,List.replicate 64 ⟨0,0⟩,⟨0,0,0,0,0,0,0,0,0,0,0,0,0,false,0,0⟩⟩
variable (b:j0 C p s S M sz n)(hi:i<C.N)
include b hi
theorem vz{c:Nat}(hc:(act S i).ct=c)(hg:(Am.view s).g i= .push c)(h1:bX M (act S i).aG=some (o',M'))(h2:o'.kind=1)(h3:o'.ag=0)(h4:o'.code=2){f:Nat}(hf:(act S i).an=f) :
 aU S M (i:Int) D=some (mL (Am.ev 2 c f (s.fr c).gH),Ok S i {act S i with aG:=o',Nf:=Es C i,aJ:=4},M'):=by
 have Jw:=WR b hi hg
 have hin:aZ (act S i).ct S.ak.length:=by rw[hc];exact b.task Jw
 have hw:=b.wl hi
 have sg:=(b.dh.wk i hi).self
 have ht:=(b.dh.tk c Jw).gH
 have hwk:=b.yS hi
 unfold aU bE OV MR
 rw[Zi,au hin,OU,au hin,jG h1 (tv (by rw[h2];decide) h3),bZ,h4,aj (by decide),aj (by decide),au rfl,au (by rw[da];exact b.lU hi)]
 rw[show ag (Ok S i {act S i with aG:=o' }).aa i={act S i with aG:=o' }from eN hw]
 have HR:kW (⟨S.dM,S.bT⟩:bU) (act S i).bp=some (Es C i):=by rw[show(act S i).bp=i from sg];exact hwk
 show bH (kW (⟨S.dM,S.bT⟩:bU) (act S i).bp) _=_
 rw[HR,ai]
 show some ((⟨0,0,2,(act S i).ct,(act S i).an,(ag S.ak (act S i).ct.toNat).gH⟩:ah),({S with aa:=((S.aa.set i _).set i _).set i _}:af),M')=_
 rw[agu,agu,hf,hc,Zi,ht];rfl
theorem tG{c:Nat}{bb:Int}(hp:s.pc i= .gS c bb):cY C p sz n M (Am.step C s i d) (aU S M (i:Int) D):=by
 obtain⟨w1,w2,w3⟩:=b.dh.wk i hi
 rw[hp]at w3
 obtain⟨a1,a2,⟨o1,o2,o3,o4⟩,a4⟩:=w3
 have r1:=b.qD (i:=i) (x:=bb) (by rw[hp];simp[Am.cr])
 have hg:(Am.view s).g i= .push c:=by show Am.sig (s.pc i)=_;rw[hp];rfl
 obtain⟨f,hh⟩:=Am.jE b.fi hi (by rw[hp];rfl)
 have hac:=lF b.ar b.z b.cN hi o2 o3 (Ef o1 (by rw[a4];omega))
 rw[a4]at hac
 have hs:=fL o1 o2 (by decide) (by decide) hac (o':={(act S i).aG with ag:=0,code:=2,value:=0}) (by
  rw[au rfl];unfold bR NM
  rw[iM_ o2,iM_ o2,iM_ o2,iM_ o2,iM_ o2,iM_ o2,iM_ o2,iM_ o2,iM_ o2,iM_ o2,au o2];rfl)
 unfold Am.step;rw[hp];simp only[hh,afk]
 exact .mk b hi (vz b hi a2 hg hs o1 rfl rfl (f:=f) (by rw[show(act S i).an=fi (s.hold i)from w2,hh];rfl)) w1 w2 rfl ⟨rfl,rfl,rfl,rfl,rfl,rfl,rfl⟩ (b.lR (c:=.bot i) rfl (by rw[hp];rfl) hi _ _ _ _ _) (Lg.nt rfl) (by show(2:Nat)≠0;decide)
theorem jH(h1:bX M (act S i).aG=some (o',M'))(h2:o'.kind=2)(h3:o'.ag≠0):be S M (i:Int) D=some (mL none,Ok S i {act S i with aG:=o' },M'):=by
 unfold be OV MR
 rw[jG h1 (rW (by rw[h2];decide) h3),bZ,au rfl];rfl
theorem uJ(h1:bX M (act S i).aG=some (o',M'))(h2:o'.kind=2)(h3:o'.ag=0)(h4:o'.code=4) :
 be S M (i:Int) D=some (mL none,Ok S i {act S i with aG:=o',an:=o'.value,from_:=-1,aJ:=0},M'):=by
 have hw:=b.wl hi
 unfold be OV MR
 rw[jG h1 (tv (by rw[h2];decide) h3),bZ,h4,aj (by decide),au rfl,au (by rw[da];exact b.lU hi),Zi]
 rw[show ag (Ok S i {act S i with aG:=o' }).aa i={act S i with aG:=o' }from eN hw]
 show some (_,({S with aa:=(((S.aa.set i _).set i _).set i _).set i _}:af),M')=_
 rw[agu,agu,agu];rfl
theorem pop_empty(h1:bX M (act S i).aG=some (o',M'))(h2:o'.kind=2)(h3:o'.ag=0)(h4:o'.code=5) :
 be S M (i:Int) D=some (mL none,Ok S i {act S i with aG:=o',tries:=0,aJ:=9},M'):=by
 have hw:=b.wl hi
 unfold be OV MR
 rw[jG h1 (tv (by rw[h2];decide) h3),bZ,h4,aj (by decide),aj (by decide),au rfl,au (by rw[da];exact b.lU hi),Zi]
 rw[show ag (Ok S i {act S i with aG:=o' }).aa i={act S i with aG:=o' }from eN hw]
 show some (_,({S with aa:=((S.aa.set i _).set i _).set i _}:af),M')=_
 rw[agu,agu];rfl
theorem yT(hp:s.pc i= .oV):cY C p sz n M (Am.step C s i d) (be S M (i:Int) D):=by
 obtain⟨w1,w2,w3⟩:=b.dh.wk i hi
 rw[hp]at w3
 obtain⟨a1,⟨o1,o2,o3,o4⟩,a3,a4⟩:=w3
 have r:=b.rT (a:=.bot i) rfl
 have hs:=fL o1 o2 (by decide) (by decide) (oA b.ar b.z b.cN hi o2 o3) (by rw[aj (by decide),au rfl];exact Ej o2 (by omega))
 unfold Am.step;rw[hp];simp only
 exact .mk b hi (jH b hi hs o1 (by show(3:Int)≠0;decide)) w1 w2 rfl ⟨a1,⟨o1,rfl,o3,o4⟩,a3,a4,rfl⟩ (b.kR rfl (by rw[hp];rfl) _ _ _ _ _) (Lg.nt rfl) trivial
theorem vA{bb:Int}(hp:s.pc i= .RU bb):cY C p sz n M (Am.step C s i d) (be S M (i:Int) D):=by
 obtain⟨w1,w2,w3⟩:=b.dh.wk i hi
 rw[hp]at w3
 obtain⟨a1,⟨o1,o2,o3,o4⟩,a3,a4,a5⟩:=w3
 have hs:=fL o1 o2 (by decide) (by decide) (qH b.ar b.z b.cN hi o2 o3) (by rw[aj (by decide),au rfl];exact Ek o2)
 unfold Am.step;rw[hp];simp only
 exact .mk b hi (jH b hi hs o1 (by show(11:Int)≠0;decide)) w1 w2 rfl ⟨a1,⟨o1,rfl,o3,o4⟩,a3,a4,a5,(b.dt.1 i hi).nW⟩ (b.kR rfl (by rw[hp];rfl) _ _ _ _ _) (Lg.nt rfl) trivial
theorem sk{bb:Int}(hp:s.pc i= .gM bb):cY C p sz n M (Am.step C s i d) (be S M (i:Int) D):=by
 obtain⟨w1,w2,w3⟩:=b.dh.wk i hi
 rw[hp]at w3
 obtain⟨a1,⟨o1,o2,o3,o4⟩,a3,a4,a5,a6⟩:=w3
 have hac:=lF b.ar b.z b.cN hi o2 o3 (Eg o1 a3)
 rw[a5]at hac
 have hs:=fL o1 o2 (by decide) (by decide) hac (by rw[aj (by decide),au rfl,tF o2,au a3])
 unfold Am.step;rw[hp];simp only
 exact .mk b hi (jH b hi hs o1 (by show(2:Int)≠0;decide)) w1 w2 rfl ⟨a1,⟨o1,rfl,o3,o4⟩,a5,a6,a4⟩ (b.lR (c:=.bot i) rfl (by rw[hp];rfl) hi _ _ _ _ _) (Lg.nt rfl) trivial
theorem yU{bb:Int}(hp:s.pc i= .nU bb):cY C p sz n M (Am.step C s i d) (be S M (i:Int) D):=by
 obtain⟨w1,w2,w3⟩:=b.dh.wk i hi
 rw[hp]at w3
 obtain⟨a1,⟨o1,o2,o3,o4⟩,a5,a6,a4⟩:=w3
 have hac:=oB b.ar b.z b.cN hi o2 o3
 have hs:=λo' h=>fL o1 o2 (by decide) (by decide) hac (o':=o') (by rw[aj (by decide),au rfl];exact h)
 have e:=El o2 (v:=s.mem (.top i))
 unfold Am.step;rw[hp];simp only
 by_cases h1:s.mem (.top i)<bb
 ·rw[au h1];rw[aj (by rw[a5];omega)]at e
  exact .mk b hi (jH b hi (hs _ e) o1 (by show(4:Int)≠0;decide)) w1 w2 rfl ⟨a1,⟨o1,rfl,o3,o4⟩,rfl,a5,rfl,a6⟩ (b.kR rfl (by rw[hp];rfl) _ _ _ _ _) (Lg.nt rfl) trivial
 ·rw[aj h1]
  by_cases h2:s.mem (.top i)=bb
  ·rw[au h2];rw[aj (by rw[a5];omega)]at e
   exact .mk b hi (jH b hi (hs _ e) o1 (by show(4:Int)≠0;decide)) w1 w2 rfl ⟨a1,⟨o1,rfl,o3,o4⟩,rfl,a5,rfl,a6⟩ (b.kR rfl (by rw[hp];rfl) _ _ _ _ _) (Lg.nt rfl) trivial
  ·rw[aj h2];rw[au (by rw[a5];omega)]at e
   exact .mk b hi (jH b hi (hs _ e) o1 (by show(11:Int)≠0;decide)) w1 w2 rfl ⟨a1,⟨o1,rfl,o3,o4⟩,rfl,rfl,by show(act S i).aG.b<_;rw[show(act S i).aG.b=bb from a5];omega,a4⟩ (b.kR rfl (by rw[hp];rfl) _ _ _ _ _) (Lg.nt rfl) trivial
theorem nv{tr cj:Nat}{bs:Nat->Nat->Int}{a:aW}(h1:a.aJ=9)(h2:a.tries=0)(h3:tr=0):ph C i (if C.N=1 then .flag else .gG) tr cj bs a:=by
 by_cases e:C.N=1
 ·rw[au e];exact .inl ⟨h1,e⟩
 ·rw[aj e];exact⟨h1,by rw[h2,h3];rfl,by omega⟩
theorem ny{q:Am.Pc}(h:Am.dJ q=false):Am.dJ (if C.N=1 then .flag else .gG)=Am.dJ q:=by rw[h];split<;>rfl
theorem sn{t:Int}(hp:s.pc i= .gl t):cY C p sz n M (Am.step C s i d) (be S M (i:Int) D):=by
 obtain⟨w1,w2,w3⟩:=b.dh.wk i hi
 rw[hp]at w3
 obtain⟨a1,⟨o1,o2,o3,o4⟩,a3,a5,a6,a4⟩:=w3
 have hac:=lF b.ar b.z b.cN hi o2 o3 (Eh o1 a3 (by rw[a5];exact a6))
 rw[a5]at hac
 have hs:=fL o1 o2 (by decide) (by decide) hac (by rw[aj (by decide),au rfl,tF o2,iM_ a3,iM_ a4])
 unfold Am.step;rw[hp];simp only
 exact .mk b hi (pop_empty b hi hs o1 rfl rfl) w1 w2 rfl (nv b hi rfl rfl (Am.aL _ _ _)) (b.lR (c:=.bot i) rfl (by rw[hp];exact ny b hi rfl) hi _ _ _ _ _) (Lg.nt rfl) trivial (vx:=λj hj=>Am.aI hj)
theorem vC{bb t:Int}(hp:s.pc i= .jS bb t):cY C p sz n M (Am.step C s i d) (be S M (i:Int) D):=by
 obtain⟨w1,w2,w3⟩:=b.dh.wk i hi
 rw[hp]at w3
 obtain⟨a1,⟨o1,o2,o3,o4⟩,a3,a4,a5,a6⟩:=w3
 obtain⟨c0,c1,c2,c3⟩:=Aj b hi
 have hs:=fL o1 o2 (by decide) (by decide) (Yf b.ar b.z b.cN hi (mA s i) o2 a6) (by rw[aj (by decide),au rfl];exact Em o2 c1)
 unfold Am.step;rw[hp];simp only
 exact .mk b hi (jH b hi hs o1 (by show(12:Int)≠0;decide)) w1 w2 rfl ⟨a1,⟨o1,rfl,o3,o4⟩,a3,a4,a5,a6,rfl⟩ (b.kR rfl (by rw[hp];rfl) _ _ _ _ _) (Lg.nt rfl) trivial
theorem tH{bb t cc:Int}(hp:s.pc i= .ij bb t cc):cY C p sz n M (Am.step C s i d) (be S M (i:Int) D):=by
 obtain⟨w1,w2,w3⟩:=b.dh.wk i hi
 rw[hp]at w3
 obtain⟨a1,⟨o1,o2,o3,o4⟩,a3,a4,a5,a6,a7⟩:=w3
 have P:=(b.dt.1 i hi).ph
 unfold Am.gz at P;rw[hp]at P;simp only at P
 have yI:cc=Am.js C (s.cur i):=P.2.trans (Am.nZ b.z hi)
 have r1:=b.qD (i:=i) (x:=bb) (by rw[hp];simp[Am.cr])
 have hac:=rX (x:=bb) b.ar b.z b.ok b.cN hi (mA s i) o2 a6 (by rw[a7];exact yI) (by rw[au o1];exact a4.symm) r1
 rw[a7]at hac
 have hs:=λo' h=>fL o1 o2 (by decide) (by decide) hac (o':=o') (by rw[aj (by decide),au rfl];exact h)
 have e:=BO o2 (v:=s.mem (.el i (s.cur i) (Am.ix bb cc)))
 unfold Am.step;rw[hp];simp only
 by_cases h1:t<bb
 ·rw[au h1];rw[au (by rw[a4,a5];exact h1)]at e
  obtain⟨x,hx,he⟩:=(P.1.2.2.2.1 h1).2.2
  rw[<-P.2]at he
  have hn:fi (some (s.mem (.el i (s.cur i) (Am.ix bb cc))).toNat)=s.mem (.el i (s.cur i) (Am.ix bb cc)):=by rw[he];rfl
  exact .mk b hi (uJ b hi (hs _ e) o1 rfl rfl) w1 (by show s.mem _=fi (Am.bq s.hold i _ i);rw[Am.aL];exact hn.symm) rfl ⟨rfl,rfl⟩ (b.kR rfl (by rw[hp];rfl) _ _ _ _ _) (Lg.nt rfl) trivial (hh:=λj hj=>Am.aI hj)
 ·rw[aj h1];rw[aj (by rw[a4,a5];exact h1)]at e
  exact .mk b hi (jH b hi (hs _ e) o1 (by show(13:Int)≠0;decide)) w1 w2 rfl ⟨a1,⟨o1,rfl,o3,o4⟩,a3,a4,a5,rfl⟩ (b.kR rfl (by rw[hp];rfl) _ _ _ _ _) (Lg.nt rfl) trivial
theorem vD{bb t x:Int}(hp:s.pc i= .jA bb t x):cY C p sz n M (Am.step C s i d) (be S M (i:Int) D):=by
 obtain⟨w1,w2,w3⟩:=b.dh.wk i hi
 rw[hp]at w3
 obtain⟨a1,⟨o1,o2,o3,o4⟩,a3,a4,a5,a6⟩:=w3
 have P:=(b.dt.1 i hi).ph
 unfold Am.gz at P;rw[hp]at P;simp only at P
 have r1:=b.qD (i:=i) (x:=t) (by rw[hp];simp[Am.cr])
 have hac:=uI b.ar b.z b.cN hi o2 o3 (by rw[a5];exact r1)
 rw[a5]at hac
 have hs:=fL o1 o2 (by decide) (by decide) hac (by rw[aj (by decide),au rfl];exact BP o2)
 have htb:t<=(act S i).aG.b:=by rw[show(act S i).aG.b=bb from a4];omega
 unfold Am.step;rw[hp];simp only
 by_cases h1:s.mem (.top i)=t
 ·rw[au h1];rw[au h1,au h1]at hs
  exact .mk b hi (jH b hi hs o1 (by show(11:Int)≠0;decide)) w1 w2 rfl ⟨a1,⟨o1,rfl,o3,o4⟩,a3,a5,htb,a6,rfl⟩ (b.lR (c:=.top i) rfl (by rw[hp];rfl) hi _ _ _ _ _) (by rw[show(s.mem (.top i)==t)=true by rw[h1];simp];exact Lg.nt rfl) trivial
 ·rw[aj h1];rw[aj h1,aj h1]at hs
  exact .mk b hi (jH b hi hs o1 (by show(11:Int)≠0;decide)) w1 w2 rfl ⟨a1,⟨o1,rfl,o3,o4⟩,a3,a5,htb,a6,rfl⟩ (b.kR rfl (by rw[hp];rfl) _ _ _ _ _) (by rw[show(s.mem (.top i)==t)=false by simpa using h1];exact Lg.nt rfl) trivial
theorem vE{t x:Int}{nM:Bool}(hp:s.pc i= .iL t x nM):cY C p sz n M (Am.step C s i d) (be S M (i:Int) D):=by
 obtain⟨w1,w2,w3⟩:=b.dh.wk i hi
 rw[hp]at w3
 obtain⟨a1,⟨o1,o2,o3,o4⟩,a3,a5,a8,a6,a7⟩:=w3
 have P:=(b.dt.1 i hi).ph
 unfold Am.gz at P;rw[hp]at P;simp only at P
 have r1:=b.qD (i:=i) (x:=t) (by rw[hp];simp[Am.cr])
 have hac:=lF b.ar b.z b.cN hi o2 o3 (Ei o1 a3 (by rw[a5];exact a8) (by rw[a5];omega))
 rw[a5]at hac
 have e:=tF o2 (v:=0)
 rw[iM_ a3]at e
 have hs:=λo' h=>fL o1 o2 (by decide) (by decide) hac (o':=o') (by rw[aj (by decide),au rfl];exact h)
 unfold Am.step;rw[hp];simp only
 cases nM with
 | true =>
  rw[au a7]at e
  have hx:=(P.2.2.2 rfl).2
  have hn:fi (some x.toNat)=x:=by show((x.toNat:Nat):Int)=x;omega
  exact .mk b hi (uJ b hi (hs _ e) o1 rfl rfl) w1 (by show(act S i).aG.x=fi (Am.bq s.hold i _ i);rw[Am.aL,show(act S i).aG.x=x from a6];exact hn.symm) rfl ⟨rfl,rfl⟩ (b.lR (c:=.bot i) rfl (by rw[hp];rfl) hi _ _ _ _ _) (Lg.nt rfl) trivial (hh:=λj hj=>Am.aI hj) (vx:=λj hj=>Am.aI hj)
 | false =>
  rw[iM_ a7]at e
  exact .mk b hi (pop_empty b hi (hs _ e) o1 rfl rfl) w1 w2 rfl (nv b hi rfl rfl (Am.aL _ _ _)) (b.lR (c:=.bot i) rfl (by rw[hp];exact ny b hi rfl) hi _ _ _ _ _) (Lg.nt rfl) trivial (vx:=λj hj=>Am.aI hj)
end
theorem xC{x n:Int}(h1:1<=n)(h2:n<=1000):Ri x n=some (x%n):=by
 have e1:=af8 x (b:=n) (by omega)
 have e2:=acH x (show 0<n by omega)
 have e4:x.tmod n=if 0<=x∨n∣x then x%n else x%n-n:=by
  rw[Int.tmod_eq_emod];split
  ·omega
  ·rw[show((n.natAbs:Nat):Int)=n by omega]
 unfold Ri
 rw[iO_,iQ_,e4]
 by_cases h:0<=x∨n∣x
 ·rw[au h,iO_]
 ·rw[aj h,iQ_,bz (by omega)];congr 1;omega
def BS(C:Am.dH):aX:=⟨2+10*(C.F:Int),C.N,0,3,3,0,0,0,0,List.replicate 64 ⟨0,0⟩,⟨0,0,0,0,0,0,0,0,0,0,0,0,0,false,0,0⟩⟩
def nA(C:Am.dH)(k a:Int)(v:Nat)(x:Int):aK:=⟨k,a,Am.jU C v,C.most,x,0,0,0,0,0,0,0,0,false,0,0⟩
section
variable {K:Nat}{C:Am.dH}{p:ay}{s:Am.St}{S:af}{M M':ae}{sz n i:Nat}{D:aA}{d:Int}{o':aK}
variable (b:j0 C p s S M sz n)(hi:i<C.N)
include b
theorem mB(k a:Int)(v:Nat)(x:Int):PU k a (rV C v) x=some (nA C k a v x):=by
 have h1:=b.ok.c1;have h2:=b.ok.cm;have h3:=b.ok.m4
 unfold PU rV
 simp only
 rw[iO_,iO_];rfl
theorem yV:mG (⟨S.dM,S.bT⟩:bU)=some (BS C):=by
 have h1:=b.ok.n1;have h2:=b.ok.n64
 unfold mG fc Wu Pk
 rw[b.dh.lb,b.dh.lw]
 simp only
 rw[iO_,iO_,ai,bz (x:=2+(C.N:Int)) (by omega),iO_];rfl
include hi
theorem mI(h1:bX M (act S i).aG=some (o',M'))(h2:o'.kind=3)(h3:o'.ag≠0):aY S M (i:Int) D=some (mL none,Ok S i {act S i with aG:=o' },M'):=by
 unfold aY OV MR
 rw[jG h1 (rW (by rw[h2];decide) h3),bZ,au rfl];rfl
theorem vF(h1:bX M (act S i).aG=some (o',M'))(h2:o'.kind=3)(h3:o'.ag=0)(h4:o'.code=4){v:Nat}(hv:(act S i).eB=v) :
 aY S M (i:Int) D=some (mL (Am.ev 8 o'.value v 0),Ok S i {act S i with aG:=o',an:=o'.value,from_:=(v:Int),aJ:=0},M'):=by
 have hw:=b.wl hi
 unfold aY OV MR
 rw[jG h1 (tv (by rw[h2];decide) h3),bZ,h4,aj (by decide),au rfl,au (by rw[da];exact b.lU hi),Zi]
 rw[show ag (Ok S i {act S i with aG:=o' }).aa i={act S i with aG:=o' }from eN hw]
 show some ((⟨0,0,8,o'.value,(act S i).eB,0⟩:ah),({S with aa:=(((S.aa.set i _).set i _).set i {act S i with aG:=o',an:=o'.value,from_:=(act S i).eB}).set i {act S i with aG:=o',an:=o'.value,from_:=(act S i).eB,aJ:=0}}:af),M')=_
 rw[agu,agu,agu,hv];rfl
theorem WS(h1:bX M (act S i).aG=some (o',M'))(h2:o'.kind=3)(h3:o'.ag=0)(h4:o'.code=5∨o'.code=6){t:Nat}(ht:(act S i).tries=t/\t<3) :
 aY S M (i:Int) D=some (mL none,Ok S i {act S i with aG:=o',tries:=(t:Int)+1,Nf:=BS C,aJ:=11},M'):=by
 have hw:=b.wl hi
 have hpk:=yV b
 unfold aY OV MR
 have hc:(if o'.code=5 then some (o'.code==5)else some (o'.code==6))=some true:=by
  rcases h4 with h | h
  ·rw[au h,h];rfl
  ·rw[iM_ h,h];rfl
 rw[jG h1 (tv (by rw[h2];decide) h3),bZ,aj (by rcases h4 with h | h<;>rw[h]<;>decide),aj (by rcases h4 with h | h<;>rw[h]<;>decide),hc,ai,au rfl,au (by rw[da];exact b.lU hi),Zi]
 rw[show ag (Ok S i {act S i with aG:=o' }).aa i={act S i with aG:=o' }from eN hw]
 show bH (mG (⟨S.dM,S.bT⟩:bU)) _=_
 rw[hpk,ai]
 show some (_,({S with aa:=(((S.aa.set i _).set i _).set i _).set i {act S i with aG:=o',tries:=wi ((act S i).tries+1),Nf:=BS C,aJ:=11}}:af),M')=_
 rw[agu,agu,agu,ht.1,bz (by omega)];rfl
theorem vG{v:Nat}{t:Int}(hp:s.pc i= .jT v t):cY C p sz n M (Am.step C s i d) (aY S M (i:Int) D):=by
 obtain⟨w1,w2,w3⟩:=b.dh.wk i hi
 rw[hp]at w3
 obtain⟨a1,a2,a3,⟨o1,o2,o3,o4⟩,a4⟩:=w3
 have T:=b.dt.2 i hi
 unfold Am.Th at T;rw[hp]at T;simp only at T
 have hac:=oA b.ar b.z b.cN T.1 o2 o3
 have hs:=λo' h=>fL o1 o2 (by decide) (by decide) hac (o':=o') (by rw[aj (by decide),aj (by decide),au rfl];exact h)
 have e:=Eo o2 (v:=s.mem (.bot v))
 unfold Am.step;rw[hp];simp only
 by_cases h1:s.mem (.bot v)<=t
 ·rw[au h1];rw[au (by rw[a4];exact h1)]at e
  exact .mk b hi (WS b hi (hs _ e) o1 rfl (.inl rfl) a2) w1 w2 rfl ⟨rfl,by show(_:Int)=((Am.bq s.tries i (s.tries i+1) i:Nat):Int);rw[Am.aL];rfl,rfl,rfl,rfl,rfl⟩ (b.kR rfl (by rw[hp];rfl) _ _ _ _ _) (Lg.nt rfl) trivial (vx:=λj hj=>Am.aI hj)
 ·rw[aj h1];rw[aj (by rw[a4];exact h1)]at e
  exact .mk b hi (mI b hi (hs _ e) o1 (by show(3:Int)≠0;decide)) w1 w2 rfl ⟨a1,a2,a3,⟨o1,rfl,o3,o4⟩,a4⟩ (b.kR rfl (by rw[hp];rfl) _ _ _ _ _) (Lg.nt rfl) trivial
theorem so{v:Nat}{t:Int}(hp:s.pc i= .gN v t):cY C p sz n M (Am.step C s i d) (aY S M (i:Int) D):=by
 obtain⟨w1,w2,w3⟩:=b.dh.wk i hi
 rw[hp]at w3
 obtain⟨a1,a2,a3,⟨o1,o2,o3,o4⟩,a4⟩:=w3
 have T:=b.dt.2 i hi
 unfold Am.Th at T;rw[hp]at T;simp only at T
 have hs:=fL o1 o2 (by decide) (by decide) (qH b.ar b.z b.cN T.1 o2 o3) (by rw[aj (by decide),aj (by decide),au rfl];exact Ep o2)
 unfold Am.step;rw[hp];simp only
 exact .mk b hi (mI b hi hs o1 (by show(4:Int)≠0;decide)) w1 w2 rfl ⟨a1,a2,a3,⟨o1,rfl,o3,o4⟩,a4,(b.dt.1 v T.1).nW⟩ (b.kR rfl (by rw[hp];rfl) _ _ _ _ _) (Lg.nt rfl) trivial
theorem sq{v g:Nat}{t:Int}(hp:s.pc i= .gp v t g):cY C p sz n M (Am.step C s i d) (aY S M (i:Int) D):=by
 obtain⟨w1,w2,w3⟩:=b.dh.wk i hi
 rw[hp]at w3
 obtain⟨a1,a2,a3,⟨o1,o2,o3,o4⟩,a4,a5⟩:=w3
 have T:=b.dt.2 i hi
 unfold Am.Th at T;rw[hp]at T;simp only at T
 have hg:=agq T.2.2.2.1 (mA s v)
 have h1:=(b.dt.1 v T.1).lB g T.2.2.2.1
 have hs:=fL o1 o2 (by decide) (by decide) (Yf b.ar b.z b.cN T.1 hg o2 a5) (by rw[aj (by decide),aj (by decide),au rfl];exact Er o2 h1)
 unfold Am.step;rw[hp];simp only
 exact .mk b hi (mI b hi hs o1 (by show(12:Int)≠0;decide)) w1 w2 rfl ⟨a1,a2,a3,⟨o1,rfl,o3,o4⟩,a4,a5,rfl⟩ (b.kR rfl (by rw[hp];rfl) _ _ _ _ _) (Lg.nt rfl) trivial
theorem Yh{v g:Nat}{t cc:Int}(hp:s.pc i= .eZ v t g cc):cY C p sz n M (Am.step C s i d) (aY S M (i:Int) D):=by
 obtain⟨w1,w2,w3⟩:=b.dh.wk i hi
 rw[hp]at w3
 obtain⟨a1,a2,a3,⟨o1,o2,o3,o4⟩,a4,a5,a6⟩:=w3
 have T:=b.dt.2 i hi
 unfold Am.Th at T;rw[hp]at T;simp only at T
 have hg:=agq T.2.2.2.1 (mA s v)
 have yI:cc=Am.js C g:=T.2.2.2.2.1.trans (b.z.cap v T.1 g T.2.2.2.1)
 have r1:=b.qD (i:=i) (x:=t) (by rw[hp];simp[Am.cr])
 have hac:=rX (x:=t) b.ar b.z b.ok b.cN T.1 hg o2 a5 (by rw[a6];exact yI) (by rw[iM_ o1];exact a4.symm) r1
 rw[a6]at hac
 have hs:=fL o1 o2 (by decide) (by decide) hac (by rw[aj (by decide),aj (by decide),au rfl];exact BQ o2)
 unfold Am.step;rw[hp];simp only
 exact .mk b hi (mI b hi hs o1 (by show(13:Int)≠0;decide)) w1 w2 rfl ⟨a1,a2,a3,⟨o1,rfl,o3,o4⟩,a4,rfl⟩ (b.kR rfl (by rw[hp];rfl) _ _ _ _ _) (Lg.nt rfl) trivial
theorem YW{v:Nat}{t x:Int}(hp:s.pc i= .fJ v t x):cY C p sz n M (Am.step C s i d) (aY S M (i:Int) D):=by
 obtain⟨w1,w2,w3⟩:=b.dh.wk i hi
 rw[hp]at w3
 obtain⟨a1,a2,a3,⟨o1,o2,o3,o4⟩,a4,a5⟩:=w3
 have T:=b.dt.2 i hi
 unfold Am.Th at T;rw[hp]at T;simp only at T
 have r1:=b.qD (i:=i) (x:=t) (by rw[hp];simp[Am.cr])
 have hac:=uI b.ar b.z b.cN T.1 o2 o3 (by rw[a4];exact r1)
 rw[a4]at hac
 have hs:=λo' h=>fL o1 o2 (by decide) (by decide) hac (o':=o') (by rw[aj (by decide),aj (by decide),au rfl];exact h)
 have e:=BR o2 (v:=if s.mem (.top v)=t then 1 else 0)
 unfold Am.step;rw[hp];simp only
 by_cases h1:s.mem (.top v)=t
 ·rw[au h1]at e hs;rw[au rfl]at e;rw[au h1]at hs;rw[au h1]
  obtain⟨y,l,hq,hx⟩:=T.2.2.2 h1.symm
  have hn:fi (some x.toNat)=x:=by rw[hx];rfl
  have ha:=vF b hi (D:=D) (hs _ e) o1 rfl rfl a3
  simp only[a5]at ha
  exact .mk b hi ha w1 (by show x=fi (Am.bq s.hold i _ i);rw[Am.aL];exact hn.symm) rfl ⟨rfl,rfl⟩ (b.lR (c:=.top v) rfl (by rw[hp];rfl) T.1 _ _ _ _ _) (by rw[show(s.mem (.top v)==t)=true by rw[h1];simp];exact Lg.nt rfl) (by show(8:Nat)≠0;decide) (hh:=λj hj=>Am.aI hj)
 ·rw[aj h1]at e hs;rw[aj (by decide)]at e;rw[aj h1]at hs;rw[aj h1]
  exact .mk b hi (WS b hi (hs _ e) o1 rfl (.inr rfl) a2) w1 w2 rfl ⟨rfl,by show(_:Int)=((Am.bq s.tries i (s.tries i+1) i:Nat):Int);rw[Am.aL];rfl,rfl,rfl,rfl,rfl⟩ (b.kR rfl (by rw[hp];rfl) _ _ _ _ _) (by rw[show(s.mem (.top v)==t)=false by simpa using h1];exact Lg.nt rfl) trivial (vx:=λj hj=>Am.aI hj)
end
theorem mJ{C:Am.dH}{i j k:Nat}(hi:i<C.N)(h:ring C i j k):(k+1=C.N/\Am.rO C j=i)∨(k+1<C.N/\Am.rO C j≠i/\ring C i (Am.rO C j) (k+1)):=by
 obtain⟨h1,h2,rfl⟩:=h
 have e:Am.rO C ((i+k)%C.N)=(i+(k+1))%C.N:=by unfold Am.rO;rw[Nat.mod_add_mod,Nat.add_assoc]
 rw[e]
 by_cases hk:k+1=C.N
 ·left;exact⟨hk,by rw[hk,Nat.add_mod_right,ago hi]⟩
 ·right
  refine⟨by omega,λh => ?_,by omega,by omega,rfl⟩
  rcases agl (i+(k+1)) C.N with h' | h'
  ·rw[ago h']at h;omega
  ·rw[Nat.mod_eq_sub_mod h',ago (by omega)]at h;omega
theorem mZ{C:Am.dH}{i:Nat}(hi:i<C.N):(C.N=1/\Am.rO C i=i)∨(1<C.N/\Am.rO C i≠i/\ring C i (Am.rO C i) 1):=by
 unfold Am.rO ring
 by_cases h:C.N=1
 ·left;refine⟨h,?_⟩;rw[h,Nat.mod_one];omega
 ·right
  refine⟨by omega,λh' => ?_,by omega,by omega,rfl⟩
  rcases agl (i+1) C.N with e | e
  ·rw[ago e]at h';omega
  ·rw[Nat.mod_eq_sub_mod e,ago (by omega)]at h';omega
theorem nB{C:Am.dH}{i j k:Nat}(h:ring C i j k):j<C.N:=by obtain⟨h1,h2,rfl⟩:=h;exact Nat.mod_lt _ (by omega)
section
variable {o o':aX}{M M':ae}{v:Int}
theorem kZ{k a:Int}(hk:o.cu=k)(ha:o.aC=a)(Bh:k≠0)(ha0:a≠0)(KU:a≠4)(hx:aS o M=some (v,0,M'))
 (hn:(if k=1 then cz o v else if k=2 then dx o v else if k=3 then some {o with aC:=0,NF:=if v=1 then 17 else 16,cS:=0}else OA o v)=some o'):bI M o=some (o',M'):=by
 subst hk;subst ha
 unfold bI bl
 rw[aj Bh,aj ha0,bu,aj KU,hx,bf,au rfl]
 split at hn
 ·rename_i h;rw[au h,hn,ai]
 ·rename_i h;rw[aj h]
  split at hn
  ·rename_i h;rw[au h,hn,ai]
  ·rename_i h;rw[aj h]
   split at hn
   ·rename_i h;rw[au h,ai]
    by_cases e:v=1
    ·rw[au e];rw[au e]at hn;cases hn;rfl
    ·rw[aj e];rw[aj e]at hn;cases hn;rfl
   ·rename_i h;rw[aj h,hn,ai]
theorem BT(ha:o.aC=9){k:Int}(hk:wi (o.cL+1)=k):dx o v=if v=1 then some {o with aC:=7}else if k=o.bP then some {o with aC:=0,cL:=k,NF:=19,cS:=0}else some {o with cL:=k}:=by
 unfold dx bl
 rw[iM_ ha,au ha,hk];rfl
theorem uK(hk:o.cu≠0)(ha:o.aC≠0):gY o=some (0,0):=by
 unfold gY;rw[aj hk,aj ha]
theorem su(hk:o.cu≠0)(ha:o.aC=0):gY o=some (o.NF,o.cS):=by
 unfold gY;rw[aj hk,au ha]
end
section
variable {C:Am.dH}{s:Am.St}{M:ae}{sz n i:Nat}{o:aX}
theorem uL(h:AR C s M sz n)(hz:Am.SZ C s){j:Nat}(hj:j<C.N)(hb:o.bx=2+10*(C.F:Int)):fB o (j:Int)=some (Am.place C s (.flag j)):=by
 have p:=h.yK hz (a:=.flag j) hj
 have e:Am.place C s (.flag j)=2+10*(C.F:Int)+2+j:=by show(4:Int)+10*C.F+j=_;omega
 rw[e]at p
 unfold fB
 rw[hb,bz (x:=2+10*(C.F:Int)+2) (by omega),bz (by omega),e]
theorem BU(h:AR C s M sz n)(hz:Am.SZ C s)(hb:o.bx=2+10*(C.F:Int)):wi (o.bx+0)=Am.place C s .iR:=by
 refine h.cast hz (a:=.iR) trivial ?_;rw[hb];show _=(2:Int)+10*C.F;omega
theorem Et(h:AR C s M sz n)(hz:Am.SZ C s)(hb:o.bx=2+10*(C.F:Int)):wi (o.bx+1)=Am.place C s .Vu:=by
 refine h.cast hz (a:=.Vu) trivial ?_;rw[hb];show _=(3:Int)+10*C.F;omega
theorem Yi{j k:Nat}(hi:i<C.N)(hN:C.N<=64)(hw:o.bP=C.N)(hs:o.fT=i)(hk:o.cL=k)(hr:ring C i j k):eu o=some (j:Int):=by
 obtain⟨h1,h2,rfl⟩:=hr
 unfold eu
 rw[hw,hs,hk,iQ_,bz (by omega)]
 congr 1
theorem HS(h:AR C s M sz n)(hz:Am.SZ C s)(hn:n<=2000000000)(hi:i<C.N)(hb:o.bx=2+10*(C.F:Int))(hs:o.fT=i)(ha:o.aC=1):aS o M=some (0,0,nt M (M.cell.set (Am.place C s (.flag i)).toNat 1) 1 (Am.place C s (.flag i)) 1 0 true):=by
 unfold aS
 rw[au ha,hs,uL h hz hi hb,ai,jF h hz hn (a:=.flag i) hi,bJ]
theorem HU(h:AR C s M sz n)(hz:Am.SZ C s)(hn:n<=2000000000)(hb:o.bx=2+10*(C.F:Int))(ha:o.aC=2)(hv:-1000000000000<=s.mem .iR/\s.mem .iR<=1000000000000):aS o M=some (s.mem .iR+1,0,nt M (M.cell.set (Am.place C s .iR).toNat (s.mem .iR+1)) 3 (Am.place C s .iR) 1 (s.mem .iR+1) true):=by
 unfold aS
 rw[iM_ ha,au ha,BU h hz hb,pZ h hz hn (a:=.iR) trivial (bz (by omega)),bf]
theorem Eu(h:AR C s M sz n)(hz:Am.SZ C s)(hn:n<=2000000000)(hb:o.bx=2+10*(C.F:Int))(ha:o.aC=3):aS o M=some (s.mem .Vu,0,nt M M.cell 0 (Am.place C s .Vu) (s.mem .Vu) 0 true):=by
 unfold aS
 rw[iM_ ha,iM_ ha,au ha,Et h hz hb,kO h hz hn (a:=.Vu) trivial,bf]
theorem HV(h:AR C s M sz n)(hz:Am.SZ C s)(hn:n<=2000000000)(hi:i<C.N)(hb:o.bx=2+10*(C.F:Int))(hs:o.fT=i)(ha:o.aC=5):aS o M=some (s.mem (.flag i),0,nt M M.cell 0 (Am.place C s (.flag i)) (s.mem (.flag i)) 0 true):=by
 unfold aS
 rw[iM_ ha,iM_ ha,iM_ ha,au ha,hs,uL h hz hi hb,ai,kO h hz hn (a:=.flag i) hi,bf]
theorem HW(h:AR C s M sz n)(hz:Am.SZ C s)(hn:n<=2000000000)(hi:i<C.N)(hb:o.bx=2+10*(C.F:Int))(hs:o.fT=i)(ha:o.aC=6):aS o M=some (if s.mem (.flag i)=1 then 1 else 0,0,nt M (if s.mem (.flag i)=1 then M.cell.set (Am.place C s (.flag i)).toNat 0 else M.cell) 2 (Am.place C s (.flag i)) 1 0 (s.mem (.flag i)==1)):=by
 unfold aS
 rw[iM_ ha,iM_ ha,iM_ ha,iM_ ha,au ha,hs,uL h hz hi hb,ai,xp h hz hn (a:=.flag i) hi,bf]
 by_cases e:s.mem (.flag i)=1
 ·rw[au (by rw[e];rfl),au e,au e]
 ·rw[aj (by simpa using e),aj e,aj e]
theorem BV(h:AR C s M sz n)(hz:Am.SZ C s)(hn:n<=2000000000)(hb:o.bx=2+10*(C.F:Int))(ha:o.aC=7)(hv:-1000000000000<=s.mem .iR/\s.mem .iR<=1000000000000):aS o M=some (s.mem .iR-1,0,nt M (M.cell.set (Am.place C s .iR).toNat (s.mem .iR-1)) 3 (Am.place C s .iR) (-1) (s.mem .iR-1) true):=by
 unfold aS
 rw[iM_ ha,iM_ ha,iM_ ha,iM_ ha,iM_ ha,au ha,BU h hz hb,pZ h hz hn (a:=.iR) trivial (v:=s.mem .iR-1) (by rw[bz (by omega)];omega),bf]
theorem HX(h:AR C s M sz n)(hz:Am.SZ C s)(hn:n<=2000000000)(hb:o.bx=2+10*(C.F:Int))(ha:o.aC=8):aS o M=some (s.mem .iR,0,nt M M.cell 0 (Am.place C s .iR) (s.mem .iR) 0 true):=by
 unfold aS
 rw[iM_ ha,iM_ ha,iM_ ha,iM_ ha,iM_ ha,iM_ ha,au ha,BU h hz hb,kO h hz hn (a:=.iR) trivial,bf]
theorem Ew{j:Nat}(h:AR C s M sz n)(hz:Am.SZ C s)(hn:n<=2000000000)(hb:o.bx=2+10*(C.F:Int))(hj:j<C.N)(ho:eu o=some (j:Int))(ha:o.aC=9):aS o M=some (if s.mem (.flag j)=1 then 1 else 0,0,nt M (if s.mem (.flag j)=1 then M.cell.set (Am.place C s (.flag j)).toNat 0 else M.cell) 2 (Am.place C s (.flag j)) 1 0 (s.mem (.flag j)==1)):=by
 unfold aS
 rw[iM_ ha,iM_ ha,iM_ ha,iM_ ha,iM_ ha,iM_ ha,iM_ ha,au ha,ho,ai,uL h hz hj hb,ai,xp h hz hn (a:=.flag j) hj,bf]
 by_cases e:s.mem (.flag j)=1
 ·rw[au (by rw[e];rfl),au e,au e]
 ·rw[aj (by simpa using e),aj e,aj e]
theorem Ex(h:AR C s M sz n)(hz:Am.SZ C s)(hn:n<=2000000000)(hb:o.bx=2+10*(C.F:Int))(ha:o.aC=10):aS o M=some (0,0,nt M (M.cell.set (Am.place C s .Vu).toNat 1) 1 (Am.place C s .Vu) 1 0 true):=by
 unfold aS
 rw[iM_ ha,iM_ ha,iM_ ha,iM_ ha,iM_ ha,iM_ ha,iM_ ha,iM_ ha,Et h hz hb,jF h hz hn (a:=.Vu) trivial,bJ]
end
section
variable {K:Nat}{C:Am.dH}{p:ay}{s:Am.St}{S:af}{M M':ae}{sz n i:Nat}{D:aA}{d:Int}{o':aX}
variable (b:j0 C p s S M sz n)(hi:i<C.N)
include b hi
theorem WT(h1:bI M (act S i).Nf=some (o',M'))(h2:o'.cu=2)(h3:o'.aC≠0):bL S M (i:Int) D=some (mL none,Ok S i {act S i with Nf:=o' },M'):=by
 unfold bL OV MR
 rw[kF h1 (uK (by rw[h2];decide) h3),bZ,au rfl];rfl
theorem vH(h1:bI M (act S i).Nf=some (o',M'))(h2:o'.cu=2)(h3:o'.aC=0)(h4:o'.NF=18){f:Nat}(hf:(act S i).an=f):bL S M (i:Int) D=some (mL (Am.ev 3 f o'.cS 0),Ok S i {act S i with Nf:=o',aJ:=1},M'):=by
 have hw:=b.wl hi
 unfold bL OV MR
 rw[kF h1 (su (by rw[h2];decide) h3),bZ,h4,aj (by decide),au rfl,au (by rw[da];exact b.lU hi),Zi]
 rw[show ag (Ok S i {act S i with Nf:=o' }).aa i={act S i with Nf:=o' }from eN hw]
 show some ((⟨0,0,3,(act S i).an,o'.cS,0⟩:ah),({S with aa:=(S.aa.set i _).set i _}:af),M')=_
 rw[agu,hf];rfl
theorem p6(h1:bI M (act S i).Nf=some (o',M'))(h2:o'.cu=2)(h3:o'.aC=0)(h4:o'.NF=19):bL S M (i:Int) D=some (mL none,Ok S i {act S i with Nf:=o',aJ:=1},M'):=by
 have hw:=b.wl hi
 unfold bL OV MR
 rw[kF h1 (su (by rw[h2];decide) h3),bZ,h4,aj (by decide),aj (by decide),au rfl,au (by rw[da];exact b.lU hi),Zi]
 rw[show ag (Ok S i {act S i with Nf:=o' }).aa i={act S i with Nf:=o' }from eN hw]
 show some (_,({S with aa:=(S.aa.set i _).set i _}:af),M')=_
 rw[agu];rfl
theorem yW(hp:s.pc i= .pG):cY C p sz n M (Am.step C s i d) (bL S M (i:Int) D):=by
 obtain⟨w1,w2,w3⟩:=b.dh.wk i hi
 rw[hp]at w3
 obtain⟨a1,⟨l1,l2,l3,l4,l5,l6⟩⟩:=w3
 have hs:=λo' h=>kZ l4 l5 (by decide) (by decide) (by decide) (HX b.ar b.z b.cN l1 l5) (o':=o') (by rw[aj (by decide),au rfl];exact h)
 have hw:∀v,dx (act S i).Nf v=if v<=0 then some {(act S i).Nf with aC:=0,NF:=19,cS:=0}else if(act S i).Nf.bP=1 then some {(act S i).Nf with aC:=0,NF:=19,cS:=0}else some {(act S i).Nf with aC:=9}:=λv=>by
  unfold dx bl;rw[au l5];rfl
 have e:=hw (s.mem .iR)
 unfold Am.step;rw[hp];simp only
 by_cases h0:0<s.mem .iR/\1<C.N
 ·rw[au h0]
  rw[iO_,aj (by rw[l2];omega)]at e
  have hr:=(mZ hi).resolve_left (λh=>by omega)
  exact .mk b hi (WT b hi (hs _ e) l4 (by show(9:Int)≠0;decide)) w1 w2 rfl ⟨a1,1,⟨l1,l2,l3,l4,rfl,l6⟩,hr.2.2⟩ (b.kR rfl (by rw[hp];rfl) _ _ _ _ _) (Lg.nt rfl) trivial
 ·rw[aj h0]
  have e:dx (act S i).Nf (s.mem .iR)=some {(act S i).Nf with aC:=0,NF:=19,cS:=0}:=by
   rw[e];by_cases h1:s.mem .iR<=0
   ·rw[au h1]
   ·rw[aj h1,au (by rw[l2];have:=b.ok.n1;omega)]
  exact .mk b hi (p6 b hi (hs _ e) l4 rfl rfl) w1 w2 rfl rfl (b.kR rfl (by rw[hp];rfl) _ _ _ _ _) (Lg.nt rfl) trivial
theorem tI{j:Nat}(hp:s.pc i= .ji j):cY C p sz n M (Am.step C s i d) (bL S M (i:Int) D):=by
 obtain⟨w1,w2,w3⟩:=b.dh.wk i hi
 rw[hp]at w3
 obtain⟨a1,k,⟨l1,l2,l3,l4,l5,l6⟩,hr⟩:=w3
 have hj:=nB hr
 have n64:=b.ok.n64
 have hk:=hr.2.1
 have hac:=Ew b.ar b.z b.cN l1 hj (Yi hi n64 l2 l3 l6 hr) l5
 have hs:=λo' h=>kZ l4 l5 (by decide) (by decide) (by decide) hac (o':=o') (by rw[aj (by decide),au rfl];exact h)
 have hw:=λv=>BT (v:=v) l5 (k:=(k:Int)+1) (by rw[l6,bz (by omega)])
 unfold Am.step;rw[hp];simp only
 by_cases h1:s.mem (.flag j)=1
 ·have e:=hw 1
  rw[au rfl]at e
  rw[au h1,au h1]at hs;rw[au h1]
  exact .mk b hi (WT b hi (hs _ e) l4 (by show(7:Int)≠0;decide)) w1 w2 rfl ⟨a1,k,⟨l1,l2,l3,l4,rfl,l6⟩,hr⟩ (b.lR (c:=.flag j) rfl (by rw[hp];rfl) hj _ _ _ _ _) (by rw[show(s.mem (.flag j)==1)=true by rw[h1];rfl];exact Lg.nt rfl) trivial
 ·have e:=hw 0
  rw[aj (by decide)]at e
  rw[aj h1,aj h1]at hs;rw[aj h1]
  have hb:(s.mem (.flag j)==1)=false:=by simpa using h1
  rcases mJ hi hr with ⟨e1,e2⟩ | ⟨e1,e2,e3⟩
  ·rw[au (by rw[l2];omega)]at e;rw[au e2]
   exact .mk b hi (p6 b hi (hs _ e) l4 rfl rfl) w1 w2 rfl rfl (b.kR rfl (by rw[hp];rfl) _ _ _ _ _) (by rw[hb];exact Lg.nt rfl) trivial
  ·rw[aj (by rw[l2];omega)]at e;rw[aj e2]
   exact .mk b hi (WT b hi (hs _ e) l4 (by show(act S i).Nf.aC≠0;rw[show(act S i).Nf.aC=9 from l5];decide)) w1 w2 rfl ⟨a1,k+1,⟨l1,l2,l3,l4,l5,by show(k:Int)+1=((k+1:Nat):Int);omega⟩,e3⟩ (b.kR rfl (by rw[hp];rfl) _ _ _ _ _) (by rw[hb];exact Lg.nt rfl) trivial
theorem tJ{j:Nat}(hp:s.pc i= .j5 j):cY C p sz n M (Am.step C s i d) (bL S M (i:Int) D):=by
 obtain⟨w1,w2,w3⟩:=b.dh.wk i hi
 rw[hp]at w3
 obtain⟨a1,k,⟨l1,l2,l3,l4,l5,l6⟩,hr⟩:=w3
 have n64:=b.ok.n64
 obtain⟨f,hh⟩:=Am.jE b.fi hi (by rw[hp];rfl)
 have hac:=BV b.ar b.z b.cN l1 l5 (b.rT rfl)
 have e:∀v,dx (act S i).Nf v=some {(act S i).Nf with aC:=0,NF:=18,cS:=(j:Int)}:=λv=>by
  unfold dx bl;rw[iM_ l5,iM_ l5,au l5,Yi hi n64 l2 l3 l6 hr];rfl
 have hs:=kZ l4 l5 (by decide) (by decide) (by decide) hac (by rw[aj (by decide),au rfl];exact e _)
 unfold Am.step;rw[hp];simp only[hh,afk]
 exact .mk b hi (vH b hi hs l4 rfl rfl (f:=f) (by rw[show(act S i).an=fi (s.hold i)from w2,hh];rfl)) w1 w2 rfl rfl (b.lR (c:=.iR) rfl (by rw[hp];rfl) trivial _ _ _ _ _) (Lg.nt rfl) (by show(3:Nat)≠0;decide)
theorem nC(h1:bI M (act S i).Nf=some (o',M'))(h2:o'.cu=4)(h3:o'.aC≠0):N0 S M (i:Int) D=some (mL none,Ok S i {act S i with Nf:=o' },M'):=by
 unfold N0
 rw[kF h1 (uK (by rw[h2];decide) h3),bZ,au rfl];rfl
theorem WU(h1:bI M (act S i).Nf=some (o',M'))(h2:o'.cu=4)(h3:o'.aC=0)(h4:o'.NF=20):N0 S M (i:Int) D=some (mL (Am.ev 10 0 0 0),Ok S i {act S i with Nf:=o',aJ:=13},M'):=by
 have hw:=b.wl hi
 unfold N0 eM
 rw[kF h1 (su (by rw[h2];decide) h3),bZ,h4,aj (by decide),au rfl,au (by rw[da];exact b.lU hi),Zi]
 rw[show ag (Ok S i {act S i with Nf:=o' }).aa i={act S i with Nf:=o' }from eN hw,bJ]
 show some (_,({S with aa:=(S.aa.set i _).set i _}:af),M')=_
 rw[agu];rfl
theorem Ey{o:aX}(ha:o.aC=10)(v:Int):OA o v=if o.cL>=o.bP then some {o with aC:=0,NF:=20,cS:=0}else some {o with aC:=9}:=by
 unfold OA bl
 rw[au ha,ud];rfl
theorem HY{o:aX}(ha:o.aC=9):OA o 1=some {o with aC:=7}:=by
 unfold OA bl
 rw[iM_ ha,au ha,ai];rfl
theorem Ez{o:aX}{v:Int}(h:(o.aC=9/\v≠1)∨o.aC=7){k:Int}(hk:wi (o.cL+1)=k):OA o v=if k>=o.bP then some {o with aC:=0,cL:=k,NF:=20,cS:=0}else some {o with aC:=9,cL:=k}:=by
 have e:bH (if o.aC=9 then some (v==1)else some false) (λg5=>if g5=true then some (Sum.inr {o with aC:=7})else some (Sum.inl (wi (o.cL+1))))=some (.inl k):=by
  rw[<-hk]
  rcases h with ⟨h1,h2⟩ | h1
  ·rw[au h1,ai,aj (by simpa using h2)]
  ·rw[iM_ h1,ai,aj (by decide)]
 unfold OA bl
 rw[aj (by rcases h with ⟨h1,_⟩ | h1<;>rw[h1]<;>decide),e,ud];rfl
theorem yX(hp:s.pc i= .done):cY C p sz n M (Am.step C s i d) (N0 S M (i:Int) D):=by
 obtain⟨w1,w2,w3⟩:=b.dh.wk i hi
 rw[hp]at w3
 obtain⟨a1,⟨l1,l2,l3,l4,l5,l6⟩⟩:=w3
 have hac:=Ex b.ar b.z b.cN l1 l5
 have hs:=λo' h=>kZ l4 l5 (by decide) (by decide) (by decide) hac (o':=o') (by rw[aj (by decide),aj (by decide),aj (by decide)];exact h)
 have e:=Ey b hi l5 0
 unfold Am.step;rw[hp];simp only[Am.fK]
 rcases mZ hi with ⟨e1,e2⟩ | ⟨e1,e2,e3⟩
 ·rw[au (by rw[l6,l2];omega)]at e;rw[au e2]
  exact .mk b hi (WU b hi (hs _ e) l4 rfl rfl) w1 w2 rfl rfl (b.lR (c:=.Vu) rfl (by rw[hp];rfl) trivial _ _ _ _ _) (Lg.nt rfl) (by show(10:Nat)≠0;decide)
 ·rw[aj (by rw[l6,l2];omega)]at e;rw[aj e2]
  exact .mk b hi (nC b hi (hs _ e) l4 (by show(9:Int)≠0;decide)) w1 w2 rfl ⟨a1,1,⟨l1,l2,l3,l4,rfl,l6⟩,e3⟩ (b.lR (c:=.Vu) rfl (by rw[hp];rfl) trivial _ _ _ _ _) (Lg.nt rfl) trivial
theorem yY{j:Nat}(hp:s.pc i= .tell j):cY C p sz n M (Am.step C s i d) (N0 S M (i:Int) D):=by
 obtain⟨w1,w2,w3⟩:=b.dh.wk i hi
 rw[hp]at w3
 obtain⟨a1,k,⟨l1,l2,l3,l4,l5,l6⟩,hr⟩:=w3
 have hj:=nB hr
 have n64:=b.ok.n64
 have hk:=hr.2.1
 have hac:=Ew b.ar b.z b.cN l1 hj (Yi hi n64 l2 l3 l6 hr) l5
 have hs:=λo' h=>kZ l4 l5 (by decide) (by decide) (by decide) hac (o':=o') (by rw[aj (by decide),aj (by decide),aj (by decide)];exact h)
 unfold Am.step;rw[hp];simp only[Am.fK]
 by_cases h1:s.mem (.flag j)=1
 ·have e:=HY b hi l5
  rw[au h1,au h1]at hs;rw[au h1]
  exact .mk b hi (nC b hi (hs _ e) l4 (by show(7:Int)≠0;decide)) w1 w2 rfl ⟨a1,k,⟨l1,l2,l3,l4,rfl,l6⟩,hr⟩ (b.lR (c:=.flag j) rfl (by rw[hp];rfl) hj _ _ _ _ _) (by rw[show(s.mem (.flag j)==1)=true by rw[h1];rfl];exact Lg.nt rfl) trivial
 ·have e:=Ez b hi (v:=0) (.inl ⟨l5,by decide⟩) (k:=(k:Int)+1) (by rw[l6,bz (by omega)])
  rw[aj h1,aj h1]at hs;rw[aj h1]
  have hb:(s.mem (.flag j)==1)=false:=by simpa using h1
  rcases mJ hi hr with ⟨e1,e2⟩ | ⟨e1,e2,e3⟩
  ·rw[au (by rw[l2];omega)]at e;rw[au e2]
   exact .mk b hi (WU b hi (hs _ e) l4 rfl rfl) w1 w2 rfl rfl (b.kR rfl (by rw[hp];rfl) _ _ _ _ _) (by rw[hb];exact Lg.nt rfl) (by show(10:Nat)≠0;decide)
  ·rw[aj (by rw[l2];omega)]at e;rw[aj e2]
   exact .mk b hi (nC b hi (hs _ e) l4 (by show(9:Int)≠0;decide)) w1 w2 rfl ⟨a1,k+1,⟨l1,l2,l3,l4,rfl,by show(k:Int)+1=((k+1:Nat):Int);omega⟩,e3⟩ (b.kR rfl (by rw[hp];rfl) _ _ _ _ _) (by rw[hb];exact Lg.nt rfl) trivial
theorem tK{j:Nat}(hp:s.pc i= .kE j):cY C p sz n M (Am.step C s i d) (N0 S M (i:Int) D):=by
 obtain⟨w1,w2,w3⟩:=b.dh.wk i hi
 rw[hp]at w3
 obtain⟨a1,k,⟨l1,l2,l3,l4,l5,l6⟩,hr⟩:=w3
 have n64:=b.ok.n64
 have hk:=hr.2.1
 have hac:=BV b.ar b.z b.cN l1 l5 (b.rT rfl)
 have hs:=λo' h=>kZ l4 l5 (by decide) (by decide) (by decide) hac (o':=o') (by rw[aj (by decide),aj (by decide),aj (by decide)];exact h)
 have e:=Ez b hi (v:=s.mem .iR-1) (.inr l5) (k:=(k:Int)+1) (by rw[l6,bz (by omega)])
 unfold Am.step;rw[hp];simp only[Am.fK]
 rcases mJ hi hr with ⟨e1,e2⟩ | ⟨e1,e2,e3⟩
 ·rw[au (by rw[l2];omega)]at e;rw[au e2]
  exact .mk b hi (WU b hi (hs _ e) l4 rfl rfl) w1 w2 rfl rfl (b.lR (c:=.iR) rfl (by rw[hp];rfl) trivial _ _ _ _ _) (Lg.nt rfl) (by show(10:Nat)≠0;decide)
 ·rw[aj (by rw[l2];omega)]at e;rw[aj e2]
  exact .mk b hi (nC b hi (hs _ e) l4 (by show(9:Int)≠0;decide)) w1 w2 rfl ⟨a1,k+1,⟨l1,l2,l3,l4,rfl,by show(k:Int)+1=((k+1:Nat):Int);omega⟩,e3⟩ (b.lR (c:=.iR) rfl (by rw[hp];rfl) trivial _ _ _ _ _) (Lg.nt rfl) trivial
end
theorem tL{α:Type}[Inhabited α]{N j:Nat}{g:Nat->α}(h:j<N):ag ((List.range N).map g) j=g j:=by
 unfold ag;rw[List.getD_eq_getElem?_getD,List.getElem?_map,List.getElem?_range h];rfl
theorem uM{α:Type}[Inhabited α]{N j k:Nat}{l:List α}{y:α}(h:j<N):ag (kI N l k y) j=if j=k then y else ag l j:=tL h
theorem Ak{α:Type}[Inhabited α]{N j:Nat}{ys l:List α}(h:j<N):ag (vj N ys l) j=if j<ys.length then ag ys j else ag l j:=tL h
theorem BW{α:Type}[Inhabited α]{lo m j:Nat}{l:List α}(h:j<m):ag (oq l lo m) j=ag l (lo+j):=tL h
def Jx:aK:=⟨0,0,0,0,0,0,0,0,0,0,0,0,0,false,0,0⟩
def vJ(C:Am.dH)(i:Nat)(l:List aT):aX:=⟨2+10*(C.F:Int),C.N,i,1,1,0,0,0,0,l,Jx⟩
section
variable {K:Nat}{C:Am.dH}{p:ay}{s:Am.St}{S:af}{M M':ae}{sz n i:Nat}{D:aA}{d:Int}{o':aX}
variable (b:j0 C p s S M sz n)(hi:i<C.N)
include b
theorem xD:∀(e k g:Nat) (l:List aT),g+e=C.N->e<k->(∀v,v<g->ag l v=rV C v)->
 ∃l',jg K (⟨S.dM,S.bT⟩:bU) (i:Int) S.dW k l (g:Int)=some (⟨S.dM,S.bT,i,1,1,0,0,0,0,l',Jx⟩:aX)/\∀v,v<C.N->ag l' v=rV C v
 | e,k,g,l,he,hk,hl=>by
  obtain⟨k,rfl⟩ :∃m,k=m+1:=⟨k-1,by omega⟩
  have n64:=b.ok.n64
  have h1:=b.ok.c1;have h2:=b.ok.cm;have h3:=b.ok.m4
  rw[jg,b.dh.dl]
  by_cases hg:g<C.N
  ·obtain⟨e,rfl⟩ :∃m,e=m+1:=⟨e-1,by omega⟩
   have hd:=b.dh.dq g hg
   have ih:=xD e k (g+1) (kI 64 l g (rV C g)) (by omega) (by omega) (λv hv=>by
    rw[uM (by omega)];split
    ·next e=>rw[e]
    ·exact hl v (by omega))
   have hin:aZ (g:Int) C.N:=⟨by omega,by omega⟩
   have abe:aZ (g:Int) 64:=⟨by omega,by omega⟩
   rw[iQ_,au hin,Zi,hd,mm (by omega)]
   by_cases eg:(g:Int)=(i:Int)
   ·rw[au eg,au abe];exact ih
   ·rw[aj eg,aj (by show ¬(C.most:Int)<1;omega),aj (by show ¬(C.most:Int)>4096;omega),au abe];exact ih
  ·rw[iO_]
   exact⟨l,rfl,λv hv=>hl v (by omega)⟩
include hi
theorem yZ(hK:100<K) :∃l,kX K (⟨S.dM,S.bT⟩:bU) (i:Int) S.dW=some (vJ C i l)/\∀v,v<C.N->ag l v=rV C v:=by
 have h1:=b.ok.n1;have h2:=b.ok.n64
 obtain⟨l,e1,e2⟩:=xD (K:=K) (i:=i) b C.N K 0 (List.replicate 64 ⟨0,0⟩) (by omega) (by omega) (λv hv=>by omega)
 refine⟨l,?_,e2⟩
 unfold kX fA fc
 rw[aj (by show ¬S.bT<1;rw[b.dh.lw];omega),aj (by show ¬S.bT>64;rw[b.dh.lw];omega),ai,au (by show wi (2+S.bT)>0;rw[b.dh.lw,bz (by omega)];omega),iQ_,afC (by show(i:Int)<S.bT;rw[b.dh.lw];omega),ai,au rfl,au (by show((S.dW.length:Nat):Int)=S.bT;rw[b.dh.lw,b.dh.dl]),bu]
 rw[agQ]at e1
 rw[e1,b.dh.lb,b.dh.lw];rfl
theorem xF(hK:100<K){S0:af}{a:aW}(h0:S0=Ok S i a)(ha:a.bp=i) :∃l,(∀M',ig K S0 M' (i:Int)=some (Ok S i {a with Nf:=vJ C i l,parked:=false,aJ:=12}))/\∀v,v<C.N->ag l v=rV C v:=by
 obtain⟨l,e1,e2⟩:=yZ (K:=K) b hi hK
 refine⟨l,λM' => ?_,e2⟩
 subst h0
 unfold ig OV MR
 rw[Zi,show ag (Ok S i a).aa i=a from eN (b.wl hi)]
 show bH (kX K (⟨S.dM,S.bT⟩:bU) a.bp S.dW) _=_
 rw[show kX K (⟨S.dM,S.bT⟩:bU) a.bp S.dW=some (vJ C i l) by rw[ha];exact e1,ai]
 show some ({S with aa:=(((S.aa.set i _).set i _).set i _).set i _}:af)=_
 rw[agu,agu,agu];rfl
theorem vK(h1:bI M (act S i).Nf=some (o',M'))(h2:o'.cu=3)(h3:o'.aC=0)(h4:o'.NF=17):N1 K S M (i:Int) D=some (mL (Am.ev 10 0 0 0),Ok S i {act S i with Nf:=o',aJ:=13},M'):=by
 have hw:=b.wl hi
 unfold N1 eM
 rw[kF h1 (su (by rw[h2];decide) h3),bZ,h4,au rfl,au (by rw[da];exact b.lU hi),Zi]
 rw[show ag (Ok S i {act S i with Nf:=o' }).aa i={act S i with Nf:=o' }from eN hw,bJ]
 show some (_,({S with aa:=(S.aa.set i _).set i _}:af),M')=_
 rw[agu];rfl
theorem vL(h1:bI M (act S i).Nf=some (o',M'))(h2:o'.cu=3)(h3:o'.aC=0)(h4:o'.NF=16)(ht:(act S i).tries<3):N1 K S M (i:Int) D=some (mL none,Ok S i {act S i with Nf:=o',aJ:=9},M'):=by
 have hw:=b.wl hi
 unfold N1
 rw[kF h1 (su (by rw[h2];decide) h3),bZ,h4,aj (by decide),au rfl,au (by rw[da];exact b.lU hi),Zi]
 rw[show ag (Ok S i {act S i with Nf:=o' }).aa i={act S i with Nf:=o' }from eN hw,au ht]
 show some (_,({S with aa:=(S.aa.set i _).set i _}:af),M')=_
 rw[agu];rfl
theorem xG(hK:100<K)(h1:bI M (act S i).Nf=some (o',M'))(h2:o'.cu=3)(h3:o'.aC=0)(h4:o'.NF=16)(ht:¬(act S i).tries<3) :∃l,N1 K S M (i:Int) D=some (mL none,Ok S i {act S i with Nf:=vJ C i l,parked:=false,aJ:=12},M')/\∀v,v<C.N->ag l v=rV C v:=by
 have hw:=b.wl hi
 obtain⟨l,e1,e2⟩:=xF (K:=K) b hi hK (S0:=Ok S i {act S i with Nf:=o' }) rfl (b.dh.wk i hi).self
 refine⟨l,?_,e2⟩
 unfold N1
 rw[kF h1 (su (by rw[h2];decide) h3),bZ,h4,aj (by decide),au rfl,au (by rw[da];exact b.lU hi),Zi]
 rw[show ag (Ok S i {act S i with Nf:=o' }).aa i={act S i with Nf:=o' }from eN hw,aj ht,e1,ai];rfl
theorem y9(hK:100<K)(hp:s.pc i= .nV):cY C p sz n M (Am.step C s i d) (N1 K S M (i:Int) D):=by
 obtain⟨w1,w2,w3⟩:=b.dh.wk i hi
 rw[hp]at w3
 obtain⟨a1,a2,l4,l5,l1,l2⟩:=w3
 have T:=b.dt.2 i hi
 unfold Am.Th at T;rw[hp]at T;simp only at T
 have hac:=Eu b.ar b.z b.cN l1 l5
 have hs:=kZ l4 l5 (by decide) (by decide) (by decide) hac (by rw[aj (by decide),aj (by decide),au rfl])
 unfold Am.step;rw[hp];simp only
 by_cases h1:s.mem .Vu=1
 ·rw[au h1];rw[au h1]at hs
  exact .mk b hi (vK b hi hs l4 rfl rfl) w1 w2 rfl rfl (b.kR rfl (by rw[hp];rfl) _ _ _ _ _) (Lg.nt rfl) (by show(10:Nat)≠0;decide)
 ·rw[aj h1];rw[aj h1]at hs
  by_cases h2:s.tries i<3
  ·rw[au h2]
   exact .mk b hi (vL b hi hs l4 rfl rfl (by rw[show(act S i).tries=s.tries i from a2];omega)) w1 w2 rfl ⟨rfl,a2,h2⟩ (b.kR rfl (by rw[hp];rfl) _ _ _ _ _) (Lg.nt rfl) trivial
  ·rw[aj h2]
   obtain⟨l,e1,e2⟩:=xG (D:=D) b hi hK hs l4 rfl rfl (by rw[show(act S i).tries=s.tries i from a2];omega)
   exact .mk b hi e1 w1 w2 rfl (.inr ⟨⟨rfl,⟨rfl,rfl,rfl,rfl,rfl,rfl⟩,e2⟩,rfl⟩) (b.kR rfl (by rw[hp];rfl) _ _ _ _ _) (Lg.nt rfl) trivial
section
variable {a:aW}
theorem lG:ag (Ok S i a).aa (i:Int).toNat=a:=by rw[Zi];exact eN (b.wl hi)
theorem nD{c v:Int}(h1:bI M a.Nf=some (o',M'))(h2:gY o'=some (c,v)):dP (Ok S i a) M (i:Int)=some (c,v,Ok S i {a with Nf:=o' },M'):=by
 unfold dP OV MR
 rw[lG b hi,h1,bJ]
 simp only
 rw[h2,bJ]
 show some (_,_,({S with aa:=(S.aa.set i a).set i {a with Nf:=o' }}:af),M')=_
 rw[agu];rfl
theorem jl(h1:bI M a.Nf=some (o',M'))(h2:o'.cu=1)(h3:o'.aC≠0)(h4:o'.aC≠5∨a.parked=true):aP (Ok S i a) M (i:Int) D=some (mL none,Ok S i {a with Nf:=o' },M'):=by
 unfold aP mq OV MR
 rw[nD b hi h1 (uK (by rw[h2];decide) h3),bZ,au rfl,au (by rw[da];exact b.lU hi),lG b hi]
 simp only
 rw[au h2,ai]
 by_cases e:o'.aC=5
 ·rw[au (by rw[e];rfl),au (h4.resolve_left (λh=>h e))];rfl
 ·rw[aj (by simpa using e)];rfl
theorem p7(h1:bI M a.Nf=some (o',M'))(h2:o'.cu=1)(h3:o'.aC=5)(h4:a.parked=false):aP (Ok S i a) M (i:Int) D=some (mL (Am.ev 9 0 0 0),Ok S i {a with Nf:=o',parked:=true},M'):=by
 unfold aP mq OV MR
 rw[nD b hi h1 (uK (by rw[h2];decide) (by rw[h3];decide)),bZ,au rfl,au (by rw[da];exact b.lU hi),lG b hi]
 simp only
 rw[au h2,ai,au (by rw[h3];rfl),iM_ h4,Zi]
 show some (_,({S with aa:=(S.aa.set i _).set i _}:af),M')=_
 rw[agu];rfl
theorem Uz(h1:bI M a.Nf=some (o',M'))(h2:o'.cu=1)(h3:o'.aC=0)(h4:o'.NF=16):aP (Ok S i a) M (i:Int) D=some (mL none,Ok S i {a with Nf:=o',tries:=0,aJ:=9},M'):=by
 unfold aP OV MR
 rw[nD b hi h1 (su (by rw[h2];decide) h3),bZ,h4,aj (by decide),au rfl,au (by rw[da];exact b.lU hi),lG b hi,Zi]
 show some (_,({S with aa:=((S.aa.set i _).set i _).set i _}:af),M')=_
 rw[agu,agu];rfl
theorem p9(h1:bI M a.Nf=some (o',M'))(h2:o'.cu=1)(h3:o'.aC=0)(h4:o'.NF=17):aP (Ok S i a) M (i:Int) D=some (mL (Am.ev 10 0 0 0),Ok S i {a with Nf:=o',aJ:=13},M'):=by
 unfold aP eM OV MR
 rw[nD b hi h1 (su (by rw[h2];decide) h3),bZ,h4,aj (by decide),aj (by decide),au rfl,au (by rw[da];exact b.lU hi),lG b hi,bJ,Zi]
 show some (_,({S with aa:=(S.aa.set i _).set i _}:af),M')=_
 rw[agu];rfl
end
theorem dg:Ok S i (act S i)=S:=by
 have e:S.aa.set i (act S i)=S.aa:=by
  refine afS λk => ?_
  rw[List.getElem?_set]
  have hw:=b.wl hi
  by_cases h:i=k
  ·subst h;rw[au rfl,au hw];show _=_;rw[List.getElem?_eq_getElem hw];show some (ag S.aa i)=_;unfold ag;rw[List.getD_eq_getElem?_getD,List.getElem?_eq_getElem hw];rfl
  ·rw[aj h]
 show({S with aa:=S.aa.set i (act S i)}:af)=S
 rw[e]
end
section
variable {o o':aX}{M M':ae}{v:Int}
theorem HZ(ha:o.aC=1):cz o v=some {o with aC:=2}:=by unfold cz;rw[au ha]
theorem H6(ha:o.aC=2):cz o v=some {o with aC:=3}:=by unfold cz;rw[iM_ ha,au ha]
theorem H7(ha:o.aC=3):cz o v=if v=1 then some {o with aC:=6,gB:=17}else dI o:=by
 unfold cz iD;rw[iM_ ha,iM_ ha,au ha]
 split
 ·rfl
 ·cases dI o<;>rfl
theorem H8(ha:o.aC=5):cz o v=if v=1 then some o else some {o with aC:=0,NF:=16,cS:=0}:=by
 unfold cz bl;rw[iM_ ha,iM_ ha,iM_ ha,au ha];rfl
theorem EA(ha:o.aC=6):cz o v=if v=1 then some {o with aC:=7}else some {o with aC:=0,NF:=o.gB,cS:=0}:=by
 unfold cz bl;rw[iM_ ha,iM_ ha,iM_ ha,iM_ ha,au ha];rfl
theorem H9(ha:o.aC=7):cz o v=some {o with aC:=0,NF:=o.gB,cS:=0}:=by
 unfold cz bl;rw[iM_ ha,iM_ ha,iM_ ha,iM_ ha,iM_ ha,au ha];rfl
theorem qO(hk:o.cu=1)(ha:o.aC=4)(hx:fo o M=some (o',M')):bI M o=some (o',M'):=by
 unfold bI
 rw[iM_ hk,iM_ ha,bu,au ha,hx,bJ]
theorem xH{l':aK}(h:bX M o.look=some (l',M'))(hk:l'.kind=4):fo o M=if l'.ag=0 then(if l'.code=0 then some ({o with look:=l' },M')else if l'.code=7 then some ({o with look:=l',aC:=6,gB:=16},M')else if l'.code=8 then bH (dI {o with look:=l' }) (λr=>some (r,M'))else some ({o with look:=l',aC:=0,NF:=1,cS:=0},M'))else some ({o with look:=l' },M'):=by
 unfold fo iD bl
 rw[h,bJ]
 by_cases e:l'.ag=0
 ·rw[tv (by rw[hk];decide) e,au e,bJ];rfl
 ·rw[rW (by rw[hk];decide) e,aj e,bJ,au rfl]
theorem Ia{l:aK}(ha:l.ag=2):eY l v=some {l with ag:=1,t:=v}:=by unfold eY;rw[au ha]
theorem Ib{l:aK}(ha:l.ag=1):eY l v=if l.t<v then some {l with ag:=0,code:=7,value:=0}else some {l with ag:=0,code:=8,value:=0}:=by
 unfold eY NM;rw[iM_ ha];rfl
end
section
variable {K:Nat}{C:Am.dH}{p:ay}{s:Am.St}{S:af}{M M':ae}{sz n i:Nat}{D:aA}{d:Int}{o:aX}
variable (b:j0 C p s S M sz n)(hi:i<C.N)
include b hi
theorem uN{k:Nat}(hw:o.bP=C.N)(hk:o.cL=k)(h:k+1=C.N):dI o=some {o with aC:=5,cL:=(k:Int)+1}:=by
 have n64:=b.ok.n64
 have e:wi (o.cL+1)=(k:Int)+1:=by rw[hk,bz (by omega)]
 unfold dI
 rw[e,au (by rw[hw];omega)]
theorem uO{k j:Nat}(hw:o.bP=C.N)(hs:o.fT=i)(hk:o.cL=k)(hd:∀v,v<C.N->ag o.dW v=rV C v)(h:ring C i j (k+1)):dI o=some {o with aC:=4,cL:=(k:Int)+1,look:=nA C 4 2 j 0}:=by
 have n64:=b.ok.n64
 have hj:=nB h
 have hlt:=h.2.1
 have e:wi (o.cL+1)=(k:Int)+1:=by rw[hk,bz (by omega)]
 have ho:eu {o with aC:=4,cL:=(k:Int)+1}=some (j:Int):=Yi (k:=k+1) hi n64 hw hs (by show(k:Int)+1=((k+1:Nat):Int);omega) h
 unfold dI oT
 rw[e,aj (by rw[hw];omega),ho,ai,au ⟨by omega,by omega⟩,Zi,hd j hj,mB b,ai];rfl
theorem qa{a:aW}(hr:RO C i 1 0 a)(hpk:a.parked=false):aP (Ok S i a) M (i:Int) D=some (mL none,Ok S i {a with Nf:={a.Nf with aC:=2}},nt M (M.cell.set (Am.place C s (.flag i)).toNat 1) 1 (Am.place C s (.flag i)) 1 0 true):=by
 obtain⟨a1,⟨l1,l2,l3,l4,l5,l6⟩,a2⟩:=hr
 exact jl b hi (kZ l4 l5 (by decide) (by decide) (by decide) (HS b.ar b.z b.cN hi l1 l3 l5) (by rw[au rfl];exact HZ l5)) l4 (by show(2:Int)≠0;decide) (.inl (by show(2:Int)≠5;decide))
theorem za(hp:s.pc i= .flag)(hr:RO C i 1 0 (act S i)/\(act S i).parked=false):cY C p sz n M (Am.step C s i d) (aP S M (i:Int) D):=by
 obtain⟨w1,w2,w3⟩:=b.dh.wk i hi
 have h:=qa (D:=D) b hi hr.1 hr.2
 rw[dg b hi]at h
 obtain⟨⟨a1,⟨l1,l2,l3,l4,l5,l6⟩,a2⟩,a3⟩:=hr
 unfold Am.step;rw[hp];simp only
 exact .mk b hi h w1 w2 rfl ⟨⟨a1,⟨l1,l2,l3,l4,rfl,l6⟩,a2⟩,a3⟩ (b.lR (c:=.flag i) rfl (by rw[hp];rfl) hi _ _ _ _ _) (Lg.nt rfl) trivial
theorem xI(hp:s.pc i= .sleep):cY C p sz n M (Am.step C s i d) (aP S M (i:Int) D):=by
 obtain⟨w1,w2,w3⟩:=b.dh.wk i hi
 rw[hp]at w3
 obtain⟨⟨a1,⟨l1,l2,l3,l4,l5,l6⟩,a2⟩,a3⟩:=w3
 have hs:=λo' h=>kZ l4 l5 (by decide) (by decide) (by decide) (HU b.ar b.z b.cN l1 l5 (b.rT rfl)) (o':=o') (by rw[au rfl];exact h)
 have h:=jl (D:=D) b hi (a:=act S i) (hs _ (H6 l5)) l4 (by show(3:Int)≠0;decide) (.inl (by show(3:Int)≠5;decide))
 rw[dg b hi]at h
 unfold Am.step;rw[hp];simp only
 exact .mk b hi h w1 w2 rfl ⟨⟨a1,⟨l1,l2,l3,l4,rfl,l6⟩,a2⟩,a3⟩ (b.lR (c:=.iR) rfl (by rw[hp];rfl) trivial _ _ _ _ _) (Lg.nt rfl) trivial
theorem sv(hp:s.pc i= .jM):cY C p sz n M (Am.step C s i d) (aP S M (i:Int) D):=by
 obtain⟨w1,w2,w3⟩:=b.dh.wk i hi
 rw[hp]at w3
 obtain⟨⟨a1,⟨l1,l2,l3,l4,l5,l6⟩,a2⟩,a3⟩:=w3
 have hs:=λo' h=>kZ l4 l5 (by decide) (by decide) (by decide) (Eu b.ar b.z b.cN l1 l5) (o':=o') (by rw[au rfl];exact h)
 have e:=H7 l5 (v:=s.mem .Vu)
 unfold Am.step;rw[hp];simp only[Am.looking]
 by_cases h1:s.mem .Vu=1
 ·rw[au h1]at e;rw[au h1]
  have h:=jl (D:=D) b hi (a:=act S i) (hs _ e) l4 (by show(6:Int)≠0;decide) (.inl (by show(6:Int)≠5;decide))
  rw[dg b hi]at h
  exact .mk b hi h w1 w2 rfl ⟨a3,0,⟨a1,⟨l1,l2,l3,l4,rfl,l6⟩,a2⟩,rfl⟩ (b.kR rfl (by rw[hp];rfl) _ _ _ _ _) (Lg.nt rfl) trivial
 ·rw[aj h1]at e;rw[aj h1]
  rcases mZ hi with ⟨e1,e2⟩ | ⟨e1,e2,e3⟩
  ·rw[uN b hi l2 (k:=0) l6 (by omega)]at e;rw[au e2]
   have h:=p7 (D:=D) b hi (a:=act S i) (hs _ e) l4 rfl a3
   rw[dg b hi]at h
   exact .mk b hi h w1 w2 rfl ⟨rfl,_,a1,⟨l1,l2,l3,l4,rfl,rfl⟩,a2⟩ (b.kR rfl (by rw[hp];rfl) _ _ _ _ _) (Lg.nt rfl) (by show(9:Nat)≠0;decide)
  ·rw[uO b hi l2 l3 (k:=0) l6 a2 e3]at e;rw[aj e2]
   have h:=jl (D:=D) b hi (a:=act S i) (hs _ e) l4 (by show(4:Int)≠0;decide) (.inl (by show(4:Int)≠5;decide))
   rw[dg b hi]at h
   exact .mk b hi h w1 w2 rfl ⟨a3,1,⟨a1,⟨l1,l2,l3,l4,rfl,rfl⟩,a2⟩,e3,rfl,rfl,rfl,rfl⟩ (b.kR rfl (by rw[hp];rfl) _ _ _ _ _) (Lg.nt rfl) trivial
theorem xJ{j:Nat}(hp:s.pc i= .od j):cY C p sz n M (Am.step C s i d) (aP S M (i:Int) D):=by
 obtain⟨w1,w2,w3⟩:=b.dh.wk i hi
 rw[hp]at w3
 obtain⟨a3,k,⟨a1,⟨l1,l2,l3,l4,l5,l6⟩,a2⟩,hr,o1,o2,o3,o4⟩:=w3
 have hj:=nB hr
 have hd:=fL o1 o2 (by decide) (by decide) (oB b.ar b.z b.cN hj o2 o3) (by rw[aj (by decide),aj (by decide),aj (by decide)];exact Ia o2)
 have hl:=xH hd o1
 rw[aj (by show ¬(1:Int)=0;decide)]at hl
 have h:=jl (D:=D) b hi (a:=act S i) (qO l4 l5 hl) l4 (by show(act S i).Nf.aC≠0;rw[show(act S i).Nf.aC=4 from l5];decide) (.inl (by show(act S i).Nf.aC≠5;rw[show(act S i).Nf.aC=4 from l5];decide))
 rw[dg b hi]at h
 unfold Am.step;rw[hp];simp only
 exact .mk b hi h w1 w2 rfl ⟨a3,k,⟨a1,⟨l1,l2,l3,l4,l5,l6⟩,a2⟩,hr,⟨o1,rfl,o3,o4⟩,rfl⟩ (b.kR rfl (by rw[hp];rfl) _ _ _ _ _) (Lg.nt rfl) trivial
theorem xK{j:Nat}{t:Int}(hp:s.pc i= .nl j t):cY C p sz n M (Am.step C s i d) (aP S M (i:Int) D):=by
 obtain⟨w1,w2,w3⟩:=b.dh.wk i hi
 rw[hp]at w3
 obtain⟨a3,k,⟨a1,⟨l1,l2,l3,l4,l5,l6⟩,a2⟩,hr,⟨o1,o2,o3,o4⟩,o5⟩:=w3
 have hj:=nB hr
 have e:=Ib o2 (v:=s.mem (.bot j))
 have hd:=λl' h=>fL o1 o2 (by decide) (by decide) (oA b.ar b.z b.cN hj o2 o3) (o':=l') (by rw[aj (by decide),aj (by decide),aj (by decide)];exact h)
 unfold Am.step;rw[hp];simp only[Am.looking]
 by_cases h1:t<s.mem (.bot j)
 ·rw[au (by rw[o5];exact h1)]at e;rw[au h1]
  have hl:=xH (hd _ e) o1
  rw[au rfl,aj (by show ¬(7:Int)=0;decide),au rfl]at hl
  have h:=jl (D:=D) b hi (a:=act S i) (qO l4 l5 hl) l4 (by show(6:Int)≠0;decide) (.inl (by show(6:Int)≠5;decide))
  rw[dg b hi]at h
  exact .mk b hi h w1 w2 rfl ⟨a3,k,⟨a1,⟨l1,l2,l3,l4,rfl,l6⟩,a2⟩,rfl⟩ (b.kR rfl (by rw[hp];rfl) _ _ _ _ _) (Lg.nt rfl) trivial
 ·rw[aj (by rw[o5];exact h1)]at e;rw[aj h1]
  have hl:=xH (hd _ e) o1
  rw[au rfl,aj (by show ¬(8:Int)=0;decide),aj (by show ¬(8:Int)=7;decide),au rfl]at hl
  rcases mJ hi hr with ⟨e1,e2⟩ | ⟨e1,e2,e3⟩
  ·rw[uN b hi (o:={(act S i).Nf with look:={(act S i).Nf.look with ag:=0,code:=8,value:=0}}) l2 (k:=k) l6 e1,ai]at hl;rw[au e2]
   have h:=p7 (D:=D) b hi (a:=act S i) (qO l4 l5 hl) l4 rfl a3
   rw[dg b hi]at h
   exact .mk b hi h w1 w2 rfl ⟨rfl,_,a1,⟨l1,l2,l3,l4,rfl,rfl⟩,a2⟩ (b.kR rfl (by rw[hp];rfl) _ _ _ _ _) (Lg.nt rfl) (by show(9:Nat)≠0;decide)
  ·rw[uO b hi (o:={(act S i).Nf with look:={(act S i).Nf.look with ag:=0,code:=8,value:=0}}) l2 l3 (k:=k) l6 a2 e3,ai]at hl;rw[aj e2]
   have h:=jl (D:=D) b hi (a:=act S i) (qO l4 l5 hl) l4 (by show(4:Int)≠0;decide) (.inl (by show(4:Int)≠5;decide))
   rw[dg b hi]at h
   exact .mk b hi h w1 w2 rfl ⟨a3,k+1,⟨a1,⟨l1,l2,l3,l4,rfl,by show(k:Int)+1=((k+1:Nat):Int);omega⟩,a2⟩,e3,rfl,rfl,rfl,rfl⟩ (b.kR rfl (by rw[hp];rfl) _ _ _ _ _) (Lg.nt rfl) trivial
theorem vM(hp:s.pc i= .parked):cY C p sz n M (Am.step C s i d) (aP S M (i:Int) D):=by
 obtain⟨w1,w2,w3⟩:=b.dh.wk i hi
 rw[hp]at w3
 obtain⟨a3,k,a1,⟨l1,l2,l3,l4,l5,l6⟩,a2⟩:=w3
 have hs:=λo' h=>kZ l4 l5 (by decide) (by decide) (by decide) (HV b.ar b.z b.cN hi l1 l3 l5) (o':=o') (by rw[au rfl];exact h)
 have e:=H8 l5 (v:=s.mem (.flag i))
 unfold Am.step;rw[hp];simp only
 by_cases h1:s.mem (.flag i)=1
 ·rw[au h1]at e;rw[au h1]
  have h:=jl (D:=D) b hi (a:=act S i) (hs _ e) l4 (by rw[show(act S i).Nf.aC=5 from l5];decide) (.inr a3)
  rw[dg b hi]at h
  exact .mk (a:=act S i) b hi (by rw[dg b hi];exact h) w1 w2 (q:=.parked) (by show s.pc=_;rw[<-hp,Am.gq]) ⟨a3,k,a1,⟨l1,l2,l3,l4,l5,l6⟩,a2⟩ (b.ar.same rfl rfl rfl rfl _ _ _ _ _) (Lg.nt rfl) trivial
 ·rw[aj h1]at e;rw[aj h1]
  have h:=Uz (D:=D) b hi (a:=act S i) (hs _ e) l4 rfl rfl
  rw[dg b hi]at h
  exact .mk b hi h w1 w2 rfl (nv b hi rfl rfl (Am.aL _ _ _)) (b.kR rfl (by rw[hp];exact ny b hi rfl) _ _ _ _ _) (Lg.nt rfl) trivial (vx:=λj hj=>Am.aI hj)
theorem zb{w:Bool}(hp:s.pc i= .back w):cY C p sz n M (Am.step C s i d) (aP S M (i:Int) D):=by
 obtain⟨w1,w2,w3⟩:=b.dh.wk i hi
 rw[hp]at w3
 obtain⟨a3,k,⟨a1,⟨l1,l2,l3,l4,l5,l6⟩,a2⟩,a4⟩:=w3
 have hs:=λo' h=>kZ l4 l5 (by decide) (by decide) (by decide) (HW b.ar b.z b.cN hi l1 l3 l5) (o':=o') (by rw[au rfl];exact h)
 unfold Am.step;rw[hp];simp only[Am.nn]
 by_cases h1:s.mem (.flag i)=1
 ·have e:=EA l5 (v:=1)
  rw[au rfl]at e
  rw[au h1,au h1]at hs;rw[au h1]
  have h:=jl (D:=D) b hi (a:=act S i) (hs _ e) l4 (by show(7:Int)≠0;decide) (.inl (by show(7:Int)≠5;decide))
  rw[dg b hi]at h
  exact .mk b hi h w1 w2 rfl ⟨a3,k,⟨a1,⟨l1,l2,l3,l4,rfl,l6⟩,a2⟩,a4⟩ (b.lR (c:=.flag i) rfl (by rw[hp];rfl) hi _ _ _ _ _) (by rw[show(s.mem (.flag i)==1)=true by rw[h1];rfl];exact Lg.nt rfl) trivial
 ·have e:=EA l5 (v:=0)
  rw[aj (by decide)]at e
  rw[aj h1,aj h1]at hs;rw[aj h1]
  have hb:(s.mem (.flag i)==1)=false:=by simpa using h1
  cases w with
  | true =>
   have h:=p9 (D:=D) b hi (a:=act S i) (hs _ e) l4 rfl a4
   rw[dg b hi]at h
   exact .mk b hi h w1 w2 rfl rfl (b.kR rfl (by rw[hp];rfl) _ _ _ _ _) (by rw[hb];exact Lg.nt rfl) (by show(10:Nat)≠0;decide)
  | false =>
   have h:=Uz (D:=D) b hi (a:=act S i) (hs _ e) l4 rfl a4
   rw[dg b hi]at h
   exact .mk b hi h w1 w2 rfl (nv b hi rfl rfl (Am.aL _ _ _)) (b.kR rfl (by rw[hp];exact ny b hi rfl) _ _ _ _ _) (by rw[hb];exact Lg.nt rfl) trivial (vx:=λj hj=>Am.aI hj)
theorem tM{w:Bool}(hp:s.pc i= .j6 w):cY C p sz n M (Am.step C s i d) (aP S M (i:Int) D):=by
 obtain⟨w1,w2,w3⟩:=b.dh.wk i hi
 rw[hp]at w3
 obtain⟨a3,k,⟨a1,⟨l1,l2,l3,l4,l5,l6⟩,a2⟩,a4⟩:=w3
 have hs:=kZ l4 l5 (by decide) (by decide) (by decide) (BV b.ar b.z b.cN l1 l5 (b.rT rfl)) (by rw[au rfl];exact H9 l5)
 unfold Am.step;rw[hp];simp only[Am.nn]
 cases w with
 | true =>
  have h:=p9 (D:=D) b hi (a:=act S i) hs l4 rfl a4
  rw[dg b hi]at h
  exact .mk b hi h w1 w2 rfl rfl (b.lR (c:=.iR) rfl (by rw[hp];rfl) trivial _ _ _ _ _) (Lg.nt rfl) (by show(10:Nat)≠0;decide)
 | false =>
  have h:=Uz (D:=D) b hi (a:=act S i) hs l4 rfl a4
  rw[dg b hi]at h
  exact .mk b hi h w1 w2 rfl (nv b hi rfl rfl (Am.aL _ _ _)) (b.lR (c:=.iR) rfl (by rw[hp];exact ny b hi rfl) trivial _ _ _ _ _) (Lg.nt rfl) trivial (vx:=λj hj=>Am.aI hj)
def sw(C:Am.dH)(p:ay)(sz n:Nat)(M:ae)(D':aA)(o:Am.Out)(r:Option (ah×af×ae×aA)):Prop:=
 ∃S' M',r=some (mL o.ev,S',M',D')/\xq C p o.s S'/\AR C o.s M' sz (n+1)/\Lg C o.s M M' o.acc/\xx o.ev
theorem cY.draw{o:Am.Out}{r:Option (ah×af×ae)}{r':Option (ah×af×ae×aA)}(h:cY C p sz n M o r)(hr:r'=gh r (λa b c=>some (a,b,c,D))):sw C p sz n M D o r':=by
 obtain⟨S',M',rfl,h⟩:=h
 exact⟨S',M',by rw[hr,bf],h⟩
theorem xL(hK:100<K)(hp:s.pc i= .flag)(h9:(act S i).aJ=9/\C.N=1):sw C p sz n M D (Am.step C s i d) (Oe K S M (i:Int) D):=by
 obtain⟨w1,w2,w3⟩:=b.dh.wk i hi
 obtain⟨l,e1,e2⟩:=xF (K:=K) b hi hK (S0:=S) (a:=act S i) (dg b hi).symm w1
 have hr:RO C i 1 0 {act S i with Nf:=vJ C i l,parked:=false,aJ:=12}:=⟨rfl,⟨rfl,rfl,rfl,rfl,rfl,rfl⟩,e2⟩
 have h:=qa (D:=D) b hi hr rfl
 have hg:Oe K S M (i:Int) D=gh (aP (Ok S i {act S i with Nf:=vJ C i l,parked:=false,aJ:=12}) M (i:Int) D) (λa b c=>some (a,b,c,D)):=by
  unfold Oe fh OV MR
  rw[ai,au (by rw[b.dh.wl];omega),e1 M,ai,au (by rw[da];exact b.lU hi)]
 refine cY.draw b hi ?_ hg
 unfold Am.step;rw[hp];simp only
 exact .mk b hi h w1 w2 rfl ⟨⟨rfl,⟨rfl,rfl,rfl,rfl,rfl,rfl⟩,e2⟩,rfl⟩ (b.lR (c:=.flag i) rfl (by rw[hp];rfl) hi _ _ _ _ _) (Lg.nt rfl) trivial
theorem vN(hp:s.pc i= .gG):sw C p sz n M (sL D) (Am.step C s i (Uu D)) (Oe K S M (i:Int) D):=by
 obtain⟨w1,w2,w3⟩:=b.dh.wk i hi
 rw[hp]at w3
 obtain⟨a1,a2,a3⟩:=w3
 have T:=b.dt.2 i hi
 unfold Am.Th at T;rw[hp]at T;simp only at T
 have n1:=b.ok.n1;have n64:=b.ok.n64
 obtain⟨v,hv⟩ :∃v,v=(i+1+(Uu D%((C.N:Int)-1)).toNat)%C.N:=⟨_,rfl⟩
 have F2:v<C.N:=by rw[hv];exact Nat.mod_lt _ (by omega)
 have m0:=af8 (Uu D) (b:=(C.N:Int)-1) (by omega)
 have m1:=acH (Uu D) (show 0<(C.N:Int)-1 by omega)
 have Ic:((i:Int)+1+Uu D%((C.N:Int)-1))%(C.N:Int)=(v:Int):=by
  rw[hv]
  have:(i:Int)+1+Uu D%((C.N:Int)-1)=((i+1+(Uu D%((C.N:Int)-1)).toNat:Nat):Int):=by omega
  rw[this];rfl
 have hlen:=b.dh.wl
 have hs:=fL (o:=nA C 3 2 v 0) (M:=M) (k:=3) (a:=2) rfl rfl (by decide) (by decide) (oB b.ar b.z b.cN F2 rfl rfl) (by rw[aj (by decide),aj (by decide),au rfl];exact En rfl)
 have hact:act (Ok S i {act S i with eB:=(v:Int),aG:=nA C 3 2 v 0,aJ:=10}) i={act S i with eB:=(v:Int),aG:=nA C 3 2 v 0,aJ:=10}:=eN (b.wl hi)
 have hst:aY (Ok S i {act S i with eB:=(v:Int),aG:=nA C 3 2 v 0,aJ:=10}) M (i:Int) (sL D)=some (mL none,Ok S i {act S i with eB:=(v:Int),aG:={nA C 3 2 v 0 with ag:=1,t:=s.mem (.top v)},aJ:=10},nt M M.cell 0 (Am.place C s (.top v)) (s.mem (.top v)) 0 true):=by
  unfold aY OV MR
  rw[jG (by rw[hact];exact hs) (rW (by show(3:Int)≠0;decide) (by show(1:Int)≠0;decide)),bZ,au rfl,hact,rY];rfl
 have hg:Oe K S M (i:Int) D=gh (aY (Ok S i {act S i with eB:=(v:Int),aG:=nA C 3 2 v 0,aJ:=10}) M (i:Int) (sL D)) (λa b c=>some (a,b,c,sL D)):=by
  unfold Oe fh OV MR
  rw[ai,aj (by rw[hlen];omega),ai,hlen,bz (x:=(C.N:Int)-1) (by omega),xC (by omega) (by omega),ai,ai,Zi,show(ag S.aa i).bp=i from w1,bz (x:=(i:Int)+1) (by omega),bz (x:=(i:Int)+1+_) (by omega),xC (by omega) (by omega),ai,Ic]
  rw[au (by show aZ (v:Int) S.dW.length;exact⟨by omega,by rw[b.dh.dl];omega⟩)]
  unfold oa
  rw[show ag S.dW (v:Int).toNat=rV C v by rw[Zi];exact b.dh.dq v F2,mB b,ai,ai,agu,agu];rfl
 refine cY.draw b hi ?_ hg
 unfold Am.step;rw[hp];simp only
 rw[<-hv]
 exact .mk b hi hst w1 w2 rfl ⟨rfl,⟨a2,a3⟩,rfl,⟨rfl,rfl,rfl,rfl⟩,rfl⟩ (b.kR rfl (by rw[hp];rfl) _ _ _ _ _) (Lg.nt rfl) trivial
end
def dc(C:Am.dH)(k:Int)(f:Nat)(sl:Nat)(v:Int):aV:=⟨1,C.F,f,1,0,0,k,sl,v⟩
section
variable {C:Am.dH}{s:Am.St}{M M':ae}{sz n:Nat}{o o':aV}{f:Nat}
theorem sx(h:AR C s M sz n)(hz:Am.SZ C s)(hf:f<C.F){t:aF}(hb:t.j1=1):cJ t (f:Int)=some (Am.place C s (.join f)):=by
 have p:=h.yK hz (a:=.join f) hf
 have e:Am.place C s (.join f)=2+10*(f:Int):=rfl
 rw[e]at p
 unfold cJ
 rw[hb,bz (x:=(1:Int)+1) (by omega),bz (x:=(f:Int)*10) (by omega),bz (by omega),e];congr 1;omega
theorem Al(h:AR C s M sz n)(hz:Am.SZ C s)(hf:f<C.F){k:Nat}(hk:k<8){t:aF}(hb:t.j1=1):er t (f:Int) (k:Int)=some (Am.place C s (.slot f k)):=by
 have p:=h.yK hz (a:=.slot f k) ⟨hf,hk⟩
 have e:Am.place C s (.slot f k)=4+10*(f:Int)+k:=rfl
 have e1:Am.place C s (.join f)=2+10*(f:Int):=rfl
 rw[e]at p
 unfold er
 rw[sx h hz hf hb,ai,e1,bz (x:=2+10*(f:Int)+2) (by omega),bz (by omega),e];congr 1;omega
theorem EB(h:AR C s M sz n)(hz:Am.SZ C s)(hf:f<C.F){t:aF}(hb:t.j1=1):gE t (f:Int)=some (Am.place C s (.mark f)):=by
 have p:=h.yK hz (a:=.mark f) hf
 have e:Am.place C s (.mark f)=3+10*(f:Int):=rfl
 have e1:Am.place C s (.join f)=2+10*(f:Int):=rfl
 rw[e]at p
 unfold gE
 rw[sx h hz hf hb,ai,e1,bz (by omega),e];congr 1;omega
theorem tN(hC:C.OK)(hf:f<C.F){k:Int}{sl:Nat}(hs:sl<8){v:Int}:dU k (⟨1,C.F⟩:aF) (f:Int) (sl:Int) v=some (dc C k f sl v):=by
 have h1:=hC.f1;have h2:=hC.f4
 unfold dU jf
 simp only
 rw[iQ_,iQ_,iQ_,iQ_,afC (by omega),ai,au rfl,iO_,iO_];rfl
theorem oC(hC:C.OK)(hf:f<C.F){k v:Int}:dU k (⟨1,C.F⟩:aF) (f:Int) 0 v=some (dc C k f 0 v):=tN (sl:=0) hC hf (by omega)
theorem qP{o:aV}(hb:o.cB=1)(hs:o.aD=0):dr o=some (o.cC,o.fz):=by
 unfold dr
 rw[aj (λe=>by rw[e]at hb;exact absurd hb (by decide)),iO_]
theorem xM{o:aV}(hb:o.cB=1)(hs:o.aD>0):dr o=some (0,0):=by
 unfold dr
 rw[aj (λe=>by rw[e]at hb;exact absurd hb (by decide)),au hs]
theorem nE(hs:o.aD≠0){r:Option (Int×aV×ae)}(hr:r=some (0,o',M'))
 (hk:r=(if o.kind=0 then dY o M else if o.kind=1 then fF o M else if o.kind=2 then cI o M else if o.kind=3 then dO o M else if o.kind=4 then fl o M else fm o M)) :
 bg M o=some (if o'.aD>0 then({o' with aD:=wi (o'.aD+1)},M')else(o',M')):=by
 have fin:(if(0:Int)=0 then(if o'.aD>0 then some ({o' with aD:=wi (o'.aD+1)},M')else some (o',M'))else bH (bB o' 1 0) (λS=>some (S,M')))=some (if o'.aD>0 then({o' with aD:=wi (o'.aD+1)},M')else(o',M')):=by
  rw[au rfl];split<;>rfl
 rw[hr]at hk
 unfold bg
 rw[aj hs]
 split at hk
 ·rename_i h;rw[au h,<-hk,bf];exact fin
 ·rename_i h;rw[aj h]
  split at hk
  ·rename_i h;rw[au h,<-hk,bf];exact fin
  ·rename_i h;rw[aj h]
   split at hk
   ·rename_i h;rw[au h,<-hk,bf];exact fin
   ·rename_i h;rw[aj h]
    split at hk
    ·rename_i h;rw[au h,<-hk,bf];exact fin
    ·rename_i h;rw[aj h]
     split at hk
     ·rename_i h;rw[au h,<-hk,bf];exact fin
     ·rename_i h;rw[aj h,<-hk,bf];exact fin
theorem abX(h:AR C s M sz n)(hz:Am.SZ C s)(hn:n<=2000000000)(hf:f<C.F)(hv:-1000000000000<=s.mem (.mark f)/\s.mem (.mark f)<=1000000000000) :
 bg M (dc C 4 f 0 0)=some ({dc C 4 f 0 0 with aD:=0,cC:=14,fz:=s.mem (.mark f)+1},nt M (M.cell.set (Am.place C s (.mark f)).toNat (s.mem (.mark f)+1)) 3 (Am.place C s (.mark f)) 1 (s.mem (.mark f)+1) true):=by
 refine nE (o':={dc C 4 f 0 0 with aD:=0,cC:=14,fz:=s.mem (.mark f)+1}) (M':=nt M (M.cell.set (Am.place C s (.mark f)).toNat (s.mem (.mark f)+1)) 3 (Am.place C s (.mark f)) 1 (s.mem (.mark f)+1) true) (by show(1:Int)≠0;decide) rfl ?_
 show _=fl _ _
 unfold fl bB
 rw[show gE _ (dc C 4 f 0 0).dK=some (Am.place C s (.mark f))from EB h hz hf rfl,ai,pZ h hz hn (a:=.mark f) hf (bz (by omega)),bf];rfl
theorem BX(h:AR C s M sz n)(hz:Am.SZ C s)(hn:n<=2000000000)(hf:f<C.F)(hv:-1000000000000<=s.mem (.join f)/\s.mem (.join f)<=1000000000000) :
 bg M (dc C 1 f 0 0)=some ({dc C 1 f 0 0 with aD:=0,cC:=9,fz:=s.mem (.join f)+1},nt M (M.cell.set (Am.place C s (.join f)).toNat (s.mem (.join f)+1)) 3 (Am.place C s (.join f)) 1 (s.mem (.join f)+1) true):=by
 refine nE (o':={dc C 1 f 0 0 with aD:=0,cC:=9,fz:=s.mem (.join f)+1}) (M':=nt M (M.cell.set (Am.place C s (.join f)).toNat (s.mem (.join f)+1)) 3 (Am.place C s (.join f)) 1 (s.mem (.join f)+1) true) (by show(1:Int)≠0;decide) rfl ?_
 show _=fF _ _
 unfold fF bB
 rw[show cJ _ (dc C 1 f 0 0).dK=some (Am.place C s (.join f))from sx h hz hf rfl,ai,pZ h hz hn (a:=.join f) hf (bz (by omega)),bf];rfl
theorem xN(h:AR C s M sz n)(hz:Am.SZ C s)(hn:n<=2000000000)(hf:f<C.F)(hb:o.cB=1)(hh:o.dK=f)(hv:-1000000000000<=s.mem (.join f)/\s.mem (.join f)<=1000000000000)(c:Int) :
 dN o M c=some (0,(if s.mem (.join f)-1=0 then o else {o with aD:=0,cC:=c,fz:=s.mem (.join f)-1}),nt M (M.cell.set (Am.place C s (.join f)).toNat (s.mem (.join f)-1)) 3 (Am.place C s (.join f)) (-1) (s.mem (.join f)-1) true):=by
 unfold dN bB
 rw[hh,sx (t:=⟨o.cB,o.dk⟩) h hz hf hb,ai,pZ h hz hn (a:=.join f) hf (v:=s.mem (.join f)-1) (by rw[bz (by omega)];omega),bf,au rfl]
 by_cases e:s.mem (.join f)-1=0
 ·rw[au e,au e]
 ·rw[aj e,aj e,ai]
theorem uP(h:AR C s M sz n)(hz:Am.SZ C s)(hn:n<=2000000000)(hf:f<C.F)(hb:o.cB=1)(hh:o.dK=f)(c:Int) :
 dB o M c=some (0,{o with aD:=0,cC:=c,fz:=0},nt M (M.cell.set (Am.place C s (.join f)).toNat 1) 1 (Am.place C s (.join f)) 1 0 true):=by
 unfold dB bB
 rw[hh,sx (t:=⟨o.cB,o.dk⟩) h hz hf hb,ai,jF h hz hn (a:=.join f) hf,bJ,au rfl,ai]
theorem zd(h:AR C s M sz n)(hz:Am.SZ C s)(hn:n<=2000000000)(hf:f<C.F)(hv:-1000000000000<=s.mem (.join f)/\s.mem (.join f)<=1000000000000) :
 bg M (dc C 3 f 0 0)=some ((if s.mem (.join f)-1=0 then {dc C 3 f 0 0 with aD:=2}else {dc C 3 f 0 0 with aD:=0,cC:=12,fz:=s.mem (.join f)-1}),nt M (M.cell.set (Am.place C s (.join f)).toNat (s.mem (.join f)-1)) 3 (Am.place C s (.join f)) (-1) (s.mem (.join f)-1) true):=by
 have e:=xN (o:=dc C 3 f 0 0) h hz hn hf rfl rfl hv 12
 have e2:dO (dc C 3 f 0 0) M=dN (dc C 3 f 0 0) M 12:=by unfold dO;rw[au (show(dc C 3 f 0 0).aD=1 from rfl),e,bf]
 have:=nE (o:=dc C 3 f 0 0) (M:=M) (by show(1:Int)≠0;decide) (e2.trans e) rfl
 rw[this]
 by_cases e:s.mem (.join f)-1=0
 ·rw[au e,au e,au (by show(1:Int)>0;decide)];rfl
 ·rw[aj e,aj e,aj (by show ¬(0:Int)>0;decide)]
theorem BZ(h:AR C s M sz n)(hz:Am.SZ C s)(hn:n<=2000000000)(hf:f<C.F){k:Nat}(hk:k<8)(v:Int) :
 bg M (dc C 2 f k v)=some ({dc C 2 f k v with aD:=2},nt M (M.cell.set (Am.place C s (.slot f k)).toNat v) 1 (Am.place C s (.slot f k)) v 0 true):=by
 have e:cI (dc C 2 f k v) M=some (0,dc C 2 f k v,nt M (M.cell.set (Am.place C s (.slot f k)).toNat v) 1 (Am.place C s (.slot f k)) v 0 true):=by
  unfold cI
  rw[au (show(dc C 2 f k v).aD=1 from rfl),show er _ (dc C 2 f k v).dK (dc C 2 f k v).slot=some (Am.place C s (.slot f k))from Al h hz hf hk rfl,ai,show(dc C 2 f k v).Ds=v from rfl,jF h hz hn (a:=.slot f k) ⟨hf,hk⟩,bJ]
 have:=nE (o:=dc C 2 f k v) (M:=M) (by show(1:Int)≠0;decide) e rfl
 rw[this,au (by show(1:Int)>0;decide)];rfl
theorem ze(h:AR C s M sz n)(hz:Am.SZ C s)(hn:n<=2000000000)(hf:f<C.F){k:Nat}(hk:k<8) :
 bg M (dc C 5 f k 0)=some ({dc C 5 f k 0 with aD:=0,cC:=15,fz:=s.mem (.slot f k)},nt M M.cell 0 (Am.place C s (.slot f k)) (s.mem (.slot f k)) 0 true):=by
 have e:fm (dc C 5 f k 0) M=some (0,{dc C 5 f k 0 with aD:=0,cC:=15,fz:=s.mem (.slot f k)},nt M M.cell 0 (Am.place C s (.slot f k)) (s.mem (.slot f k)) 0 true):=by
  unfold fm bB
  rw[show er _ (dc C 5 f k 0).dK (dc C 5 f k 0).slot=some (Am.place C s (.slot f k))from Al h hz hf hk rfl,ai,kO h hz hn (a:=.slot f k) ⟨hf,hk⟩,bf];rfl
 have:=nE (o:=dc C 5 f k 0) (M:=M) (by show(1:Int)≠0;decide) e rfl
 rw[this,aj (by show ¬(0:Int)>0;decide)]
theorem zg(h:AR C s M sz n)(hz:Am.SZ C s)(hn:n<=2000000000)(hv:0<=s.mem .next/\s.mem .next<=1000000000000) :
 bg M (dc C 0 0 0 0)=some ((if s.mem .next+1<=C.F then {dc C 0 0 0 0 with aD:=0,cC:=4,fz:=s.mem .next}else {dc C 0 0 0 0 with aD:=0,cC:=3,fz:=0}),nt M (M.cell.set (Am.place C s .next).toNat (s.mem .next+1)) 3 (Am.place C s .next) 1 (s.mem .next+1) true):=by
 have e:dY (dc C 0 0 0 0) M=some (0,(if s.mem .next+1<=C.F then {dc C 0 0 0 0 with aD:=0,cC:=4,fz:=s.mem .next}else {dc C 0 0 0 0 with aD:=0,cC:=3,fz:=0}),nt M (M.cell.set (Am.place C s .next).toNat (s.mem .next+1)) 3 (Am.place C s .next) 1 (s.mem .next+1) true):=by
  unfold dY iK bB
  rw[ai,show(⟨(dc C 0 0 0 0).cB,(dc C 0 0 0 0).dk⟩:aF).j1=Am.place C s .next from rfl,pZ h hz hn (a:=.next) trivial (bz (by omega)),bf,au rfl,iQ_,ai]
  by_cases e:s.mem .next+1<=C.F
  ·rw[au e,au (by show decide (s.mem .next+1<=(C.F:Int))=true;exact afC e),bz (by omega),show s.mem .next+1-1=s.mem .next by omega];rfl
  ·rw[aj e,aj (by show ¬decide (s.mem .next+1<=(C.F:Int))=true;simpa using e)];rfl
 have:=nE (o:=dc C 0 0 0 0) (M:=M) (by show(1:Int)≠0;decide) e rfl
 rw[this]
 by_cases e:s.mem .next+1<=C.F
 ·rw[au e,aj (by show ¬(0:Int)>0;decide)]
 ·rw[aj e,aj (by show ¬(0:Int)>0;decide)]
end
section
variable {K:Nat}{C:Am.dH}{p:ay}{s:Am.St}{S:af}{M M':ae}{sz n i f:Nat}{D:aA}{d:Int}{o':aV}
variable (b:j0 C p s S M sz n)(hi:i<C.N)
include b hi
theorem oD(hb:Am.busy (Am.sig (s.pc i))=true) :∃f,s.hold i=some f/\f<s.nf/\f<C.F/\(act S i).an=f:=by
 obtain⟨f,hh⟩:=Am.jE b.fi hi hb
 have h:=(Am.nr b.fi hi hh).2
 exact⟨f,hh,h,Nat.lt_of_lt_of_le h b.fi.RV,by rw[show(act S i).an=fi (s.hold i)from(b.dh.wk i hi).an,hh];rfl⟩
theorem vO:(⟨S.cU,S.cw⟩:aF)=⟨1,C.F⟩:=by rw[b.dh.tb,b.dh.tf]
theorem sy{a:aW}{c v:Int}(h1:bg M a.bA=some (o',M'))(h2:dr o'=some (c,v)):bQ (Ok S i a) M (i:Int)=some (c,v,Ok S i {a with bA:=o' },M'):=by
 unfold bQ OV MR
 rw[lG b hi,h1,bJ]
 simp only
 rw[h2,bJ,Zi]
 show some (_,_,({S with aa:=(S.aa.set i a).set i {a with bA:=o' }}:af),M')=_
 rw[agu];rfl
theorem xO{x:Int}(hp:s.pc i= .start x):cY C p sz n M (Am.step C s i d) (eA S M (i:Int) D):=by
 obtain⟨w1,w2,w3⟩:=b.dh.wk i hi
 obtain⟨f,hh,hn,hF,hfr⟩:=oD b hi (by rw[hp];rfl)
 rw[hp]at w3
 obtain⟨a1,a2⟩:=w3
 have hs:=abX b.ar b.z b.cN hF (b.rT rfl)
 have h:=sy b hi (a:={act S i with bA:=dc C 4 f 0 0}) hs (qP rfl rfl)
 unfold Am.step;rw[hp];simp only[hh,afk]
 refine .mk (a:={act S i with bA:={dc C 4 f 0 0 with aD:=0,cC:=14,fz:=s.mem (.mark f)+1},aJ:=1}) b hi ?_ w1 w2 rfl rfl (b.lR (c:=.mark f) rfl (by rw[hp];rfl) hF _ _ _ _ _) (Lg.nt rfl) (by show(1:Nat)≠0;decide)
 unfold eA nj OV MR
 rw[vO b hi,Zi,hfr,oC b.ok hF,ai,ai]
 rw[show({S with aa:=S.aa.set i {ag S.aa i with bA:=dc C 4 f 0 0}}:af)=Ok S i {act S i with bA:=dc C 4 f 0 0}from rfl,h,bZ,au rfl,au (by rw[da];exact b.lU hi),show ag (Ok S i _).aa i=_ from eN (b.wl hi)]
 show some ((⟨0,0,1,(act S i).an,(act S i).from_,s.mem (.mark f)+1⟩:ah),({S with aa:=(S.aa.set i _).set i _}:af),_)=_
 rw[agu]
 refine afr some (aeB ?_ rfl)
 show(⟨0,0,1,(act S i).an,(act S i).from_,s.mem (.mark f)+1⟩:ah)=_
 rw[hfr,show(act S i).from_=x from a2];rfl
theorem zh{c:Nat}(hp:s.pc i= .fork c):cY C p sz n M (Am.step C s i d) (eL S M (i:Int) D):=by
 obtain⟨w1,w2,w3⟩:=b.dh.wk i hi
 obtain⟨f,hh,hn,hF,hfr⟩:=oD b hi (by rw[hp];rfl)
 rw[hp]at w3
 obtain⟨a1,a2⟩:=w3
 have hs:=BX b.ar b.z b.cN hF (b.rT rfl)
 have h:=sy b hi (a:={act S i with bA:=dc C 1 f 0 0}) hs (qP rfl rfl)
 unfold Am.step;rw[hp];simp only[hh,afk]
 refine .mk (a:={act S i with bA:={dc C 1 f 0 0 with aD:=0,cC:=9,fz:=s.mem (.join f)+1},aG:=nA C 1 1 i c,aJ:=3}) b hi ?_ w1 w2 rfl ⟨rfl,a2,⟨rfl,rfl,rfl,rfl⟩,rfl⟩ (b.lR (c:=.join f) rfl (by rw[hp];rfl) hF _ _ _ _ _) (Lg.nt rfl) trivial
 unfold eL n9 OV MR
 rw[vO b hi,Zi,hfr,oC b.ok hF,ai,ai]
 rw[show({S with aa:=S.aa.set i {ag S.aa i with bA:=dc C 1 f 0 0}}:af)=Ok S i {act S i with bA:=dc C 1 f 0 0}from rfl,h,bZ,au rfl,au (by rw[da];exact b.lU hi),show ag (Ok S i _).aa i=_ from eN (b.wl hi)]
 unfold fG oS
 rw[au (by show aZ (act S i).bp S.dW.length;rw[show(act S i).bp=i from w1];exact⟨by omega,by rw[b.dh.dl];omega⟩),ai]
 rw[show ag (Ok S i _).dW (Int.toNat _)=rV C i from(by show ag S.dW (act S i).bp.toNat=_;rw[show(act S i).bp=i from w1,Zi];exact b.dh.dq i hi)]
 show bH (bH (PU 1 1 (rV C i) (act S i).ct) _) _=_
 rw[show PU 1 1 (rV C i) (act S i).ct=some (nA C 1 1 i c) by rw[show(act S i).ct=c from a2];exact mB b _ _ _ _,ai,ai]
 show some (_,({S with aa:=((S.aa.set i _).set i _).set i _}:af),_)=_
 rw[agu,agu];rfl
theorem vP{S0:af}{a:aW}(h0:S0=Ok S i a)(ha:a.bp=i)(M':ae):dV S0 M' (i:Int)=some (Ok S i {a with aG:=nA C 2 1 i 0,aJ:=8}):=by
 subst h0
 unfold dV fG nR OV MR
 rw[lG b hi,ha,au (by show aZ (i:Int) S.dW.length;exact⟨by omega,by rw[b.dh.dl];omega⟩),ai,Zi,show ag (Ok S i a).dW i=rV C i from b.dh.dq i hi,mB b,ai,ai]
 show some ({S with aa:=((S.aa.set i _).set i _).set i _}:af)=_
 rw[agu,agu,<-ha];rfl
end
def dz(S:af)(T:List aO):af:={S with ak:=T}
section
variable {K:Nat}{C:Am.dH}{p:ay}{s:Am.St}{S:af}{M M':ae}{sz n i f:Nat}{D:aA}{d:Int}{o':aV}{T:List aO}{a:aW}
variable (b:j0 C p s S M sz n)(hi:i<C.N)
include b hi
theorem jO:ag (Ok (dz S T) i a).aa (i:Int).toNat=a:=by rw[Zi];exact eN (b.wl hi)
theorem xP:aZ (i:Int) (Ok (dz S T) i a).aa.length:=by rw[da];exact b.lU hi
theorem RW{c v:Int}(h1:bg M a.bA=some (o',M'))(h2:dr o'=some (c,v)):bQ (Ok (dz S T) i a) M (i:Int)=some (c,v,Ok (dz S T) i {a with bA:=o' },M'):=by
 unfold bQ OV MR
 rw[jO b hi,h1,bJ]
 simp only
 rw[h2,bJ,Zi]
 show some (_,_,({S with ak:=T,aa:=(S.aa.set i a).set i {a with bA:=o' }}:af),M')=_
 rw[agu];rfl
theorem zi(ha:a.bp=i)(M':ae):dV (Ok (dz S T) i a) M' (i:Int)=some (Ok (dz S T) i {a with aG:=nA C 2 1 i 0,aJ:=8}):=by
 unfold dV fG nR OV MR
 rw[jO b hi,au (by rw[ha];show aZ (i:Int) S.dW.length;exact⟨by omega,by rw[b.dh.dl];omega⟩),ai]
 rw[show ag (Ok (dz S T) i a).dW a.bp.toNat=rV C i from(by rw[ha,Zi];exact b.dh.dq i hi),mB b,ai,ai,Zi]
 show some ({S with ak:=T,aa:=((S.aa.set i _).set i _).set i _}:af)=_
 rw[agu,agu];rfl
theorem xQ(h1:bg M a.bA=some (o',M'))(h2:o'.cB=1)(h3:o'.aD>0):bj (Ok (dz S T) i a) M (i:Int) D=some (mL none,Ok (dz S T) i {a with bA:=o' },M'):=by
 unfold bj OV MR
 rw[RW b hi h1 (xM h2 h3),bZ,au rfl];rfl
theorem vQ(h1:bg M a.bA=some (o',M'))(h2:o'.cB=1)(h3:o'.aD=0)(h4:o'.cC=13)(hf:a.an=f):bj (Ok (dz S T) i a) M (i:Int) D=some (mL (Am.ev 5 f 0 0),Ok (dz S T) i {a with bA:=o',aJ:=1},M'):=by
 unfold bj OV MR
 rw[RW b hi h1 (qP h2 h3),bZ,h4,aj (by decide),au rfl,au (xP b hi),jO b hi,jO b hi,Zi]
 show some ((⟨0,0,5,a.an,0,0⟩:ah),({S with ak:=T,aa:=(S.aa.set i _).set i _}:af),M')=_
 rw[agu]
 refine afr some (aeB ?_ rfl)
 show(⟨0,0,5,a.an,0,0⟩:ah)=_
 rw[hf];rfl
theorem vR(ha:a.bp=i)(h1:bg M a.bA=some (o',M'))(h2:o'.cB=1)(h3:o'.aD=0)(h4:o'.cC=12)(hf:a.an=f):bj (Ok (dz S T) i a) M (i:Int) D=some (mL (Am.ev 4 f 0 0),Ok (dz S T) i {a with bA:=o',an:=-1,aG:=nA C 2 1 i 0,aJ:=8},M'):=by
 unfold bj OV MR
 rw[RW b hi h1 (qP h2 h3),bZ,h4,aj (by decide),aj (by decide),au rfl,au (xP b hi),jO b hi,jO b hi,Zi]
 have e:({Ok (dz S T) i {a with bA:=o' }with aa:=(Ok (dz S T) i {a with bA:=o' }).aa.set i {({a with bA:=o' }:aW)with an:=-1}}:af)=Ok (dz S T) i {a with bA:=o',an:=-1}:=by
  show({S with ak:=T,aa:=(S.aa.set i _).set i _}:af)=_
  rw[agu];rfl
 rw[e,zi b hi (a:={a with bA:=o',an:=-1}) ha,ai]
 refine afr some (aeB ?_ rfl)
 show(⟨0,0,4,a.an,0,0⟩:ah)=_
 rw[hf];rfl
theorem tO:Ok (dz S S.ak) i (act S i)=S:=dg b hi
theorem tP(hp:s.pc i= .iF):cY C p sz n M (Am.step C s i d) (bj S M (i:Int) D):=by
 obtain⟨w1,w2,w3⟩:=b.dh.wk i hi
 obtain⟨f,hh,hn,hF,hfr⟩:=oD b hi (by rw[hp];rfl)
 rw[hp]at w3
 obtain⟨a1,t1,t2,t3,t4,t5⟩:=w3
 have t3:(act S i).bA.dK=f:=by rw[show(act S i).bA.dK=((act S i).an.toNat:Int)from t3,hfr];rfl
 have e:=uP (o:=(act S i).bA) b.ar b.z b.cN hF t1 t3 13
 have e2:dO (act S i).bA M=dB (act S i).bA M 13:=by
  unfold dO;rw[iM_ t4,e,bf]
 have hs:=nE (o:=(act S i).bA) (M:=M) (by rw[t4];decide) (e2.trans e) (by rw[t5];rfl)
 rw[aj (by show ¬(0:Int)>0;decide)]at hs
 have h:=vQ (D:=D) (T:=S.ak) (a:=act S i) b hi hs t1 rfl rfl hfr
 rw[tO b hi]at h
 unfold Am.step;rw[hp];simp only[hh,afk]
 exact .mk b hi h w1 w2 rfl rfl (b.lR (c:=.join f) rfl (by rw[hp];rfl) hF _ _ _ _ _) (Lg.nt rfl) (by show(5:Nat)≠0;decide)
theorem xR(h1:bg M (act S i).bA=some (o',M'))(h2:o'.cB=1)(h3:o'.aD=0)(h4:o'.cC=10):bV S M (i:Int) D=some (mL none,Ok S i {act S i with bA:=o',aG:=nA C 2 1 i 0,aJ:=8},M'):=by
 have w1:=(b.dh.wk i hi).self
 unfold bV OV MR
 rw[qJ h1 (qP h2 h3),bZ,h4,aj (by decide),au rfl,au (by rw[da];exact b.lU hi),vP b hi (a:={act S i with bA:=o' }) rfl w1,ai];rfl
theorem xS(h1:bg M (act S i).bA=some (o',M'))(h2:o'.cB=1)(h3:o'.aD=0)(h4:o'.cC=11)(hin:aZ (act S i).done S.ak.length):bV S M (i:Int) D=some ((⟨0,0,7,(ag S.ak (act S i).done.toNat).parent,(act S i).done,0⟩:ah),Ok S i {act S i with bA:=o',an:=(ag S.ak (act S i).done.toNat).parent,aJ:=1},M'):=by
 unfold bV bE OV MR
 rw[qJ h1 (qP h2 h3),bZ,h4,aj (by decide),aj (by decide),au rfl,au (by rw[da];exact b.lU hi),Zi,show ag (Ok S i {act S i with bA:=o' }).aa i={act S i with bA:=o' }from eN (b.wl hi)]
 rw[au (by exact hin),OU,au (by exact hin)]
 show some ((⟨0,0,7,(ag S.ak (act S i).done.toNat).parent,(act S i).done,0⟩:ah),({S with aa:=((S.aa.set i _).set i _).set i _}:af),_)=_
 rw[agu,agu];rfl
theorem acU{pp c:Nat}(hp:s.pc i= .out pp c):cY C p sz n M (Am.step C s i d) (bV S M (i:Int) D):=by
 obtain⟨w1,w2,w3⟩:=b.dh.wk i hi
 have hg:(Am.view s).g i= .out pp c:=by show Am.sig (s.pc i)=_;rw[hp];rfl
 obtain⟨q1,q2,q3,q4,q5,q6⟩:=b.fi.cx hi hg
 have hF:pp<C.F:=Nat.lt_of_lt_of_le q3 b.fi.RV
 rw[hp]at w3
 obtain⟨a1,a2,t1,t2,t3,t4,t5⟩:=w3
 have e:=xN (o:=(act S i).bA) b.ar b.z b.cN hF t1 t3 (b.rT rfl) 10
 have e2:cI (act S i).bA M=dN (act S i).bA M 10:=by
  unfold cI;rw[iM_ t4,au t4,e,bf]
 have hs:=nE (o:=(act S i).bA) (M:=M) (by rw[t4];decide) (e2.trans e) (by rw[t5];rfl)
 unfold Am.step;rw[hp];simp only
 by_cases h0:s.mem (.join pp)-1=0
 ·rw[au h0];rw[au h0,au (by rw[t4];decide)]at hs
  have hst:wi ((act S i).bA.aD+1)=3:=by rw[t4];rfl
  refine .mk (a:={act S i with bA:={(act S i).bA with aD:=wi ((act S i).bA.aD+1)}}) b hi ?_ w1 w2 rfl ⟨a1,a2,t1,t2,t3,hst,t5⟩ (b.lR (c:=.join pp) rfl (by rw[hp];rfl) hF _ _ _ _ _) (Lg.nt rfl) trivial
  unfold bV OV MR
  rw[qJ hs (xM t1 (by show wi ((act S i).bA.aD+1)>0;rw[hst];decide)),bZ,au rfl];rfl
 ·rw[aj h0];rw[aj h0,aj (by show ¬(0:Int)>0;decide)]at hs
  exact .mk b hi (xR b hi hs t1 rfl rfl) w1 w2 rfl ⟨rfl,⟨rfl,rfl,rfl,rfl⟩,rfl,rfl⟩ (b.lR (c:=.join pp) rfl (by rw[hp];rfl) hF _ _ _ _ _) (Lg.nt rfl) trivial
theorem zj{pp c:Nat}(hp:s.pc i= .take pp c):cY C p sz n M (Am.step C s i d) (bV S M (i:Int) D):=by
 obtain⟨w1,w2,w3⟩:=b.dh.wk i hi
 have hg:(Am.view s).g i= .take pp c:=by show Am.sig (s.pc i)=_;rw[hp];rfl
 obtain⟨q6,q2,q4⟩:=b.fi.tp i pp c hi hg
 have q3:pp<s.nf:=q4▸ b.fi.pr c q2
 have hF:pp<C.F:=Nat.lt_of_lt_of_le q3 b.fi.RV
 rw[hp]at w3
 obtain⟨a1,a2,t1,t2,t3,t4,t5⟩:=w3
 have e:=uP (o:=(act S i).bA) b.ar b.z b.cN hF t1 t3 11
 have e2:cI (act S i).bA M=dB (act S i).bA M 11:=by
  unfold cI;rw[iM_ t4,iM_ t4,e,bf]
 have hs:=nE (o:=(act S i).bA) (M:=M) (by rw[t4];decide) (e2.trans e) (by rw[t5];rfl)
 rw[aj (by show ¬(0:Int)>0;decide)]at hs
 have vS:(ag S.ak (act S i).done.toNat).parent=pp:=by
  rw[show(act S i).done=c from a2,Zi,(b.dh.tk c q2).par,aj q6];rw[show pp=(s.fr c).par from q4]
 have hin:aZ (act S i).done S.ak.length:=by rw[show(act S i).done=c from a2];exact b.task q2
 unfold Am.step;rw[hp];simp only
 refine .mk b hi ((xS b hi hs t1 rfl rfl hin).trans (afr some (aeB ?_ rfl))) w1 (by show(ag S.ak (act S i).done.toNat).parent=fi (Am.bq s.hold i (some pp) i);rw[vS,Am.aL];rfl) rfl rfl (b.lR (c:=.join pp) rfl (by rw[hp];rfl) hF _ _ _ _ _) (Lg.nt rfl) (by show(7:Nat)≠0;decide) (hh:=λj hj=>Am.aI hj)
 show(⟨0,0,7,(ag S.ak (act S i).done.toNat).parent,(act S i).done,0⟩:ah)=_
 rw[vS,show(act S i).done=c from a2];rfl
end
abbrev E0:ah:=⟨0,0,0,0,0,0⟩
section
variable {K:Nat}{C:Am.dH}{p:ay}{s:Am.St}{S:af}{M M':ae}{sz n i f:Nat}{D:aA}{d:Int}{T:List aO}{a:aW}
theorem cY.zk{o:Am.Out}{q:Am.Pc}{x:Int}{l:Bool}{r:Option (ah×af×ae)}(b:j0 C p s S M sz n)(hi:i<C.N)(hr:r=some (mL o.ev,{Ok (dz S T) i a with value:=x,left:=l},M'))
 (sg:a.bp=i) (hfr:a.an=fi (o.s.hold i)) (hq:o.s.pc=Am.bq s.pc i q) (HP:ph C i q (o.s.tries i) (o.s.cur i) o.s.base a) (har:AR C o.s M' sz (n+1)) (CE:Lg C o.s M M' o.acc) (qX:xx o.ev)
 (hT:T.length=C.F) (KV:∀g,g<o.s.nf->vw (o.s.fr g) g (GX.ag T g)) (hl:l=o.s.val.isSome) (hx:x=o.s.val.getD 0)
 (hh:∀j,j≠i->o.s.hold j=s.hold j:=by intros;rfl) (vx:o.s.tries=s.tries:=by rfl) (hc:o.s.cur=s.cur:=by rfl) (hb:o.s.base=s.base:=by rfl):cY C p sz n M o r:=by
 refine⟨_,_,hr,?_,har,CE,qX⟩
 have h:=b.dh
 have L0:=h.wl
 refine⟨h.code,h.res,h.tb,h.tf,h.lb,h.lw,h.dl,h.dq,hT,KV,by show(Ok (dz S T) i a).aa.length=_;rw[da];exact h.wl,λj hj => ?_,hl,hx⟩
 show Ed C o.s j (GX.ag (S.aa.set i a) j)
 by_cases e:j=i
 ·subst e;rw[eX (by omega),au rfl];exact⟨sg,hfr,by rw[hq,Am.aL];exact HP⟩
 ·rw[eX (by omega),aj e]
  obtain⟨w1,w2,w3⟩:=h.wk j hj
  have ep:o.s.pc j=s.pc j:=by rw[hq];exact Am.aI e
  exact⟨w1,by rw[hh j e];exact w2,by rw[ep,vx,hc,hb];exact w3⟩
theorem UA(b:j0 C p s S M sz n)(hf:f<s.nf){t:aO}{y:Am.Fr}(ht:vw y f t):∀g,g<s.nf->vw (Am.bq s.fr f y g) g (GX.ag (S.ak.set f t) g):=λg hg=>by
 have hl:=b.dh.tl
 have hn:s.nf<=C.F:=b.fi.RV
 rw[eX (by omega),Am.bM]
 by_cases e:g=f
 ·subst e;rw[au rfl,au rfl];exact ht
 ·rw[aj e,aj e];exact b.dh.tk g hg
def jW(S:af)(M:ae)(i:Nat)(D:aA)(f:Nat)(ci:bC)(t:aO):Option (ah×af×ae):=
 let fr:Int:=f
 if ci.aQ=0 then if aZ ci.A 16 then some (E0,dz S ((S.ak.set f t).set f ({t with bK:=kI 16 t.bK ci.A.toNat ci.K})),M)else none
 else if ci.aQ=1 then if aZ ci.B 16 then if aZ ci.A 16 then some (E0,dz S ((S.ak.set f t).set f ({t with bK:=kI 16 t.bK ci.A.toNat (GX.ag t.bK ci.B.toNat)})),M)else none else none
 else if ci.aQ=2 then if aZ ci.B 16 then if aZ ci.C 16 then iQ (j9 ci.K (GX.ag t.bK ci.B.toNat) (GX.ag t.bK ci.C.toNat)) (λnN ug=>if aZ ci.A 16 then some (E0,dz S ((S.ak.set f t).set f ({t with bK:=kI 16 t.bK ci.A.toNat nN})),M)else none)else none else none
 else if ci.aQ=3 then some (E0,dz S ((S.ak.set f t).set f ({t with ag:=ci.A})),M)
 else if ci.aQ=4 then if aZ ci.A 16 then(if(GX.ag t.bK ci.A.toNat)=0 then some (E0,dz S (S.ak.set f t),M)else some (E0,dz S ((S.ak.set f t).set f ({t with ag:=ci.B})),M))else none
 else if ci.aQ=8 then if aZ ci.A 16 then some (E0,dz S ((S.ak.set f t).set f ({t with bK:=kI 16 t.bK ci.A.toNat t.gH})),M)else none
 else if ci.aQ=7 then bH (lz (⟨S.cU,S.cw⟩:aF) fr ci.B) (λHf=>pQ (bQ (Ok (dz S (S.ak.set f t)) i {act S i with bA:=Hf}) M (i:Int)) (λHg Cs sX Bs=>(if Hg=15 then if aZ fr sX.ak.length then if aZ ci.A 16 then some (E0,{sX with ak:=sX.ak.set f ({GX.ag sX.ak f with bK:=kI 16 (GX.ag sX.ak f).bK ci.A.toNat Cs})},Bs)else none else none else if aZ (i:Int) sX.aa.length then iQ (NA sX Bs (i:Int)) (λDL DM=>some (DL,DM,Bs))else none)))
 else if ci.aQ=5 then gh (fe (dz S (S.ak.set f t)) M (i:Int) ci) (λBk wY Bl=>some (Bk,wY,Bl))
 else if ci.aQ=6 then bH (mo (⟨S.cU,S.cw⟩:aF) fr) (λDN=>gh (bj ({S with ak:=S.ak.set f t,aa:=(S.aa.set i ({act S i with bA:=DN})).set i ({({act S i with bA:=DN}:aW)with aJ:=5})}) M (i:Int) D) (λFW Bt Ab=>some (FW,Bt,Ab)))
 else if aZ ci.A 16 then gh (ff (dz S (S.ak.set f t)) M (i:Int) (GX.ag t.bK ci.A.toNat)) (λHh Hj Hl=>some (Hh,Hj,Hl))else none
variable (b:j0 C p s S M sz n)(hi:i<C.N)
include b hi
structure CB(p:ay)(C:Am.dH)(s:Am.St)(S:af)(i f:Nat)(ci:bC)(t:aO):Prop where
 hh:s.hold i=some f
 hn:f<s.nf
 hF:f<C.F
 fr:(act S i).an=f
 fn:(s.fr f).fn<p.aB.length
 ag:(s.fr f).ag<512
 ok:uz p (GX.ag p.aB (s.fr f).fn) ci
 sH:qW (GX.ag p.aB (s.fr f).fn)
 kd:0<=ci.aQ/\ci.aQ<10
 code:C.code (s.fr f).fn (s.fr f).ag=jZ ci
 t:vw {s.fr f with ag:=(s.fr f).ag+1} f t
theorem abY(hp:s.pc i= .run) :∃f ci t,CB p C s S i f ci t/\eV S M (i:Int) D=jW S M i D f ci t:=by
 obtain⟨f,hh,hn,hF,hfr⟩:=oD b hi (by rw[hp];rfl)
 obtain⟨r1,r2,r3⟩:=b.fr f hn
 have r3:=r3 (Am.nr b.fi hi hh).1
 have cf:=b.cf
 have e1:C.Ae=p.aB.length:=by rw[cf];rfl
 have e2:C.len (s.fr f).fn=(GX.ag p.aB (s.fr f).fn).Code.length:=by rw[cf];rfl
 have e3:C.code (s.fr f).fn (s.fr f).ag=jZ (GX.ag (GX.ag p.aB (s.fr f).fn).Code (s.fr f).ag):=by rw[cf];rfl
 rw[e1]at r1;rw[e2]at r3
 have hs:=b.vd.sH _ r1
 have hc:=b.vd.code _ r1
 have c5:=hs.qk
 have hk:=(Code.snd hs hc).kind ((s.fr f).ag:Int) (by omega) (by omega)
 rw[Zi]at hk
 have ht:=b.dh.tk f hn
 have h1:aZ (act S i).an S.ak.length:=by rw[hfr];exact b.task hn
 have h2:aZ (GX.ag S.ak (act S i).an.toNat).fn S.code.length:=by rw[hfr,Zi,ht.fn,b.dh.code];exact⟨by omega,by omega⟩
 have h3:aZ (GX.ag S.ak (act S i).an.toNat).ag (GX.ag S.code (GX.ag S.ak (act S i).an.toNat).fn.toNat).Code.length:=by rw[hfr,Zi,ht.fn,ht.ag,b.dh.code,Zi];exact⟨by omega,by omega⟩
 refine⟨f,GX.ag (GX.ag p.aB (s.fr f).fn).Code (s.fr f).ag,{GX.ag S.ak f with ag:=wi ((GX.ag S.ak f).ag+1)},⟨hh,hn,hF,hfr,r1,by omega,hc.ins _ r3,hs,hk,e3,⟨ht.fn,by show wi ((GX.ag S.ak f).ag+1)=_;rw[ht.ag,bz (by omega)];rfl,ht.par,ht.slot,ht.aR,ht.gH,ht.bK⟩⟩,?_⟩
 have KW:GX.ag (GX.ag S.code (GX.ag S.ak f).fn.toNat).Code (GX.ag S.ak f).ag.toNat=GX.ag (GX.ag p.aB (s.fr f).fn).Code (s.fr f).ag:=by rw[ht.fn,ht.ag,b.dh.code,Zi,Zi]
 unfold eV bE agf acD agd aa9 OV MT MR
 rw[Zi,au h1,OU,au h1,au h2,au h3]
 have Ie:(GX.ag S.aa i).an=(f:Int):=hfr
 rw[Ie,Zi,KW]
 rfl
end
theorem WV(r:Nat):ag (List.replicate 16 (0:Int)) r=0:=by
 unfold ag;rw[List.getD_eq_getElem?_getD,List.getElem?_replicate];split<;>rfl
theorem vw.qD{x:Am.Fr}{f A:Nat}{t:aO}(h:vw x f t)(v:Int):vw {x with bK:=Am.bq x.bK A v} f {t with bK:=kI 16 t.bK A v}:=
 ⟨h.fn,h.ag,h.par,h.slot,h.aR,h.gH,λr hr=>by show GX.ag (kI 16 t.bK A v) r=Am.bq x.bK A v r;rw[uM hr,Am.bM,h.bK r hr]⟩
section
variable {K:Nat}{C:Am.dH}{p:ay}{s:Am.St}{S:af}{M M':ae}{sz n i f:Nat}{D:aA}{d:Int}{T:List aO}{a:aW}{ci:bC}{t:aO}
theorem vT(b:j0 C p s S M sz n)(hi:i<C.N):Ok (dz S T) i (act S i)=dz S T:=by
 have:=dg b hi
 show({S with ak:=T,aa:=S.aa.set i (act S i)}:af)=_
 have e:S.aa.set i (act S i)=S.aa:=afr (·.aa) this
 rw[e];rfl
variable (b:j0 C p s S M sz n)(hi:i<C.N)(I:CB p C s S i f ci t)(hp:s.pc i= .run)
include b hi I hp
theorem lH{y:Am.Fr}{t2:aO}{o:Am.Out}{r:Option (ah×af×ae)}(hr:r=some (E0,dz S (S.ak.set f t2),M))(ho:o=⟨s.lay f y,none,none⟩)(ht:vw y f t2):cY C p sz n M o r:=by
 subst ho
 obtain⟨w1,w2,w3⟩:=b.dh.wk i hi
 rw[hp]at w3
 refine cY.zk (T:=S.ak.set f t2) (a:=act S i) (x:=S.value) (l:=S.left) (q:=.run) b hi (by rw[hr,vT b hi];rfl) w1 w2 (by rw[<-hp,Am.gq];rfl) w3 (b.ar.keep rfl rfl rfl rfl) Lg.none_ trivial (by rw[acG];exact b.dh.tl) (UA b I.hn ht) b.dh.left b.dh.val
theorem hH:Am.step C s i d=Am.instr C s i:=by unfold Am.step;rw[hp]
theorem kP{A:Int}(h:jC A (GX.ag p.aB (s.fr f).fn).dA=true):aZ A 16/\A.toNat<16:=by
 have h1:=mY h;have h2:=I.sH.r16;exact⟨⟨by omega,by omega⟩,by omega⟩
theorem tQ{t2:aO}:(S.ak.set f t).set f t2=S.ak.set f t2:=agu ..
theorem EC(k:ci.aQ=0):cY C p sz n M (Am.step C s i d) (jW S M i D f ci t):=by
 have ok:=I.ok.1
 unfold gD at ok;rw[au (.inl k)]at ok
 obtain⟨r1,r2⟩:=kP b hi I hp ok
 refine lH b hi I hp (t2:={t with bK:=kI 16 t.bK ci.A.toNat ci.K}) ?_ ?_ (I.t.qD ci.K)
 ·unfold jW;simp only;rw[au k,au r1,tQ b hi I hp]
 ·rw[hH b hi I hp];unfold Am.instr;simp only[I.hh,afk];rw[I.code];unfold jZ;rw[au k]
theorem ED(k:ci.aQ=1):cY C p sz n M (Am.step C s i d) (jW S M i D f ci t):=by
 have ok:=I.ok.1
 unfold gD at ok;rw[iO_,au k,aec]at ok
 obtain⟨r1,r2⟩:=kP b hi I hp ok.1
 obtain⟨q1,q2⟩:=kP b hi I hp ok.2
 refine lH b hi I hp (t2:={t with bK:=kI 16 t.bK ci.A.toNat (GX.ag t.bK ci.B.toNat)}) ?_ ?_ (I.t.qD _)
 ·unfold jW;simp only;rw[iO_,au k,au q1,au r1,tQ b hi I hp]
 ·rw[hH b hi I hp];unfold Am.instr;simp only[I.hh,afk];rw[I.code];unfold jZ;rw[iO_,au k,I.t.bK _ q2]
theorem EE(k:ci.aQ=2):cY C p sz n M (Am.step C s i d) (jW S M i D f ci t):=by
 have ok:=I.ok.1
 unfold gD at ok;rw[iO_,iO_,au k,aec,aec,aec]at ok
 obtain⟨r1,r2⟩:=kP b hi I hp ok.1.1.1
 obtain⟨q1,q2⟩:=kP b hi I hp ok.1.1.2
 obtain⟨u1,u2⟩:=kP b hi I hp ok.1.2
 have ko:=mY ok.2
 have hap:C.ap=Eb:=by rw[b.cf];rfl
 refine lH b hi I hp (t2:={t with bK:=kI 16 t.bK ci.A.toNat (Eb ci.K (GX.ag t.bK ci.B.toNat) (GX.ag t.bK ci.C.toNat))}) ?_ ?_ (I.t.qD _)
 ·unfold jW;simp only;rw[iO_,iO_,au k,au q1,au u1,xn ko.1 ko.2,bJ,au r1,tQ b hi I hp]
 ·rw[hH b hi I hp];unfold Am.instr;simp only[I.hh,afk];rw[I.code];unfold jZ;rw[iO_,iO_,au k,I.t.bK _ q2,I.t.bK _ u2,hap]
theorem EF(k:ci.aQ=3):cY C p sz n M (Am.step C s i d) (jW S M i D f ci t):=by
 have ok:=I.ok.1
 unfold gD at ok;rw[iO_,iO_,iO_,au k]at ok
 have h1:=mY ok
 refine lH b hi I hp (y:={s.fr f with ag:=ci.A.toNat}) (t2:={t with ag:=ci.A}) ?_ ?_ ⟨I.t.fn,by show ci.A=((ci.A.toNat:Nat):Int);omega,I.t.par,I.t.slot,I.t.aR,I.t.gH,I.t.bK⟩
 ·unfold jW;simp only;rw[iO_,iO_,iO_,au k,tQ b hi I hp]
 ·rw[hH b hi I hp];unfold Am.instr;simp only[I.hh,afk];rw[I.code];unfold jZ;rw[iO_,iO_,iO_,au k]
theorem EG(k:ci.aQ=4):cY C p sz n M (Am.step C s i d) (jW S M i D f ci t):=by
 have ok:=I.ok.1
 unfold gD at ok;rw[iO_,iO_,iO_,iO_,au k,aec]at ok
 obtain⟨r1,r2⟩:=kP b hi I hp ok.1
 have h1:=mY ok.2
 by_cases e:(s.fr f).bK ci.A.toNat=0
 ·refine lH b hi I hp (y:={s.fr f with ag:=(s.fr f).ag+1}) (t2:=t) ?_ ?_ I.t
  ·unfold jW;simp only;rw[iO_,iO_,iO_,iO_,au k,au r1,au (by rw[I.t.bK _ r2];exact e)]
  ·rw[hH b hi I hp];unfold Am.instr;simp only[I.hh,afk];rw[I.code];unfold jZ;rw[iO_,iO_,iO_,iO_,au k];simp only;rw[aj (by simpa using e)]
 ·refine lH b hi I hp (y:={s.fr f with ag:=ci.B.toNat}) (t2:={t with ag:=ci.B}) ?_ ?_ ⟨I.t.fn,by show ci.B=((ci.B.toNat:Nat):Int);omega,I.t.par,I.t.slot,I.t.aR,I.t.gH,I.t.bK⟩
  ·unfold jW;simp only;rw[iO_,iO_,iO_,iO_,au k,au r1,aj (by rw[I.t.bK _ r2];exact e),tQ b hi I hp]
  ·rw[hH b hi I hp];unfold Am.instr;simp only[I.hh,afk];rw[I.code];unfold jZ;rw[iO_,iO_,iO_,iO_,au k];simp only;rw[au e]
theorem EH(k:ci.aQ=8):cY C p sz n M (Am.step C s i d) (jW S M i D f ci t):=by
 have ok:=I.ok.1
 unfold gD at ok;rw[au (.inr (.inl k))]at ok
 obtain⟨r1,r2⟩:=kP b hi I hp ok
 refine lH b hi I hp (t2:={t with bK:=kI 16 t.bK ci.A.toNat t.gH}) ?_ ?_ (I.t.qD _)
 ·unfold jW;simp only;rw[iO_,iO_,iO_,iO_,iO_,au k,au r1,tQ b hi I hp]
 ·rw[hH b hi I hp];unfold Am.instr;simp only[I.hh,afk];rw[I.code];unfold jZ;rw[iO_,iO_,iO_,iO_,iO_,iO_,iO_,iO_,au k,I.t.gH]
theorem xT:GX.ag (S.ak.set f t) f=t:=by
 have h:=b.dh.tl;have hF:=I.hF;rw[eX (by omega),au rfl]
theorem EI:aZ (f:Int) (S.ak.set f t).length:=by rw[acG];exact b.task I.hn
theorem EJ(k:ci.aQ=7):cY C p sz n M (Am.step C s i d) (jW S M i D f ci t):=by
 obtain⟨w1,w2,w3⟩:=b.dh.wk i hi
 rw[hp]at w3
 have ok:=I.ok.1
 unfold gD at ok;rw[iO_,iO_,iO_,iO_,iO_,iO_,iO_,au k,aec]at ok
 obtain⟨r1,r2⟩:=kP b hi I hp ok.1
 have h1:=mY ok.2
 have s8:=I.sH.s8
 obtain⟨B,hB⟩ :∃B:Nat,ci.B=B:=⟨ci.B.toNat,by omega⟩
 have Jy:B<8:=by omega
 have hs:=ze b.ar b.z b.cN I.hF Jy
 have h:=RW (T:=S.ak.set f t) b hi (a:={act S i with bA:=dc C 5 f B 0}) hs (qP rfl rfl)
 have hst:Am.step C s i d=⟨s.lay f {s.fr f with ag:=(s.fr f).ag+1,bK:=Am.bq (s.fr f).bK ci.A.toNat (s.mem (.slot f B))},none,Am.fX (.slot f B) (s.mem (.slot f B))⟩:=by
  rw[hH b hi I hp];unfold Am.instr;simp only[I.hh,afk];rw[I.code];unfold jZ;rw[iO_,iO_,iO_,iO_,iO_,iO_,iO_,au k,hB,Zi]
 rw[hst]
 refine cY.zk (M':=nt M M.cell 0 (Am.place C s (.slot f B)) (s.mem (.slot f B)) 0 true) (T:=S.ak.set f {t with bK:=kI 16 t.bK ci.A.toNat (s.mem (.slot f B))}) (a:={act S i with bA:={dc C 5 f B 0 with aD:=0,cC:=15,fz:=s.mem (.slot f B)}}) (x:=S.value) (l:=S.left) (q:=.run) b hi ?_ w1 w2 (by show s.pc=_;rw[<-hp,Am.gq]) w3 (b.ar.same (s':=s.lay f {s.fr f with ag:=(s.fr f).ag+1,bK:=Am.bq (s.fr f).bK ci.A.toNat (s.mem (.slot f B))}) rfl rfl rfl rfl _ _ _ _ _) (Lg.nt rfl) trivial (by rw[acG];exact b.dh.tl) (UA b I.hn (I.t.qD _)) b.dh.left b.dh.val
 unfold jW lz;simp only
 rw[iO_,iO_,iO_,iO_,iO_,iO_,au k,vO b hi,hB,tN b.ok I.hF Jy,ai,ai,h,bZ,au rfl]
 rw[au (by exact EI b hi I hp),au r1]
 rw[show(Ok (dz S (S.ak.set f t)) i _).ak=S.ak.set f t from rfl,xT b hi I hp,tQ b hi I hp];rfl
theorem EK(k:ci.aQ=6):cY C p sz n M (Am.step C s i d) (jW S M i D f ci t):=by
 obtain⟨w1,w2,w3⟩:=b.dh.wk i hi
 have J:=b.fi.jn f I.hn
 have hl:s.loc f= .Q5 i∨s.loc f= .held i:=(b.fi.hold i f hi I.hh).elim (λa=>.inl a.2) (λa=>.inr a.2)
 have L1:0<=s.mem (.join f)-1:=by
  have hg:(Am.view s).g i= .run:=by show Am.sig (s.pc i)=_;rw[hp];rfl
  rcases b.fi.hold i f hi I.hh with h | h
  ·rw[hg]at h;exact absurd h.1 (by simp)
  ·rw[h.2]at J;change s.mem (.join f)=1+(((s.aR f).length:Nat):Int)at J;omega
 have hs:=zd b.ar b.z b.cN I.hF (b.rT rfl)
 have hst:Am.step C s i d=(if 0<s.mem (.join f)-1 then⟨((((s.wr (.join f) (s.mem (.join f)-1)).lay f {s.fr f with ag:=(s.fr f).ag+1}).holds i none).to i .oV).put f .waiting,Am.ev 4 f 0 0,Am.mK (.join f) (-1) (s.mem (.join f)-1)⟩
  else ⟨((((s.wr (.join f) (s.mem (.join f)-1)).lay f {s.fr f with ag:=(s.fr f).ag+1}).to i .iF).put f (.Q5 i)),none,Am.mK (.join f) (-1) (s.mem (.join f)-1)⟩):=by
  rw[hH b hi I hp];unfold Am.instr;simp only[I.hh,afk];rw[I.code];unfold jZ;rw[iO_,iO_,iO_,iO_,iO_,iO_,au k]
 have hr:jW S M i D f ci t=bj (Ok (dz S (S.ak.set f t)) i {act S i with bA:=dc C 3 f 0 0,aJ:=5}) M (i:Int) D:=by
  unfold jW mo;simp only
  rw[iO_,iO_,iO_,iO_,iO_,iO_,iO_,iO_,au k,vO b hi,oC b.ok I.hF,ai,ai,agu]
  show gh (bj (Ok (dz S (S.ak.set f t)) i {act S i with bA:=dc C 3 f 0 0,aJ:=5}) M (i:Int) D) _=_
  cases bj (Ok (dz S (S.ak.set f t)) i {act S i with bA:=dc C 3 f 0 0,aJ:=5}) M (i:Int) D<;>rfl
 rw[hr,hst]
 by_cases h0:0<s.mem (.join f)-1
 ·rw[au h0]
  rw[iO_]at hs
  refine cY.zk (T:=S.ak.set f t) (x:=S.value) (l:=S.left) (q:=.oV) b hi (vR b hi (a:={act S i with bA:=dc C 3 f 0 0,aJ:=5}) w1 hs rfl rfl rfl I.fr) w1 (by show(-1:Int)=fi (Am.bq s.hold i none i);rw[Am.aL];rfl) rfl ⟨rfl,⟨rfl,rfl,rfl,rfl⟩,rfl,rfl⟩ (b.lR (c:=.join f) rfl (by rw[hp];rfl) I.hF _ _ _ _ _) (Lg.nt rfl) (by show(4:Nat)≠0;decide) (by rw[acG];exact b.dh.tl) (UA b I.hn I.t) b.dh.left b.dh.val (hh:=λj hj=>Am.aI hj)
 ·rw[aj h0]
  rw[iQ_]at hs
  refine cY.zk (T:=S.ak.set f t) (x:=S.value) (l:=S.left) (q:=.iF) b hi (xQ b hi (a:={act S i with bA:=dc C 3 f 0 0,aJ:=5}) hs rfl (by show(2:Int)>0;decide)) w1 w2 rfl ⟨rfl,rfl,rfl,?_,rfl,rfl⟩ (b.lR (c:=.join f) rfl (by rw[hp];rfl) I.hF _ _ _ _ _) (Lg.nt rfl) trivial (by rw[acG];exact b.dh.tl) (UA b I.hn I.t) b.dh.left b.dh.val
  show(f:Int)=(((act S i).an.toNat:Nat):Int);rw[I.fr];rfl
end
def acV(C:Am.dH)(i:Nat):aX:=⟨2+10*(C.F:Int),C.N,i,4,10,1,0,0,0,List.replicate 64 ⟨0,0⟩,⟨0,0,0,0,0,0,0,0,0,0,0,0,0,false,0,0⟩⟩
section
variable {K:Nat}{C:Am.dH}{p:ay}{s:Am.St}{S:af}{M M':ae}{sz n i f:Nat}{D:aA}{d:Int}{T:List aO}{a:aW}{ci:bC}{t:aO}
theorem vU(b:j0 C p s S M sz n)(hi:i<C.N):jL (⟨S.dM,S.bT⟩:bU) (i:Int)=some (acV C i):=by
 have h1:=b.ok.n1;have h2:=b.ok.n64
 unfold jL fA fc Wu Pk
 rw[b.dh.lb,b.dh.lw]
 simp only
 rw[iO_,iO_,ai,bz (x:=2+(C.N:Int)) (by omega),iQ_,iQ_,afC (by omega),ai,au rfl];rfl
variable (b:j0 C p s S M sz n)(hi:i<C.N)(I:CB p C s S i f ci t)(hp:s.pc i= .run)
include b hi I hp
theorem sA:aZ (act S i).an (S.ak.set f t).length:=by rw[I.fr];exact EI b hi I hp
theorem EL(k:ci.aQ=9):cY C p sz n M (Am.step C s i d) (jW S M i D f ci t):=by
 obtain⟨w1,w2,w3⟩:=b.dh.wk i hi
 have ok:=I.ok.1
 unfold gD at ok;rw[au (.inr (.inr k))]at ok
 obtain⟨r1,r2⟩:=kP b hi I hp ok
 obtain⟨v,hv⟩ :∃v,v=(s.fr f).bK ci.A.toNat:=⟨_,rfl⟩
 have hst:Am.step C s i d=(if f=0 then⟨{((((s.lay f {s.fr f with ag:=(s.fr f).ag+1}).wr .result v).holds i none).to i .done).put 0 (.fin i)with val:=some v},Am.ev 6 0 (-1) v,Am.iq .result v⟩
  else ⟨((((s.lay f {s.fr f with ag:=(s.fr f).ag+1}).wr (.slot (s.fr f).par (s.fr f).slot) v).holds i none).to i (.out (s.fr f).par f)).put f (.fin i),Am.ev 6 f (s.fr f).par v,Am.iq (.slot (s.fr f).par (s.fr f).slot) v⟩):=by
  rw[hH b hi I hp];unfold Am.instr;simp only[I.hh,afk];rw[I.code];unfold jZ;rw[iO_,iO_,iO_,iO_,iO_,iO_,iO_,iO_,iO_,hv]
 have hin:=sA b hi I hp
 have hgt:GX.ag (S.ak.set f t) (act S i).an.toNat=t:=by rw[I.fr,Zi];exact xT b hi I hp
 have hr:jW S M i D f ci t=ff (dz S (S.ak.set f t)) M (i:Int) v:=by
  unfold jW;simp only
  rw[iO_,iO_,iO_,iO_,iO_,iO_,iO_,iO_,iO_,au r1,I.t.bK _ r2,hv]
  cases ff (dz S (S.ak.set f t)) M (i:Int) _<;>rfl
 rw[hr]
 unfold ff bE OV MT MR
 rw[Zi,au (by exact hin),OU,au (by exact hin),hst]
 by_cases h0:f=0
 ·rw[au h0,au (by show(act S i).an=0;rw[I.fr,h0];rfl)]
  have Ig:=jF b.ar b.z b.cN (a:=.result) trivial v
  have EM:bt M (dz S (S.ak.set f t)).result v=some (0,nt M (M.cell.set (Am.place C s .result).toNat v) 1 (Am.place C s .result) v 0 true):=by rw[show(dz S (S.ak.set f t)).result=Am.place C s .result from b.dh.res];exact Ig
  rw[EM,bJ,au rfl]
  have KX:jL (⟨(dz S (S.ak.set f t)).dM,(dz S (S.ak.set f t)).bT⟩:bU) (ag (dz S (S.ak.set f t)).aa i).bp=some (acV C i):=by
   show jL (⟨S.dM,S.bT⟩:bU) (act S i).bp=_;rw[show(act S i).bp=i from w1];exact vU b hi
  rw[KX,ai]
  refine cY.zk (T:=S.ak.set f t) (a:={act S i with Nf:=acV C i,an:=-1,aJ:=7}) (x:=v) (l:=true) (q:=.done) b hi ?_ w1 (by show(-1:Int)=fi (Am.bq s.hold i none i);rw[Am.aL];rfl) rfl ⟨rfl,rfl,rfl,rfl,rfl,rfl,rfl⟩ (b.lR (c:=.result) rfl (by rw[hp];rfl) trivial _ _ _ _ _) (Lg.nt rfl) (by show(6:Nat)≠0;decide) (by rw[acG];exact b.dh.tl) (UA b I.hn I.t) rfl rfl (hh:=λj hj=>Am.aI hj)
  show some ((⟨0,0,6,0,-1,v⟩:ah),({S with ak:=S.ak.set f t,aa:=((S.aa.set i _).set i _).set i _,value:=v,left:=true}:af),_)=_
  rw[agu,agu];rfl
 ·rw[aj h0,aj (by show ¬(act S i).an=0;rw[I.fr];omega)]
  have hfr:=b.fr f I.hn
  have KY:(s.fr f).par<s.nf:=b.fi.pr f I.hn
  have Ih:(s.fr f).par<C.F:=Nat.lt_of_lt_of_le KY b.fi.RV
  have hs:=BZ b.ar b.z b.cN Ih hfr.2.1 v
  have htb:=RW (T:=S.ak.set f t) b hi (a:={act S i with bA:=dc C 2 (s.fr f).par (s.fr f).slot v}) hs (xM rfl (by show(2:Int)>0;decide))
  have KZ:kK (⟨(dz S (S.ak.set f t)).cU,(dz S (S.ak.set f t)).cw⟩:aF) (ag (dz S (S.ak.set f t)).ak (ag (dz S (S.ak.set f t)).aa i).an.toNat).parent (ag (dz S (S.ak.set f t)).ak (ag (dz S (S.ak.set f t)).aa i).an.toNat).slot v=some (dc C 2 (s.fr f).par (s.fr f).slot v):=by
   have Ii:ag (dz S (S.ak.set f t)).ak (ag (dz S (S.ak.set f t)).aa i).an.toNat=t:=hgt
   rw[Ii,I.t.par,I.t.slot,aj h0]
   unfold kK
   rw[show(⟨(dz S (S.ak.set f t)).cU,(dz S (S.ak.set f t)).cw⟩:aF)=⟨1,C.F⟩from(show(⟨S.cU,S.cw⟩:aF)=⟨1,C.F⟩from vO b hi),tN b.ok Ih hfr.2.1,ai]
  rw[KZ,ai]
  rw[show({dz S (S.ak.set f t)with aa:=(dz S (S.ak.set f t)).aa.set i {ag (dz S (S.ak.set f t)).aa i with bA:=dc C 2 (s.fr f).par (s.fr f).slot v}}:af)=Ok (dz S (S.ak.set f t)) i {act S i with bA:=dc C 2 (s.fr f).par (s.fr f).slot v}from rfl,htb,bZ,au rfl,au (xP b hi)]
  rw[show ag (Ok (dz S (S.ak.set f t)) i {act S i with bA:={dc C 2 (s.fr f).par (s.fr f).slot v with aD:=2}}).aa i={act S i with bA:={dc C 2 (s.fr f).par (s.fr f).slot v with aD:=2}}from eN (b.wl hi)]
  refine cY.zk (T:=S.ak.set f t) (a:={act S i with bA:={dc C 2 (s.fr f).par (s.fr f).slot v with aD:=2},an:=-1,done:=(act S i).an,aJ:=6}) (x:=S.value) (l:=S.left) (q:=.out (s.fr f).par f) b hi ?_ w1 (by show(-1:Int)=fi (Am.bq s.hold i none i);rw[Am.aL];rfl) rfl ⟨rfl,I.fr,rfl,rfl,rfl,rfl,rfl⟩ (b.lR (c:=.slot (s.fr f).par (s.fr f).slot) rfl (by rw[hp];rfl) ⟨Ih,hfr.2.1⟩ _ _ _ _ _) (Lg.nt rfl) (by show(6:Nat)≠0;decide) (by rw[acG];exact b.dh.tl) (UA b I.hn I.t) b.dh.left b.dh.val (hh:=λj hj=>Am.aI hj)
  show some ((⟨0,0,6,(act S i).an,(GX.ag (S.ak.set f t) (act S i).an.toNat).parent,v⟩:ah),({S with ak:=S.ak.set f t,aa:=(((S.aa.set i _).set i _).set i _).set i _}:af),_)=_
  rw[agu,agu,agu]
  refine afr some (aeB ?_ rfl)
  show(⟨0,0,6,(act S i).an,(GX.ag (S.ak.set f t) (act S i).an.toNat).parent,v⟩:ah)=_
  rw[hgt,I.t.par,I.fr,aj h0];rfl
def uQ(L:List aO)(k:Nat):List aO:=L.set k {GX.ag L k with aR:=wi ((GX.ag L k).aR+1)}
def UB(ci:bC)(f:Nat)(pd:Int):aO:=⟨ci.B,0,(f:Int),ci.A,0,pd,List.replicate 16 (0:Int)⟩
theorem sB{A B Cc:Nat}{ot:aO}(hk:vw (Am.dQ C (s.fr f) f A B Cc) s.nf ot)(hlt:s.nf<C.F){L:List aO}(hL:L=(S.ak.set f t).set s.nf ot) :
 ∀g,g<s.nf+1->vw (Am.bq (Am.bq (Am.bq s.fr f {s.fr f with ag:=(s.fr f).ag+1}) f {s.fr f with ag:=(s.fr f).ag+1,aR:=(s.fr f).aR+1}) s.nf (Am.dQ C (s.fr f) f A B Cc) g) g (GX.ag (L.set f {GX.ag L f with aR:=wi ((GX.ag L f).aR+1)}) g):=λg hg=>by
 subst hL
 have hl:=b.dh.tl
 have hne:f≠s.nf:=Nat.ne_of_lt I.hn
 have hF:=I.hF
 have K0:=b.bd.k f
 have K1:=b.n
 have e1:GX.ag ((S.ak.set f t).set s.nf ot) f=t:=by rw[eX (by rw[acG];omega),aj hne];exact xT b hi I hp
 rw[e1,eX (by rw[acG,acG];omega),Am.bM]
 by_cases e:g=s.nf
 ·rw[au e,iO_,eX (by rw[acG];omega),au e,e];exact hk
 ·rw[aj e,Am.bM]
  by_cases e2:g=f
  ·rw[au e2,au e2,e2]
   exact⟨I.t.fn,I.t.ag,I.t.par,I.t.slot,by show wi (t.aR+1)=(((s.fr f).aR+1:Nat):Int);rw[show t.aR=((s.fr f).aR:Int)from I.t.aR,bz (by omega)];rfl,I.t.gH,I.t.bK⟩
  ·rw[aj e2,aj e2,Am.aI e2,eX (by rw[acG];omega),aj e,eX (by omega),aj e2]
   exact b.dh.tk g (by omega)
theorem EN(k:ci.aQ=5):cY C p sz n M (Am.step C s i d) (jW S M i D f ci t):=by
 obtain⟨w1,w2,w3⟩:=b.dh.wk i hi
 have ok:=I.ok.1
 have cl:=I.ok.2
 unfold gD at ok;rw[iO_,iO_,iO_,iO_,iO_,au k]at ok
 unfold kB at cl;rw[au k,aec,af6,af7,aec,af7,af7]at cl
 have hA:=mY ok
 have hB:=mY cl.1
 have s8:=I.sH.s8
 have r16:=I.sH.r16
 have Jz:=b.vd.sH ci.B.toNat (by omega)
 have p0:=Jz.p0;have p8:=Jz.p8
 obtain⟨P,hP⟩ :∃P:Nat,(GX.ag p.aB ci.B.toNat).MW=P:=⟨(GX.ag p.aB ci.B.toNat).MW.toNat,by omega⟩
 have K2:C.params ci.B.toNat=P:=by rw[b.cf];show(GX.ag p.aB ci.B.toNat).MW.toNat=P;omega
 have K3:C.pd (s.fr f).gH (s.fr f).aR=wi (wi (wi ((s.fr f).gH*1000003)+((s.fr f).aR:Int))+1):=by rw[b.cf];rfl
 have K0:=b.bd.k f
 have K1:=b.n
 obtain⟨pd,EO⟩ :∃pd,pd=C.pd (s.fr f).gH (s.fr f).aR:=⟨_,rfl⟩
 have Ij:0<=s.mem .next/\s.mem .next<=1000000000000:=by
  have h2:=b.rT (a:=.next) rfl
  have h1:s.mem .next=s.nf∨(s.nf=C.F/\(C.F:Int)<=s.mem .next):=b.fi.nx
  omega
 have hst:Am.step C s i d=(if(C.F:Int)<=s.mem .next+1-1 then⟨{((s.wr .next (s.mem .next+1)).lay f {s.fr f with ag:=(s.fr f).ag+1})with qv:=true}.to i .full,Am.ev 11 (-1) 0 0,Am.mK .next 1 (s.mem .next+1)⟩
  else ⟨{((((s.wr .next (s.mem .next+1)).lay f {s.fr f with ag:=(s.fr f).ag+1}).lay f {s.fr f with ag:=(s.fr f).ag+1,aR:=(s.fr f).aR+1}).lay s.nf (Am.dQ C (s.fr f) f ci.A.toNat ci.B.toNat ci.C.toNat))with nf:=s.nf+1}.put s.nf (.ct i) |>.to i (.fork s.nf),none,Am.mK .next 1 (s.mem .next+1)⟩):=by
  rw[hH b hi I hp];unfold Am.instr;simp only[I.hh,afk];rw[I.code];unfold jZ;rw[iO_,iO_,iO_,iO_,iO_,au k];rfl
 have hr:jW S M i D f ci t=fe (dz S (S.ak.set f t)) M (i:Int) ci:=by
  unfold jW;simp only
  rw[iO_,iO_,iO_,iO_,iO_,iO_,iO_,au k]
  cases fe (dz S (S.ak.set f t)) M (i:Int) _<;>rfl
 have hs:=zg b.ar b.z b.cN Ij
 have EP:(S.ak.set f t).length=C.F:=by rw[acG];exact b.dh.tl
 have F0:0<C.F:=by have:=b.ok.f1;omega
 rw[hr]
 unfold fe OV MT MR
 rw[show fE (⟨(dz S (S.ak.set f t)).cU,(dz S (S.ak.set f t)).cw⟩:aF)=some (dc C 0 0 0 0) by
  unfold fE;rw[show(⟨(dz S (S.ak.set f t)).cU,(dz S (S.ak.set f t)).cw⟩:aF)=⟨1,C.F⟩from(show(⟨S.cU,S.cw⟩:aF)=⟨1,C.F⟩from vO b hi)];show bH (dU 0 (⟨1,C.F⟩:aF) ((0:Nat):Int) 0 0) _=_;rw[oC b.ok F0];rfl,ai]
 rw[show({dz S (S.ak.set f t)with aa:=(dz S (S.ak.set f t)).aa.set (i:Int).toNat {ag (dz S (S.ak.set f t)).aa (i:Int).toNat with bA:=dc C 0 0 0 0}}:af)=Ok (dz S (S.ak.set f t)) i {act S i with bA:=dc C 0 0 0 0}from rfl]
 by_cases h0:s.mem .next+1<=C.F
 ·rw[au h0]at hs
  have htb:=RW (T:=S.ak.set f t) b hi (a:={act S i with bA:=dc C 0 0 0 0}) hs (qP rfl rfl)
  have F3:s.mem .next=s.nf:=by
   have h1:s.mem .next=s.nf∨(s.nf=C.F/\(C.F:Int)<=s.mem .next):=b.fi.nx
   rcases h1 with h | h
   ·exact h
   ·omega
  have hlt:s.nf<C.F:=by omega
  have JA:s.nf≠0:=by have:1<=s.nf:=b.fi.lC;omega
  have hne:f≠s.nf:=Nat.ne_of_lt I.hn
  have hin:=sA b hi I hp
  have abe:aZ (s.mem .next) (S.ak.set f t).length:=by rw[F3,EP];exact⟨by omega,by omega⟩
  have Ik:aZ ci.B S.code.length:=by rw[b.dh.code];exact⟨by omega,by omega⟩
  have vS:(GX.ag S.code ci.B.toNat).MW=P:=by rw[b.dh.code];exact hP
  have hgt:GX.ag (S.ak.set f t) (act S i).an.toNat=t:=by rw[I.fr,Zi];exact xT b hi I hp
  have JB:wi (wi (wi ((GX.ag (S.ak.set f t) (act S i).an.toNat).gH*1000003)+(GX.ag (S.ak.set f t) (act S i).an.toNat).aR)+1)=pd:=by
   rw[hgt,EO,K3,show t.gH=(s.fr f).gH from I.t.gH,show t.aR=((s.fr f).aR:Int)from I.t.aR]
  have JC:∀R:List Int,(∀r,r<16->GX.ag R r=if r<P then(s.fr f).bK (ci.C.toNat+r)else 0)->vw (Am.dQ C (s.fr f) f ci.A.toNat ci.B.toNat ci.C.toNat) s.nf {UB ci f pd with bK:=R}:=λR hR =>
   ⟨by show ci.B=((ci.B.toNat:Nat):Int);omega,rfl,by rw[aj JA];rfl,by show ci.A=((ci.A.toNat:Nat):Int);omega,rfl,by show pd=C.pd (s.fr f).gH (s.fr f).aR;exact EO,λr hr=>by show GX.ag R r=if r<C.params ci.B.toNat then(s.fr f).bK (ci.C.toNat+r)else 0;rw[K2];exact hR r hr⟩
  unfold bE
  rw[htb,bZ,aj (by show ¬(4:Int)=3;decide),au (by rfl),au (xP b hi),jO b hi,Zi]
  rw[au (by exact hin),OU,au (by exact hin),au (by exact abe),OU,au (by exact abe)]
  unfold oQ
  rw[ai,au (by exact Ik)]
  have JD:((s.mem .next).toNat:Nat)=s.nf:=by rw[F3];rfl
  by_cases L2:P=0
  ·rw[aj (by show ¬(GX.ag S.code ci.B.toNat).MW>0;rw[vS];omega),ai,au (by rw[acG];exact hin),hst,iO_]
   refine cY.zk (T:=((S.ak.set f t).set s.nf (UB ci f pd)).set f {GX.ag ((S.ak.set f t).set s.nf (UB ci f pd)) f with aR:=wi ((GX.ag ((S.ak.set f t).set s.nf (UB ci f pd)) f).aR+1)}) (a:={act S i with bA:={dc C 0 0 0 0 with aD:=0,cC:=4,fz:=s.mem .next},ct:=s.mem .next,aJ:=2}) (x:=S.value) (l:=S.left) (q:=.fork s.nf) b hi ?_ w1 w2 rfl ⟨rfl,F3⟩ (b.lR (c:=.next) rfl (by rw[hp];rfl) trivial _ _ _ _ _) (Lg.nt rfl) trivial (by rw[acG,acG];exact EP) (sB b hi I hp (JC _ (λr hr=>by rw[iO_];exact WV r)) hlt rfl) b.dh.left b.dh.val
   refine afr some (aeB rfl (aeB ?_ rfl))
   have hX:uQ ((S.ak.set f t).set (s.mem .next).toNat (⟨ci.B,0,(act S i).an,ci.A,0,wi (wi (wi ((GX.ag (S.ak.set f t) (act S i).an.toNat).gH*1000003)+(GX.ag (S.ak.set f t) (act S i).an.toNat).aR)+1),List.replicate 16 (0:Int)⟩:aO)) (act S i).an.toNat=((S.ak.set f t).set s.nf (UB ci f pd)).set f {GX.ag ((S.ak.set f t).set s.nf (UB ci f pd)) f with aR:=wi ((GX.ag ((S.ak.set f t).set s.nf (UB ci f pd)) f).aR+1)}:=by
    rw[JB,JD,I.fr,Zi];rfl
   show({S with ak:=uQ ((S.ak.set f t).set (s.mem .next).toNat (⟨ci.B,0,(act S i).an,ci.A,0,wi (wi (wi ((GX.ag (S.ak.set f t) (act S i).an.toNat).gH*1000003)+(GX.ag (S.ak.set f t) (act S i).an.toNat).aR)+1),List.replicate 16 (0:Int)⟩:aO)) (act S i).an.toNat,aa:=((S.aa.set i _).set i _).set i _}:af)=_
   rw[hX,agu,agu];rfl
  ·have hC:=cl.2.resolve_left (by rw[hP];omega)
   rw[hP]at hC
   have hw:wi (ci.C+(P:Int))=ci.C+P:=bz (by omega)
   have hw':wi (ci.C+(GX.ag S.code ci.B.toNat).MW)=ci.C+P:=by rw[vS];exact hw
   rw[au (by show(GX.ag S.code ci.B.toNat).MW>0;rw[vS];omega),au (by show 0<=ci.C/\ci.C<=wi (ci.C+(GX.ag S.code ci.B.toNat).MW)/\wi (ci.C+(GX.ag S.code ci.B.toNat).MW)<=16/\ci.C<16;rw[hw'];omega),ai,au (by rw[acG,acG];exact hin),hst,iO_]
   refine cY.zk (T:=((S.ak.set f t).set s.nf {UB ci f pd with bK:=vj 16 (oq t.bK ci.C.toNat ((ci.C+(P:Int)).toNat-ci.C.toNat)) (List.replicate 16 (0:Int))}).set f {GX.ag ((S.ak.set f t).set s.nf {UB ci f pd with bK:=vj 16 (oq t.bK ci.C.toNat ((ci.C+(P:Int)).toNat-ci.C.toNat)) (List.replicate 16 (0:Int))}) f with aR:=wi ((GX.ag ((S.ak.set f t).set s.nf {UB ci f pd with bK:=vj 16 (oq t.bK ci.C.toNat ((ci.C+(P:Int)).toNat-ci.C.toNat)) (List.replicate 16 (0:Int))}) f).aR+1)}) (a:={act S i with bA:={dc C 0 0 0 0 with aD:=0,cC:=4,fz:=s.mem .next},ct:=s.mem .next,aJ:=2}) (x:=S.value) (l:=S.left) (q:=.fork s.nf) b hi ?_ w1 w2 rfl ⟨rfl,F3⟩ (b.lR (c:=.next) rfl (by rw[hp];rfl) trivial _ _ _ _ _) (Lg.nt rfl) trivial (by rw[acG,acG];exact EP) (sB b hi I hp (JC _ (λr hr=>by
    have hm:(ci.C+(P:Int)).toNat-ci.C.toNat=P:=by omega
    rw[hm,Ak hr,wK]
    by_cases e:r<P
    ·rw[au e,au e,BW e,I.t.bK _ (by omega)]
    ·rw[aj e,aj e,WV])) hlt rfl) b.dh.left b.dh.val
   refine afr some (aeB rfl (aeB ?_ rfl))
   have e1:GX.ag ((S.ak.set f t).set s.nf (UB ci f pd)) f=t:=by rw[eX (by rw[EP];omega),aj hne];exact xT b hi I hp
   have hX:uQ (((S.ak.set f t).set (s.mem .next).toNat (⟨ci.B,0,(act S i).an,ci.A,0,wi (wi (wi ((GX.ag (S.ak.set f t) (act S i).an.toNat).gH*1000003)+(GX.ag (S.ak.set f t) (act S i).an.toNat).aR)+1),List.replicate 16 (0:Int)⟩:aO)).set (s.mem .next).toNat (⟨ci.B,0,(act S i).an,ci.A,0,wi (wi (wi ((GX.ag (S.ak.set f t) (act S i).an.toNat).gH*1000003)+(GX.ag (S.ak.set f t) (act S i).an.toNat).aR)+1),vj 16 (oq (GX.ag ((S.ak.set f t).set (s.mem .next).toNat (⟨ci.B,0,(act S i).an,ci.A,0,wi (wi (wi ((GX.ag (S.ak.set f t) (act S i).an.toNat).gH*1000003)+(GX.ag (S.ak.set f t) (act S i).an.toNat).aR)+1),List.replicate 16 (0:Int)⟩:aO)) (act S i).an.toNat).bK ci.C.toNat ((wi (ci.C+(GX.ag S.code ci.B.toNat).MW)).toNat-ci.C.toNat)) (List.replicate 16 (0:Int))⟩:aO)) (act S i).an.toNat=((S.ak.set f t).set s.nf {UB ci f pd with bK:=vj 16 (oq t.bK ci.C.toNat ((ci.C+(P:Int)).toNat-ci.C.toNat)) (List.replicate 16 (0:Int))}).set f {GX.ag ((S.ak.set f t).set s.nf {UB ci f pd with bK:=vj 16 (oq t.bK ci.C.toNat ((ci.C+(P:Int)).toNat-ci.C.toNat)) (List.replicate 16 (0:Int))}) f with aR:=wi ((GX.ag ((S.ak.set f t).set s.nf {UB ci f pd with bK:=vj 16 (oq t.bK ci.C.toNat ((ci.C+(P:Int)).toNat-ci.C.toNat)) (List.replicate 16 (0:Int))}) f).aR+1)}:=by
    rw[JB,JD,hw',I.fr,Zi,agu,show(⟨ci.B,0,(f:Int),ci.A,0,pd,List.replicate 16 (0:Int)⟩:aO)=UB ci f pd from rfl,e1];rfl
   show({S with ak:=uQ (((S.ak.set f t).set (s.mem .next).toNat (⟨ci.B,0,(act S i).an,ci.A,0,wi (wi (wi ((GX.ag (S.ak.set f t) (act S i).an.toNat).gH*1000003)+(GX.ag (S.ak.set f t) (act S i).an.toNat).aR)+1),List.replicate 16 (0:Int)⟩:aO)).set (s.mem .next).toNat (⟨ci.B,0,(act S i).an,ci.A,0,wi (wi (wi ((GX.ag (S.ak.set f t) (act S i).an.toNat).gH*1000003)+(GX.ag (S.ak.set f t) (act S i).an.toNat).aR)+1),vj 16 (oq (GX.ag ((S.ak.set f t).set (s.mem .next).toNat (⟨ci.B,0,(act S i).an,ci.A,0,wi (wi (wi ((GX.ag (S.ak.set f t) (act S i).an.toNat).gH*1000003)+(GX.ag (S.ak.set f t) (act S i).an.toNat).aR)+1),List.replicate 16 (0:Int)⟩:aO)) (act S i).an.toNat).bK ci.C.toNat ((wi (ci.C+(GX.ag S.code ci.B.toNat).MW)).toNat-ci.C.toNat)) (List.replicate 16 (0:Int))⟩:aO)) (act S i).an.toNat,aa:=((S.aa.set i _).set i _).set i _}:af)=_
   rw[hX,agu,agu];rfl
 ·rw[aj h0]at hs
  have htb:=RW (T:=S.ak.set f t) b hi (a:={act S i with bA:=dc C 0 0 0 0}) hs (qP rfl rfl)
  rw[htb,bZ,au (by rfl),au (xP b hi),jO b hi,Zi,hst,iQ_]
  refine cY.zk (T:=S.ak.set f t) (a:={act S i with bA:={dc C 0 0 0 0 with aD:=0,cC:=3,fz:=0},aJ:=14}) (x:=S.value) (l:=S.left) (q:=.full) b hi ?_ w1 w2 rfl rfl (b.lR (c:=.next) rfl (by rw[hp];rfl) trivial _ _ _ _ _) (Lg.nt rfl) (by show(11:Nat)≠0;decide) EP (UA b I.hn I.t) b.dh.left b.dh.val
  show some (_,({S with ak:=S.ak.set f t,aa:=(S.aa.set i _).set i _}:af),_)=_
  rw[agu];rfl
end
def wrap(i:Nat)(D:aA)(r:ah)(S:af)(M:ae):Option (ah×Int×af×ae×aA):=if r.aQ=0 then some (r,0,S,M,D)else some ({r with Qm:=(i:Int)},0,S,M,D)
def xU(C:Am.dH)(p:ay)(sz n i:Nat)(M:ae)(D':aA)(o:Am.Out)(r:Option (ah×Int×af×ae×aA)):Prop:=
 ∃S' M',r=some (xw i o.ev,0,S',M',D')/\xq C p o.s S'/\AR C o.s M' sz (n+1)/\Lg C o.s M M' o.acc
section
variable {K:Nat}{C:Am.dH}{p:ay}{s:Am.St}{S:af}{M:ae}{sz n i:Nat}{D:aA}{d:Int}
theorem uR{e:Option Am.Ev}(h:xx e){S':af}{M':ae}:wrap i D (mL e) S' M'=some (xw i e,0,S',M',D):=by
 unfold wrap
 cases e with
 | none=>rw[au (show(mL none).aQ=0 from rfl)];rfl
 | some e=>rw[aj (by show ¬((e.kind:Nat):Int)=0;have:e.kind≠0:=h;omega)];rfl
theorem cY.w{o:Am.Out}{r:Option (ah×af×ae)}{r':Option (ah×Int×af×ae×aA)}(h:cY C p sz n M o r)(hr:r'=gh r (wrap i D)):xU C p sz n i M D o r':=by
 obtain⟨S',M',rfl,h1,h2,h3,h4⟩:=h
 exact⟨S',M',by rw[hr,bf,uR h4],h1,h2,h3⟩
theorem sw.w{D':aA}{o:Am.Out}{r:Option (ah×af×ae×aA)}{r':Option (ah×Int×af×ae×aA)}(h:sw C p sz n M D' o r)(hr:r'=pQ r (λe a c d=>wrap i d e a c)):xU C p sz n i M D' o r':=by
 obtain⟨S',M',rfl,h1,h2,h3,h4⟩:=h
 exact⟨S',M',by rw[hr,bZ,uR h4],h1,h2,h3⟩
variable (b:j0 C p s S M sz n)(hi:i<C.N)
include b hi
theorem uS{k:Nat}(h:(act S i).aJ=k)(hk:k<15):aZ (GX.ag S.aa i).aJ zS.length/\GX.ag zS (GX.ag S.aa i).aJ.toNat=GX.ag zS k:=by
 have h':(GX.ag S.aa i).aJ=k:=h
 refine⟨by rw[h'];exact⟨by omega,by show(k:Int)<15;omega⟩,by rw[h',Zi]⟩
theorem An{k:Nat}(h:(act S i).aJ=k)(hk:k=13∨k=14):aE K S M (i:Int) D=some (⟨0,0,0,0,0,0⟩,0,S,M,D):=by
 obtain⟨h1,h2⟩:=uS b hi h (by omega)
 unfold aE MR
 rw[bu,iO_,aj (by rw[b.dh.wl];omega),bu,au (b.lU hi),Zi,au h1,h2,au (by rcases hk with rfl | rfl<;>rfl)]
theorem zm(h:(act S i).aJ=0):aE K S M (i:Int) D=gh (eA S M (i:Int) D) (wrap i D):=by
 obtain⟨h1,h2⟩:=uS b hi (k:=0) h (by decide)
 have h':(GX.ag S.aa i).aJ=0:=h
 unfold aE OM MR
 rw[bu,iO_,aj (by rw[b.dh.wl];omega),bu,au (b.lU hi),Zi,au h1,h2,aj (by decide),OU,au h'];rfl
theorem ER(h:(act S i).aJ=1):aE K S M (i:Int) D=gh (eV S M (i:Int) D) (wrap i D):=by
 obtain⟨h1,h2⟩:=uS b hi (k:=1) h (by decide)
 have h':(GX.ag S.aa i).aJ=1:=h
 unfold aE OM MR
 rw[bu,iO_,aj (by rw[b.dh.wl];omega),bu,au (b.lU hi),Zi,au h1,h2,aj (by decide),OU,iM_ h',au h'];rfl
theorem acW(h:(act S i).aJ=2):aE K S M (i:Int) D=gh (eL S M (i:Int) D) (wrap i D):=by
 obtain⟨h1,h2⟩:=uS b hi (k:=2) h (by decide)
 have h':(GX.ag S.aa i).aJ=2:=h
 unfold aE OM MR
 rw[bu,iO_,aj (by rw[b.dh.wl];omega),bu,au (b.lU hi),Zi,au h1,h2,aj (by decide),OU,iM_ h',iM_ h',au h'];rfl
theorem kq(h:(act S i).aJ=3):aE K S M (i:Int) D=gh (aU S M (i:Int) D) (wrap i D):=by
 obtain⟨h1,h2⟩:=uS b hi (k:=3) h (by decide)
 have h':(GX.ag S.aa i).aJ=3:=h
 unfold aE OM MR
 rw[bu,iO_,aj (by rw[b.dh.wl];omega),bu,au (b.lU hi),Zi,au h1,h2,aj (by decide),OU,iM_ h',iM_ h',iM_ h',au h'];rfl
theorem tR(h:(act S i).aJ=4):aE K S M (i:Int) D=gh (bL S M (i:Int) D) (wrap i D):=by
 obtain⟨h1,h2⟩:=uS b hi (k:=4) h (by decide)
 have h':(GX.ag S.aa i).aJ=4:=h
 unfold aE OM MR
 rw[bu,iO_,aj (by rw[b.dh.wl];omega),bu,au (b.lU hi),Zi,au h1,h2,aj (by decide),OU,iM_ h',iM_ h',iM_ h',iM_ h',au h'];rfl
theorem B3(h:(act S i).aJ=5):aE K S M (i:Int) D=gh (bj S M (i:Int) D) (wrap i D):=by
 obtain⟨h1,h2⟩:=uS b hi (k:=5) h (by decide)
 have h':(GX.ag S.aa i).aJ=5:=h
 unfold aE OM MR
 rw[bu,iO_,aj (by rw[b.dh.wl];omega),bu,au (b.lU hi),Zi,au h1,h2,aj (by decide),OU,iM_ h',iM_ h',iM_ h',iM_ h',iM_ h',au h'];rfl
theorem sC(h:(act S i).aJ=6):aE K S M (i:Int) D=gh (bV S M (i:Int) D) (wrap i D):=by
 obtain⟨h1,h2⟩:=uS b hi (k:=6) h (by decide)
 have h':(GX.ag S.aa i).aJ=6:=h
 unfold aE OM MR
 rw[bu,iO_,aj (by rw[b.dh.wl];omega),bu,au (b.lU hi),Zi,au h1,h2,aj (by decide),OU,iM_ h',iM_ h',iM_ h',iM_ h',iM_ h',iM_ h',au h'];rfl
theorem tS(h:(act S i).aJ=7):aE K S M (i:Int) D=gh (N0 S M (i:Int) D) (wrap i D):=by
 obtain⟨h1,h2⟩:=uS b hi (k:=7) h (by decide)
 have h':(GX.ag S.aa i).aJ=7:=h
 unfold aE OM MR
 rw[bu,iO_,aj (by rw[b.dh.wl];omega),bu,au (b.lU hi),Zi,au h1,h2,aj (by decide),OU,iM_ h',iM_ h',iM_ h',iM_ h',iM_ h',iM_ h',iM_ h',au h'];rfl
theorem U0(h:(act S i).aJ=8):aE K S M (i:Int) D=gh (be S M (i:Int) D) (wrap i D):=by
 obtain⟨h1,h2⟩:=uS b hi (k:=8) h (by decide)
 have h':(GX.ag S.aa i).aJ=8:=h
 unfold aE OM MR
 rw[bu,iO_,aj (by rw[b.dh.wl];omega),bu,au (b.lU hi),Zi,au h1,h2,aj (by decide),OU,iM_ h',iM_ h',iM_ h',iM_ h',iM_ h',iM_ h',iM_ h',iM_ h',au h'];rfl
theorem xV(h:(act S i).aJ=9):aE K S M (i:Int) D=pQ (Oe K S M (i:Int) D) (λe a c d=>wrap i d e a c):=by
 obtain⟨h1,h2⟩:=uS b hi (k:=9) h (by decide)
 have h':(GX.ag S.aa i).aJ=9:=h
 unfold aE OM MR
 rw[bu,iO_,aj (by rw[b.dh.wl];omega),bu,au (b.lU hi),Zi,au h1,h2,aj (by decide),OU,iM_ h',iM_ h',iM_ h',iM_ h',iM_ h',iM_ h',iM_ h',iM_ h',iM_ h',au h'];rfl
theorem nG(h:(act S i).aJ=10):aE K S M (i:Int) D=gh (aY S M (i:Int) D) (wrap i D):=by
 obtain⟨h1,h2⟩:=uS b hi (k:=10) h (by decide)
 have h':(GX.ag S.aa i).aJ=10:=h
 unfold aE OM MR
 rw[bu,iO_,aj (by rw[b.dh.wl];omega),bu,au (b.lU hi),Zi,au h1,h2,aj (by decide),OU,iM_ h',iM_ h',iM_ h',iM_ h',iM_ h',iM_ h',iM_ h',iM_ h',iM_ h',iM_ h',au h'];rfl
theorem B4(h:(act S i).aJ=11):aE K S M (i:Int) D=gh (N1 K S M (i:Int) D) (wrap i D):=by
 obtain⟨h1,h2⟩:=uS b hi (k:=11) h (by decide)
 have h':(GX.ag S.aa i).aJ=11:=h
 unfold aE OM MR
 rw[bu,iO_,aj (by rw[b.dh.wl];omega),bu,au (b.lU hi),Zi,au h1,h2,aj (by decide),OU,iM_ h',iM_ h',iM_ h',iM_ h',iM_ h',iM_ h',iM_ h',iM_ h',iM_ h',iM_ h',iM_ h',au h'];rfl
theorem mC(h:(act S i).aJ=12):aE K S M (i:Int) D=gh (aP S M (i:Int) D) (wrap i D):=by
 obtain⟨h1,h2⟩:=uS b hi (k:=12) h (by decide)
 have h':(GX.ag S.aa i).aJ=12:=h
 unfold aE OM MR
 rw[bu,iO_,aj (by rw[b.dh.wl];omega),bu,au (b.lU hi),Zi,au h1,h2,aj (by decide),OU,iM_ h',iM_ h',iM_ h',iM_ h',iM_ h',iM_ h',iM_ h',iM_ h',iM_ h',iM_ h',iM_ h',iM_ h',au h'];rfl
def drawn(q:Am.Pc)(D:aA):aA:=match q with
 | .gG=>sL D
 | _=>D
theorem tT(hK:100<K):xU C p sz n i M (drawn (s.pc i) D) (Am.step C s i (Uu D)) (aE K S M (i:Int) D):=by
 obtain⟨w1,w2,w3⟩:=b.dh.wk i hi
 cases hp:s.pc i with
 | halted =>
  rw[hp]at w3
  rw[An b hi (k:=13) w3 (.inl rfl)]
  unfold Am.step;rw[hp]
  exact⟨S,M,rfl,b.dh,b.ar.keep rfl rfl rfl rfl,Lg.none_⟩
 | full =>
  rw[hp]at w3
  rw[An b hi (k:=14) w3 (.inr rfl)]
  unfold Am.step;rw[hp]
  exact⟨S,M,rfl,b.dh,b.ar.keep rfl rfl rfl rfl,Lg.none_⟩
 | run =>
  rw[hp]at w3
  obtain⟨f,ci,t,I,hr⟩:=abY (M:=M) (D:=D) b hi hp
  have hd:=ER (K:=K) (D:=D) b hi w3
  rw[hr]at hd
  have hk:ci.aQ=0∨ci.aQ=1∨ci.aQ=2∨ci.aQ=3∨ci.aQ=4∨ci.aQ=5∨ci.aQ=6∨ci.aQ=7∨ci.aQ=8∨ci.aQ=9:=by have:=I.kd;omega
  rcases hk with k | k | k | k | k | k | k | k | k | k
  ·exact(EC b hi I hp k).w hd
  ·exact(ED b hi I hp k).w hd
  ·exact(EE b hi I hp k).w hd
  ·exact(EF b hi I hp k).w hd
  ·exact(EG b hi I hp k).w hd
  ·exact(EN b hi I hp k).w hd
  ·exact(EK b hi I hp k).w hd
  ·exact(EJ b hi I hp k).w hd
  ·exact(EH b hi I hp k).w hd
  ·exact(EL b hi I hp k).w hd
 | gG =>
  rw[hp]at w3
  exact(vN b hi hp).w (xV b hi w3.1)
 | nV =>
  rw[hp]at w3
  exact(y9 b hi hK hp).w (B4 b hi w3.1)
 | flag =>
  rw[hp]at w3
  rcases w3 with h | h
  ·exact(xL b hi hK hp h).w (xV b hi h.1)
  ·exact(za b hi hp h).w (mC b hi h.1.1)
 | sleep =>
  rw[hp]at w3
  exact(xI b hi hp).w (mC b hi w3.1.1)
 | jM =>
  rw[hp]at w3
  exact(sv b hi hp).w (mC b hi w3.1.1)
 | od j =>
  rw[hp]at w3
  obtain⟨_,k,h,_⟩:=w3
  exact(xJ b hi hp).w (mC b hi h.1)
 | nl j t =>
  rw[hp]at w3
  obtain⟨_,k,h,_⟩:=w3
  exact(xK b hi hp).w (mC b hi h.1)
 | parked =>
  rw[hp]at w3
  obtain⟨_,k,h⟩:=w3
  exact(vM b hi hp).w (mC b hi h.1)
 | back w =>
  rw[hp]at w3
  obtain⟨_,k,h,_⟩:=w3
  exact(zb b hi hp).w (mC b hi h.1)
 | j6 w =>
  rw[hp]at w3
  obtain⟨_,k,h,_⟩:=w3
  exact(tM b hi hp).w (mC b hi h.1)
 | start x =>
  rw[hp]at w3
  exact(xO b hi hp).w (zm b hi w3.1)
 | fork c =>
  rw[hp]at w3
  exact(zh b hi hp).w (acW b hi w3.1)
 | iF =>
  rw[hp]at w3
  exact(tP b hi hp).w (B3 b hi w3.1)
 | out pp c =>
  rw[hp]at w3
  exact(acU b hi hp).w (sC b hi w3.1)
 | take pp c =>
  rw[hp]at w3
  exact(zj b hi hp).w (sC b hi w3.1)
 | done =>
  rw[hp]at w3
  exact(yX b hi hp).w (tS b hi w3.1)
 | tell j =>
  rw[hp]at w3
  exact(yY b hi hp).w (tS b hi w3.1)
 | kE j =>
  rw[hp]at w3
  exact(tK b hi hp).w (tS b hi w3.1)
 | nk c =>
  rw[hp]at w3
  exact(xA b hi hp).w (kq b hi w3.1)
 | lO c bb =>
  rw[hp]at w3
  exact(xB b hi hp).w (kq b hi w3.1)
 | iG c bb t =>
  rw[hp]at w3
  exact(tA b hi hp).w (kq b hi w3.1)
 | iH c bb t =>
  rw[hp]at w3
  exact(tB b hi hp).w (kq b hi w3.1)
 | grow c bb t cc =>
  rw[hp]at w3
  exact(yR b hi hp).w (kq b hi w3.1)
 | fH c bb t cc =>
  rw[hp]at w3
  exact(tD b hi hp).w (kq b hi w3.1)
 | dZ c bb t cc m =>
  rw[hp]at w3
  exact(si b hi hp).w (kq b hi w3.1)
 | ew c bb t cc m x =>
  rw[hp]at w3
  exact(Yg b hi hp).w (kq b hi w3.1)
 | fI c bb t cc =>
  rw[hp]at w3
  exact(tE b hi hp).w (kq b hi w3.1)
 | ef c bb cc =>
  rw[hp]at w3
  exact(sj b hi hp).w (kq b hi w3.1)
 | gS c bb =>
  rw[hp]at w3
  exact(tG b hi hp).w (kq b hi w3.1)
 | pG =>
  rw[hp]at w3
  exact(yW b hi hp).w (tR b hi w3.1)
 | ji j =>
  rw[hp]at w3
  exact(tI b hi hp).w (tR b hi w3.1)
 | j5 j =>
  rw[hp]at w3
  exact(tJ b hi hp).w (tR b hi w3.1)
 | oV =>
  rw[hp]at w3
  exact(yT b hi hp).w (U0 b hi w3.1)
 | RU bb =>
  rw[hp]at w3
  exact(vA b hi hp).w (U0 b hi w3.1)
 | gM bb =>
  rw[hp]at w3
  exact(sk b hi hp).w (U0 b hi w3.1)
 | nU bb =>
  rw[hp]at w3
  exact(yU b hi hp).w (U0 b hi w3.1)
 | gl t =>
  rw[hp]at w3
  exact(sn b hi hp).w (U0 b hi w3.1)
 | jS bb t =>
  rw[hp]at w3
  exact(vC b hi hp).w (U0 b hi w3.1)
 | ij bb t cc =>
  rw[hp]at w3
  exact(tH b hi hp).w (U0 b hi w3.1)
 | jA bb t x =>
  rw[hp]at w3
  exact(vD b hi hp).w (U0 b hi w3.1)
 | iL t x w =>
  rw[hp]at w3
  exact(vE b hi hp).w (U0 b hi w3.1)
 | jT v t =>
  rw[hp]at w3
  exact(vG b hi hp).w (nG b hi w3.1)
 | gN v t =>
  rw[hp]at w3
  exact(so b hi hp).w (nG b hi w3.1)
 | gp v t g =>
  rw[hp]at w3
  exact(sq b hi hp).w (nG b hi w3.1)
 | eZ v t g cc =>
  rw[hp]at w3
  exact(Yh b hi hp).w (nG b hi w3.1)
 | fJ v t x =>
  rw[hp]at w3
  exact(YW b hi hp).w (nG b hi w3.1)
theorem xW{S':af}{M':ae}(h1:xq C p (Am.step C s i d).s S')(h2:AR C (Am.step C s i d).s M' sz (n+1))(hn:n+1<=1000000000):j0 C p (Am.step C s i d).s S' M' sz (n+1):=
 ⟨b.ok,h1,h2,b.z.step b.ok b.dt hi d,b.bd.step d,b.dt.step hi d,Am.FI.step b.fi b.dt hi d,b.fr.step b.ok b.fi b.dt hi d,hn,b.vd,b.cf,b.room⟩
end
section
variable {K:Nat}
def cq(f m:Nat):Nat->Nat
 | 0=>f
 | g+1=>min (2*cq f m g) m
def tq(f m:Nat):Nat->Nat
 | 0=>0
 | g+1=>tq f m g+1+cq f m (g+1)
theorem uT{f m:Nat}(h:f<=m):∀g,cq f m g<=m
 | 0=>h
 | g+1=>by simp only[cq];omega
theorem qQ{f m:Nat}(h1:1<=f)(h:f<=m):∀g,1<=cq f m g
 | 0=>h1
 | g+1=>by have:=qQ h1 h g;simp only[cq];omega
theorem tU{f m:Nat}(h1:1<=f)(hf:f<=m):∀(d g:Nat),m-cq f m g<=d->∃G,g<=G/\cq f m G=m/\(∀x,g<=x->x<G->cq f m x<m)/\tq f m g<=tq f m G/\(cq f m g=m->G=g)/\(2<=cq f m g->2*(tq f m G-tq f m g)+5*cq f m g<=7*m)/\2*(tq f m G-tq f m g)<=7*m
 | d,g,hd=>by
  have hl:=uT hf g
  have hp:=qQ h1 hf g
  by_cases e:cq f m g<m
  ·have hn:cq f m (g+1)=min (2*cq f m g) m:=rfl
   have hT:tq f m (g+1)=tq f m g+1+cq f m (g+1):=rfl
   obtain⟨d,rfl⟩ :∃n,d=n+1:=⟨d-1,by omega⟩
   obtain⟨G,a1,a2,a3,a4,a5,a6,a7⟩:=tU h1 hf d (g+1) (by omega)
   refine⟨G,by omega,a2,λx hx hG => ?_,by omega,λh=>by omega,λh => ?_,?_⟩
   ·by_cases ex:x=g
    ·rw[ex];exact e
    ·exact a3 x (by omega) hG
   ·by_cases e2:cq f m (g+1)=m
    ·have:=a5 e2;subst this;omega
    ·have:=a6 (by omega);omega
   ·by_cases e2:cq f m (g+1)=m
    ·have:=a5 e2;subst this;omega
    ·have:=a6 (by omega);omega
  ·have e':cq f m g=m:=by omega
   exact⟨g,aea _,e',λx h1 h2=>by omega,aea _,λ_=>rfl,λh=>by omega,by omega⟩
theorem uU{f m G:Nat}(hf:f<=m)(hm:m<=4096)(hG:cq f m G=m)(hT:tq f m G<=100000):∀(d g k:Nat) (z:Int),g+d=G->d<k->(∀x,g<=x->x<G->cq f m x<m)->0<=z->z+((tq f m G-tq f m g:Nat):Int)<=1000000->tq f m g<=tq f m G->
 dS K (m:Int) k z (cq f m g:Nat)=some (z+((tq f m G-tq f m g:Nat):Int))
 | d,g,k,z,hd,hk,hx,hz,K4,ht=>by
  obtain⟨k,rfl⟩ :∃n,k=n+1:=⟨k-1,by omega⟩
  have hl:=uT hf g
  rw[dS]
  by_cases e:g=G
  ·subst e;rw[hG,iO_,Nat.sub_self];simp
  ·obtain⟨d,rfl⟩ :∃n,d=n+1:=⟨d-1,by omega⟩
   have h1:=hx g (aea _) (by omega)
   have hn:cq f m (g+1)=min (2*cq f m g) m:=rfl
   have K5:tq f m (g+1)=tq f m g+1+cq f m (g+1):=rfl
   have zn:∀y,g+1+y<=G->tq f m (g+1)<=tq f m (g+1+y):=λy=>by
    induction y with
    | zero=>intro _;exact aea _
    | succ y ih=>intro h;have:=ih (by omega);show _<=tq f m (g+1+y)+1+cq f m (g+1+y+1);omega
   have hle:tq f m (g+1)<=tq f m G:=by have:=zn (G-(g+1)) (by omega);rwa [show g+1+(G-(g+1))=G by omega]at this
   have hc:(if(m:Int)<wi ((2:Int)*((cq f m g:Nat):Int))then(m:Int)else wi ((2:Int)*((cq f m g:Nat):Int)))=((cq f m (g+1):Nat):Int):=by
    rw[bz (by omega)];split<;>omega
   rw[iQ_,hc,bz (x:=z+1) (by omega),bz (x:=z+1+_) (by omega),
    uU hf hm hG hT d (g+1) k _ (by omega) (by omega) (λx h1 h2=>hx x (by omega) h2) (by omega) (by omega) hle]
   congr 1;omega
theorem zo{N F:Nat}{dG:bY}{f m:Nat}(hl:Ac dG.cO dG.bD dG.gK)(hF:dG.cO=F)(hf:dG.bD=f)(hm:dG.gK=m)(CA:1<=N)(hN:N<=64)(hK:5000<K) :
 ∃G,cq f m G=m/\(∀x,x<G->cq f m x<m)/\tq f m G<=15000/\ku K (N:Int) dG=some ((4+10*F+N+N*(4+f+tq f m G):Nat):Int)/\4+10*F+N+N*(4+f+tq f m G)<=1048576:=by
 have f1:=hl.f1
 have f2:=hl.f2
 have a1:=hl.a1
 have a2:=hl.a2
 have m2:=hl.m2
 obtain⟨G,g1,g2,g3,g4,g5,g6,g7⟩:=tU (f:=f) (m:=m) (by omega) (by omega) (m-cq f m 0) 0 (aea _)
 have h0:tq f m 0=0:=rfl
 have JE:cq f m 0=f:=rfl
 rw[JE]at g5 g6
 rw[h0]at g6 g7
 have hb:2*(4+f+tq f m G)<=28690:=by
  by_cases e:2<=f
  ·have:=g6 e;omega
  ·omega
 refine⟨G,g2,λx hx=>g3 x (agP _) hx,by omega,?_,?_⟩
 ·unfold ku eU iO
  have K7:G<K:=by
   have zn:∀x,x<=G->x<=tq f m x:=λx=>by
    induction x with
    | zero=>intro _;exact aea _
    | succ y ih=>intro h;have:=ih (by omega);show _<=tq f m y+1+cq f m (y+1);omega
   have h9:∀x,x<=G->x<=cq f m x:=λx=>by
    induction x with
    | zero=>intro _;exact agP _
    | succ y ih =>
     intro h;have:=ih (by omega);have:=g3 y (agP _) (by omega);have:=qQ (f:=f) (m:=m) (by omega) (by omega) y;show _<=min (2*cq f m y) m;omega
   have:=h9 G (aea _);omega
  have e:=uU (K:=K) (f:=f) (m:=m) (G:=G) (by omega) (by omega) g2 (by omega) G 0 K (4+(f:Int)) (by omega) K7 (λx h1 h2=>g3 x h1 h2) (by omega) (by omega) (by rw[h0];omega)
  rw[h0,JE,Nat.sub_zero]at e
  rw[iO_,iO_,iO_,iO_,iO_,iO_,ai,aj (by simp;omega),bu,hf,hm,bz (x:=4+(f:Int)) (by omega),e,ai,hF,
   bz (x:=(F:Int)*10) (by omega),bz (x:=(2:Int)+(F:Int)*10) (by omega),bz (x:=(2:Int)+(F:Int)*10+2) (by omega),bz (x:=(2:Int)+(F:Int)*10+2+(N:Int)) (by omega)]
  have hmul:(N:Int)*(4+(f:Int)+((tq f m G:Nat):Int))=((N*(4+f+tq f m G):Nat):Int):=by simp
  have K8:N*(4+f+tq f m G)<=64*14345:=Nat.mul_le_mul hN (by omega)
  rw[hmul,bz (x:=((N*(4+f+tq f m G):Nat):Int)) (by omega),bz (by omega)]
  congr 1;omega
 ·have K8:N*(4+f+tq f m G)<=64*14345:=Nat.mul_le_mul hN (by omega)
  omega
end
def init(C:Am.dH)(args:List Int):Am.St:=
 { mem:=λa=>match a with
    | .next=>1
    | .join _=>1
    | .buf i=>(Am.jU C i:Int)+3
    | .cap _ g=>if g=0 then(C.first:Int)else 0
    | _=>0
   pc:=λi=>if i=0 then .start (-1)else .gG
   hold:=λi=>if i=0 then some 0 else none
   tries:=λ_=>0
   fr:=λf=>{fn:=0,ag:=0,par:=0,slot:=0,aR:=0,gH:=if f=0 then 1 else 0,bK:=λr=>if f=0 then GX.ag args r else 0}
   nf:=1
   cur:=λ_=>0
   base:=λj _=>(Am.jU C j:Int)+3
   size:=Am.S0 C
   val:=none
   qv:=false
   loc:=λf=>if f=0 then .held 0 else .free
   q:=λ_=>[]
   pop:=λ_=>none
   aR:=λ_=>[]}
section
variable {C:Am.dH}{args:List Int}
theorem zp(j:Nat):Am.dJ ((init C args).pc j)=false:=by show Am.dJ (if j=0 then _ else _)=false;split<;>rfl
theorem k6(j:Nat):Am.gen (init C args) j=0:=by unfold Am.gen;rw[zp];rfl
theorem zq(hC:C.OK):Am.SZ C (init C args) where
 cap:=λj hj g hg=>by
  have CF:g=0:=Nat.le_zero.1 hg
  subst CF;rfl
 xk:=λj hj=>rfl
 size:=by
  show(Am.S0 C:Int)=_
  rw[Am.mX (g:=λ_=>0) (λj _=>by rw[k6];rfl)]
  have:∀n,Am.nY (λ_=>0) n=0:=λn=>by induction n with
   | zero=>rfl
   | succ n ih=>show Am.nY (λ_=>0) n+0=0;rw[ih]
  rw[this];simp
 bs:=λj hj g h1 h2=>by rw[k6]at h2;omega
 dj:=λj j' g g' _ _ h1 _ h2 _ _=>by rw[k6]at h2;omega
 gm:=λj hj g hg=>by rw[k6]at hg;omega
theorem zu:Am.BD (init C args) 0 where
 m:=λa ha=>by cases a<;>first | exact Bool.noConfusion ha | exact⟨by show -_<=(1:Int);omega,by show(1:Int)<=_;omega⟩ | exact⟨by show -_<=(0:Int);omega,by show(0:Int)<=_;omega⟩
 r:=λi x hx=>by
  have:Am.cr ((init C args).pc i)=[]:=by show Am.cr (if i=0 then _ else _)=[];split<;>rfl
  rw[this]at hx;cases hx
 k:=λf=>aea _
theorem abZ(hC:C.OK):Am.DT C (init C args):=by
 refine⟨λj hj => ?_,λi hi => ?_⟩
 ·refine⟨agn _,λg hg => ?_,?_,rfl,λm hm=>absurd hm (Nat.not_lt_zero _),?_⟩
  ·have CF:g=0:=Nat.le_zero.1 hg
   subst CF;have:=hC.c1;show(1:Int)<=(C.first:Int);omega
  ·have:=hC.cm;show(C.first:Int)<=C.most;omega
  ·refine(Am.gz.idle ?_).2 ⟨rfl,?_⟩
   ·show Am.Idle (if j=0 then _ else _);split<;>trivial
   ·show(0:Int)<=(C.first:Int);omega
 ·unfold Am.Th
  by_cases e:i=0
  ·rw[show(init C args).pc i= .start (-1)from au e];trivial
  ·rw[show(init C args).pc i= .gG from aj e];show C.N≠1;omega
theorem zw(hC:C.OK):(Am.view (init C args)).FI C.N C.F:=by
 have hg:∀i,(Am.view (init C args)).g i=if i=0 then .start else .none:=λi=>by show Am.sig (if i=0 then _ else _)=_;split<;>rfl
 have hh:∀i,(Am.view (init C args)).hold i=if i=0 then some 0 else none:=λ_=>rfl
 have hl:∀f,(Am.view (init C args)).loc f=if f=0 then .held 0 else .free:=λ_=>rfl
 have hq:∀i,(Am.view (init C args)).q i=[]:=λ_=>rfl
 have hk:∀i,(Am.view (init C args)).aR i=[]:=λ_=>rfl
 have K9:∀i,(Am.view (init C args)).pop i=none:=λ_=>rfl
 have hj:∀f,(Am.view (init C args)).join f=1:=λ_=>rfl
 have hm:∀f,(Am.view (init C args)).mark f=0:=λ_=>rfl
 have hp:∀f,(Am.view (init C args)).par f=0:=λ_=>rfl
 have hn:(Am.view (init C args)).nf=1:=rfl
 have hx:(Am.view (init C args)).next=1:=rfl
 have f1:=hC.f1
 constructor
 ·omega
 ·omega
 ·left;rw[hx,hn];rfl
 ·intro f hf;rw[hl,iO_]
 ·intro f hf;rw[hl,iQ_];simp
 ·intro f hf;rw[hk,hj];exact⟨rfl,rfl⟩
 ·intro i f hi h;rw[hh]at h;split at h
  ·next e=>cases h;right;rw[hg,au e,hl,au rfl,e];exact⟨by simp,rfl⟩
  ·cases h
 ·intro i hi h;rw[hg]at h;split at h
  ·next e=>rw[hh,au e];simp
  ·cases h
 ·intro i hi h;rw[hg]at h;split at h
  ·cases h
  ·next e=>rw[hh,aj e]
 ·intro i c hi h;rw[hg]at h;split at h<;>cases h
 ·intro i c hi h;rw[hg]at h;split at h<;>cases h
 ·intro j x hj h;rw[hq]at h;cases h
 ·intro j hj;rw[hq];exact List.nodup_nil
 ·intro i x hi h;rw[K9]at h;cases h
 ·intro i pp c hi h;rw[hg]at h;split at h<;>cases h
 ·intro i pp c hi h;rw[hg]at h;split at h<;>cases h
 ·intro i pp c hi h;rw[hg]at h;split at h<;>cases h
 ·intro pp;rw[hk];exact List.nodup_nil
 ·intro pp c h;rw[hk]at h;cases h
 ·intro c h0 hc;omega
 ·intro c hc;rw[hp];omega
 ·intro f hf;rw[hl,iQ_,hj,hk];rfl
 ·intro f _;exact hm f
 ·intro i f _ _ _;exact hm f
theorem zx(hC:C.OK):Am.FR C (init C args):=λf hf=>⟨hC.fn0,by show(0:Nat)<8;decide,λ_=>hC.BJ 0 hC.fn0⟩
theorem zy{N F:Nat}{c:List Int}(hC:C.OK)(hN:C.N=N)(hF:C.F=F){W:Nat}(hW:W=4+C.first)(L:oU N F W (C.first:Int) c):Am.CL C (init C args) c:=by
 subst hN;subst hF;subst hW
 have Il:∀i,Am.jU C i=4+10*C.F+C.N+i*(4+C.first):=λ_=>rfl
 refine⟨by show(c.length:Int)=(Am.S0 C:Int);rw[L.len];rfl,λa ha => ?_⟩
 have key:∀k:Nat,Am.place C (init C args) a=(k:Int)->c.getD (Am.place C (init C args) a).toNat 0=GX.ag c k:=λk hk=>by rw[hk];rfl
 have dq:=λi hi r hr=>L.dq i hi r hr
 cases a with
 | result=>exact(key 0 rfl).trans L.c0
 | next=>exact(key 1 rfl).trans L.c1
 | join f=>exact(key (2+10*f+0) (by show(2:Int)+10*f=_;omega)).trans (L.fr f ha 0 (by omega))
 | mark f=>exact(key (2+10*f+1) (by show(3:Int)+10*f=_;omega)).trans (L.fr f ha 1 (by omega))
 | slot f k=>have h8:=ha.2;exact(key (2+10*f+(2+k)) (by show(4:Int)+10*f+k=_;omega)).trans ((L.fr f ha.1 (2+k) (by omega)).trans (aj (by omega)))
 | iR=>exact(key (2+10*C.F+0) (by show(2:Int)+10*C.F=_;omega)).trans (L.D6 0 (by omega))
 | Vu=>exact(key (2+10*C.F+1) (by show(3:Int)+10*C.F=_;omega)).trans (L.D6 1 (by omega))
 | flag i=>have hi:i<C.N:=ha;exact(key (2+10*C.F+(2+i)) (by show(4:Int)+10*C.F+i=_;omega)).trans (L.D6 (2+i) (by omega))
 | top i=>exact(key (4+10*C.F+C.N+i*(4+C.first)+0) rfl).trans (dq i ha 0 (by omega))
 | bot i=>exact(key (4+10*C.F+C.N+i*(4+C.first)+1) rfl).trans (dq i ha 1 (by omega))
 | buf i=>exact(key (4+10*C.F+C.N+i*(4+C.first)+2) rfl).trans (dq i ha 2 (by omega))
 | cap i g =>
  have hg:g=0:=by have:=ha.2;rw[k6]at this;omega
  subst hg
  exact(key (4+10*C.F+C.N+i*(4+C.first)+3) rfl).trans (dq i ha.1 3 (by omega))
 | el i g m =>
  have hg:g=0:=by have:=ha.2.1;rw[k6]at this;omega
  subst hg
  have hm:m<C.first:=ha.2.2
  exact(key (4+10*C.F+C.N+i*(4+C.first)+(4+m)) (by show(Am.jU C i:Int)+3+1+m=_;rw[Il];omega)).trans ((dq i ha.1 (4+m) (by omega)).trans (by rw[iO_,iO_];rfl))
end
theorem tV(C:Am.dH):∀g,Am.js C g=cq C.first C.most g
 | 0=>rfl
 | g+1=>by show min (2*Am.js C g) C.most=min (2*cq C.first C.most g) C.most;rw[tV C g]
theorem xX(C:Am.dH):∀g,Am.tot C g=tq C.first C.most g
 | 0=>rfl
 | g+1=>by show Am.tot C g+1+Am.js C (g+1)=tq C.first C.most g+1+cq C.first C.most (g+1);rw[xX C g,tV C (g+1)]
theorem xY{p:ay}{args:List Int}{N F f m sz G:Nat}{c:List Int}{l:List az}{w:Bool}(hv:Valid p)(ha:(args.length:Int)=(GX.ag p.aB 0).MW)(BN:1<=N)(hn:N<=64)(HM:1<=F)(hf:F<=4096)(h1:1<=f)(Ah:f<=m)(hm:m<=4096)
 (hG:cq f m G=m) (hsz:sz=4+10*F+N+N*(4+f+tq f m G)) (La:sz<=1048576) (L:oU N F (4+f) (f:Int) c) (hl:l=[]) {x:Int}:j0 (cfg p N F f m) p (init (cfg p N F f m) args) (D8 p args N F (4+f) m) (ar sz c l x w) sz 0:=by
 have hC:=xo (p:=p) (N:=N) (F:=F) (f:=f) (m:=m) hv BN hn HM hf h1 Ah hm
 have hz:=zq (args:=args) hC
 have hroom:(sz:Int)=Am.S0 (cfg p N F f m)+(cfg p N F f m).N*Am.tot (cfg p N F f m) G:=by
  rw[xX];show(sz:Int)=((4+10*F+N+N*(4+f):Nat):Int)+(N:Int)*(tq f m G:Int)
  rw[hsz,show 4+f+tq f m G=(4+f)+tq f m G from rfl,Nat.mul_add];simp;omega
 have hcap:Am.js (cfg p N F f m) G=(cfg p N F f m).most:=by rw[tV];exact hG
 have KJ:=(hv.sH 0 hv.n1).p8
 subst hl
 refine⟨hC,?_,⟨rfl,La,rZ hz hroom hcap,rfl,zy hC rfl rfl rfl L,aea _⟩,hz,zu,abZ hC,zw hC,zx hC,by omega,hv,rfl,G,hroom,hcap⟩
 refine⟨rfl,rfl,rfl,rfl,rfl,rfl,?_,λv F2 => ?_,?_,λg hg => ?_,?_,λi hi => ?_,rfl,rfl⟩
 ·exact uD N 0
 ·have h:=w8 (B:=4+10*F+N) (W:=4+f) (most:=(m:Int)) N 0 v F2
  rw[af3]at h;exact h
 ·show((List.replicate F xd).set 0 _).length=F;rw[acG,aeb]
 ·have CF:g=0:=by have:g<1:=hg;omega
  subst CF
  show vw _ 0 (GX.ag ((List.replicate F xd).set 0 _) 0)
  rw[eX (by rw[aeb];omega),au rfl]
  refine⟨rfl,rfl,rfl,rfl,rfl,rfl,λr hr => ?_⟩
  show GX.ag (vj 16 args (List.replicate 16 0)) r=GX.ag args r
  rw[Ak hr];split
  ·rfl
  ·next e=>rw[WV];unfold GX.ag;rw[List.getD_eq_getElem?_getD,List.getElem?_eq_none (by omega)];rfl
 ·show((Sp 0 N).set 0 _).length=N;rw[acG,lA]
 ·show Ed _ _ i (GX.ag ((Sp 0 N).set 0 _) i)
  have CG:i<N:=hi
  rw[eX (by rw[lA];omega)]
  by_cases e:i=0
  ·subst e;rw[au rfl];exact⟨rfl,rfl,rfl,rfl⟩
  ·rw[aj e,nS N 0 i CG,af3]
   refine⟨rfl,by show(-1:Int)=fi (if i=0 then some 0 else none);rw[aj e];rfl,?_⟩
   rw[show(init (cfg p N F f m) args).pc i= .gG from aj e];exact⟨rfl,rfl,by show(0:Nat)<3;decide⟩
section
variable {K:Nat}
theorem uV{x n:Int}(h1:1<=n)(h2:n<=1000) :∃i:Nat,cX x n=some (i:Int)/\(i:Int)<n:=by
 have e1:=af8 x (b:=n) (by omega)
 have e2:=acH x (show 0<n by omega)
 have e4:x.tmod n=if 0<=x∨n∣x then x%n else x%n-n:=by
  rw[Int.tmod_eq_emod];split
  ·omega
  ·rw[show((n.natAbs:Nat):Int)=n by omega]
 refine⟨(x%n).toNat,?_,by omega⟩
 rw[show(((x%n).toNat:Nat):Int)=x%n by omega]
 unfold cX
 rw[iQ_,e4]
 by_cases h:0<=x∨n∣x
 ·rw[au h,iO_]
 ·rw[aj h,iQ_,bz (by omega)];congr 1;omega
end
section
variable {K:Nat}
theorem ES{C:Am.dH}{i cj tr:Nat}{p:Am.Pc}{bs:Nat->Nat->Int}{a:aW}(h:ph C i p tr cj bs a)(CD:a.aJ=13):p= .halted:=by
 cases p<;>first | rfl | (exfalso;dsimp only [ph,RO]at h;first | omega | (have:=h.1;omega))
section
variable {C:Am.dH}{p:ay}{s:Am.St}{S:af}{M:ae}{sz n i:Nat}{D:aA}
theorem vV(h:xq C p s S)(hi:i<C.N):ik S M (i:Int)=some ((act S i).aJ==13):=by
 unfold ik
 rw[iQ_,au (by rw[h.wl];omega),au ⟨by omega,by rw[h.wl];omega⟩,Zi]
theorem B5(h:M.log.length<=2000000000):iE M=some M.log:=by
 unfold iE
 rw[au ⟨by omega,by omega⟩,au (by rw[aeb])]
end
theorem vW{C:Am.dH}{p:ay}{s:Am.St}{S:af}{M:ae}{sz n:Nat}(b:j0 C p s S M sz n)(w:Bool):j0 C p s S {M with watched:=w} sz n:=
 { b with ar:=⟨b.ar.size,b.ar.s1,b.ar.fit,b.ar.mark,b.ar.cl,b.ar.lg⟩}
end
end Mo
end
section
namespace Am
structure uW where
 st:Nat->Nat
 gH:Nat->Int
 aR:Nat->Nat
def tW(C:dH)(o:uW)(e:Ev):Prop:=
 if e.kind=2 then o.st e.an.toNat=0/\o.st e.x.toNat=2/\e.v=C.pd (o.gH e.x.toNat) (o.aR e.x.toNat)/\e.an.toNat≠e.x.toNat
 else if e.kind=1 then o.st e.an.toNat=1/\e.v=1
 else if e.kind=6 then o.st e.an.toNat=2
 else True
def sD(C:dH)(o:uW)(e:Ev):uW:=
 if e.kind=2 then⟨bq o.st e.an.toNat 1,bq o.gH e.an.toNat (C.pd (o.gH e.x.toNat) (o.aR e.x.toNat)),bq o.aR e.x.toNat (o.aR e.x.toNat+1)⟩
 else if e.kind=1 then {o with st:=bq o.st e.an.toNat 2}
 else if e.kind=6 then {o with st:=bq o.st e.an.toNat 3}
 else o
def B6:Loc->Option Nat
 | .free | .ct _=>some 0
 | .yp _ | .pop _=>some 1
 | .Q5 _ | .waiting | .Sq _=>some 2
 | .fin _ | .gone=>some 3
 | .held _=>none
def plain:BI->Bool
 | .fork _ | .push _ | .full=>false
 | _=>true
structure OI(C:dH)(w:W)(o:uW):Prop where
 a:∀f n,B6 (w.v.loc f)=some n->o.st f=n
 h:∀i f,i<C.N->w.v.hold i=some f->o.st f=if w.v.g i= .start then 1 else 2
 p:∀f,f<w.v.nf->o.st f≠0->o.gH f=w.gH f
 k:∀f,f<w.v.nf->(∀i,i<C.N->w.v.hold i=some f->plain (w.v.g i)=true)->o.aR f=w.kc f
 fk:∀i c f,i<C.N->w.v.hold i=some f->w.v.g i= .fork c->w.kc f=o.aR f+1/\w.gH c=C.pd (w.gH f) (o.aR f)
 ps:∀i c f,i<C.N->w.v.hold i=some f->w.v.g i= .push c->w.kc f=o.aR f+1/\w.gH c=C.pd (w.gH f) (o.aR f)
 nw:∀f,w.v.nf<=f->o.aR f=0
attribute [grind =] bM
attribute [grind] B6 plain
theorem B7{C:dH}{o:uW}{e:Ev}:tW C o e=(if e.kind=2 then o.st e.an.toNat=0/\o.st e.x.toNat=2/\e.v=C.pd (o.gH e.x.toNat) (o.aR e.x.toNat)/\e.an.toNat≠e.x.toNat
 else if e.kind=1 then o.st e.an.toNat=1/\e.v=1
 else if e.kind=6 then o.st e.an.toNat=2
 else True):=rfl
section
variable {C:dH}{w:W}{i:Nat}{o:uW}
theorem pe{v:V}{N F:Nat}(h:v.FI N F){i j f:Nat}(hi:i<N)(hj:j<N)(h1:v.hold i=some f)(h2:v.hold j=some f):i=j:=by
 have a:=h.hold i f hi h1;have b:=h.hold j f hj h2;grind
theorem jI{v:V}{N F:Nat}(h:v.FI N F){i f:Nat}(hi:i<N)(h1:v.hold i=some f):f<v.nf:=by
 have a:=h.hold i f hi h1;have b:=h.free f;grind
theorem OI.kf(q:OI C w o)(h:w.v.FI C.N C.F)(hi:i<C.N)(hg:w.v.g i= .run){f:Nat}(hf:w.v.hold i=some f):f<w.v.nf/\o.aR f=w.kc f:=
 ⟨jI h hi hf,q.k f (jI h hi hf) (λj hj Lb=>by rw[<-pe h hi hj hf Lb,hg];rfl)⟩
theorem OI.full(q:OI C w o)(h:w.v.FI C.N C.F)(hi:i<C.N){c:Nat}(hg:w.v.g i= .push c) :
 OI C {w with v:={w.v with g:=bq w.v.g i .full}} o where
 a:=q.a
 h:=by have z0:=q.h;have z1:=q.a;have y0:=h.hold;grind
 p:=q.p
 k:=by have z0:=q.k;have z1:=q.a;have z2:=q.h;have y0:=h.hold;grind
 fk:=by have z0:=q.fk;have z1:=q.a;have z2:=q.h;have y0:=h.hold;grind
 ps:=by have z0:=q.ps;have z1:=q.a;have z2:=q.h;have y0:=h.hold;grind
 nw:=q.nw
theorem OI.start(q:OI C w o)(h:w.v.FI C.N C.F)(hi:i<C.N){f:Nat}(hg:w.v.g i= .start)(hf:w.v.hold i=some f){m:Int} :
 OI C {w with v:={w.v with g:=bq w.v.g i .run,mark:=bq w.v.mark f m},fx:=bq w.fx i 0} {o with st:=bq o.st f 2} where
 a:=by have z0:=q.a;have z1:=q.h;have y0:=h.hold;grind
 h:=by have z0:=q.h;have z1:=q.a;have y0:=h.hold;grind
 p:=by have z0:=q.p;have z1:=q.a;have z2:=q.h;have y0:=h.hold;grind
 k:=by have z0:=q.k;have z1:=q.a;have z2:=q.h;have y0:=h.hold;grind
 fk:=by have z0:=q.fk;have z1:=q.a;have z2:=q.h;have y0:=h.hold;grind
 ps:=by have z0:=q.ps;have z1:=q.a;have z2:=q.h;have y0:=h.hold;grind
 nw:=q.nw
theorem OI.spawn(q:OI C w o)(h:w.v.FI C.N C.F)(hi:i<C.N){f:Nat}(hg:w.v.g i= .run)(hf:w.v.hold i=some f)(hn:w.v.next<C.F) :
 OI C {w with v:={w.v with g:=bq w.v.g i (.fork w.v.nf),next:=w.v.next+1,nf:=w.v.nf+1,par:=bq w.v.par w.v.nf f,loc:=bq w.v.loc w.v.nf (.ct i)},gH:=bq w.gH w.v.nf (C.pd (w.gH f) (w.kc f)),kc:=bq (bq w.kc f (w.kc f+1)) w.v.nf 0} o where
 a:=by have z0:=q.a;have z1:=q.h;have z2:=q.k;have z3:=q.nw;have y0:=h.hold;have y1:=h.free;have y2:=h.used;have y3:=h.fk;have y4:=h.ps;have y5:=h.new;grind
 h:=by have z0:=q.h;have z1:=q.a;have z2:=q.k;have z3:=q.nw;have y0:=h.hold;have y1:=h.free;have y2:=h.used;have y3:=h.fk;have y4:=h.ps;have y5:=h.new;grind
 p:=by have z0:=q.p;have z1:=q.a;have z2:=q.h;have z3:=q.k;have z4:=q.nw;have y0:=h.hold;have y1:=h.free;have y2:=h.used;have y3:=h.fk;have y4:=h.ps;have y5:=h.new;grind
 k:=by have z0:=q.k;have z1:=q.a;have z2:=q.h;have z3:=q.nw;have y0:=h.hold;have y1:=h.free;have y2:=h.used;have y3:=h.fk;have y4:=h.ps;have y5:=h.new;grind
 fk:=λj c g hj hh ET=>by
  obtain⟨y1,y2⟩:=q.kf h hi hg hf
  have y3:=jI h hj hh
  have y4:=h.free w.v.nf (aea _)
  have y5:g=f->i=j:=λe=>pe h hi hj hf (by rw[<-e];exact hh)
  have y6:=q.fk j c g hj hh
  have y7:=h.fk j c hj
  simp only[bM]at ET⊢
  by_cases e:j=i
  ·subst e;have:g=f:=Option.some.inj (hh.symm.trans hf);grind
  ·rw[aj e]at ET;grind
 ps:=λj c g hj hh ET=>by
  obtain⟨y1,y2⟩:=q.kf h hi hg hf
  have y3:=jI h hj hh
  have y4:=h.free w.v.nf (aea _)
  have y5:g=f->i=j:=λe=>pe h hi hj hf (by rw[<-e];exact hh)
  have y6:=q.ps j c g hj hh
  have y7:=h.ps j c hj
  simp only[bM]at ET⊢
  by_cases e:j=i
  ·subst e;have:g=f:=Option.some.inj (hh.symm.trans hf);grind
  ·rw[aj e]at ET;grind
 nw:=by have z0:=q.nw;have z1:=q.a;have z2:=q.h;have z3:=q.k;have y0:=h.hold;have y1:=h.free;have y2:=h.used;have y3:=h.fk;have y4:=h.ps;have y5:=h.new;grind
theorem OI.mz(q:OI C w o)(h:w.v.FI C.N C.F)(hi:i<C.N)(hg:w.v.g i= .run) :
 OI C {w with v:={w.v with g:=bq w.v.g i .full,next:=w.v.next+1}} o where
 a:=q.a
 h:=by have z0:=q.h;have z1:=q.a;have y0:=h.hold;grind
 p:=q.p
 k:=by have z0:=q.k;have z1:=q.a;have z2:=q.h;have y0:=h.hold;grind
 fk:=by have z0:=q.fk;have z1:=q.a;have z2:=q.h;have y0:=h.hold;grind
 ps:=by have z0:=q.ps;have z1:=q.a;have z2:=q.h;have y0:=h.hold;grind
 nw:=q.nw
theorem OI.fork(q:OI C w o)(h:w.v.FI C.N C.F)(hi:i<C.N){c f:Nat}(hg:w.v.g i= .fork c)(hf:w.v.hold i=some f) :
 OI C {w with v:={w.v with g:=bq w.v.g i (.push c),join:=bq w.v.join f (w.v.join f+1),aR:=bq w.v.aR f (c::w.v.aR f)}} o where
 a:=q.a
 h:=by have z0:=q.h;have z1:=q.a;have z2:=q.fk;have y0:=h.hold;grind
 p:=q.p
 k:=by have z0:=q.k;have z1:=q.a;have z2:=q.h;have z3:=q.fk;have y0:=h.hold;grind
 fk:=by have z0:=q.fk;have z1:=q.a;have z2:=q.h;have y0:=h.hold;grind
 ps:=by have z0:=q.ps;have z1:=q.a;have z2:=q.h;have z3:=q.fk;have y0:=h.hold;grind
 nw:=q.nw
theorem OI.push(q:OI C w o)(h:w.v.FI C.N C.F)(hi:i<C.N){c f:Nat}(hg:w.v.g i= .push c)(hf:w.v.hold i=some f) :
 OI C {w with v:={w.v with g:=bq w.v.g i .run,q:=bq w.v.q i (w.v.q i++[c]),loc:=bq w.v.loc c (.yp i)}} ⟨bq o.st c 1,bq o.gH c (C.pd (o.gH f) (o.aR f)),bq o.aR f (o.aR f+1)⟩ where
 a:=by have z0:=q.a;have z1:=q.h;have z2:=q.ps;have z3:=q.p;have z4:=q.nw;have y0:=h.hold;have y1:=h.ps;have y2:=h.fk;have y3:=h.free;grind
 h:=by have z0:=q.h;have z1:=q.a;have z2:=q.ps;have z3:=q.p;have z4:=q.nw;have y0:=h.hold;have y1:=h.ps;have y2:=h.fk;have y3:=h.free;grind
 p:=by have z0:=q.p;have z1:=q.a;have z2:=q.h;have z3:=q.ps;have z4:=q.nw;have y0:=h.hold;have y1:=h.ps;have y2:=h.fk;have y3:=h.free;grind
 k:=by have z0:=q.k;have z1:=q.a;have z2:=q.h;have z3:=q.ps;have z4:=q.p;have z5:=q.nw;have y0:=h.hold;have y1:=h.ps;have y2:=h.fk;have y3:=h.free;grind
 fk:=by have z0:=q.fk;have z1:=q.a;have z2:=q.h;have z3:=q.ps;have z4:=q.p;have z5:=q.nw;have y0:=h.hold;have y1:=h.ps;have y2:=h.fk;have y3:=h.free;grind
 ps:=by have z0:=q.ps;have z1:=q.a;have z2:=q.h;have z3:=q.p;have z4:=q.nw;have y0:=h.hold;have y1:=h.ps;have y2:=h.fk;have y3:=h.free;grind
 nw:=by have z0:=q.nw;have z1:=q.a;have z2:=q.h;have z3:=q.ps;have z4:=q.p;have y0:=h.hold;have y1:=h.ps;have y2:=h.fk;have y3:=h.free;grind
theorem OI.wait(q:OI C w o)(h:w.v.FI C.N C.F)(hi:i<C.N){f:Nat}(hg:w.v.g i= .run)(hf:w.v.hold i=some f) :
 OI C {w with v:={w.v with g:=bq w.v.g i .none,hold:=bq w.v.hold i none,join:=bq w.v.join f (w.v.join f-1),loc:=bq w.v.loc f .waiting}} o where
 a:=by have z0:=q.a;have z1:=q.h;have y0:=h.hold;grind
 h:=by have z0:=q.h;have z1:=q.a;have y0:=h.hold;grind
 p:=q.p
 k:=by have z0:=q.k;have z1:=q.a;have z2:=q.h;have y0:=h.hold;grind
 fk:=by have z0:=q.fk;have z1:=q.a;have z2:=q.h;have y0:=h.hold;grind
 ps:=by have z0:=q.ps;have z1:=q.a;have z2:=q.h;have y0:=h.hold;grind
 nw:=q.nw
theorem OI.pass(q:OI C w o)(h:w.v.FI C.N C.F)(hi:i<C.N){f:Nat}(hg:w.v.g i= .run)(hf:w.v.hold i=some f) :
 OI C {w with v:={w.v with g:=bq w.v.g i .one,join:=bq w.v.join f (w.v.join f-1),loc:=bq w.v.loc f (.Q5 i)}} o where
 a:=by have z0:=q.a;have z1:=q.h;have y0:=h.hold;grind
 h:=by have z0:=q.h;have z1:=q.a;have y0:=h.hold;grind
 p:=q.p
 k:=by have z0:=q.k;have z1:=q.a;have z2:=q.h;have y0:=h.hold;grind
 fk:=by have z0:=q.fk;have z1:=q.a;have z2:=q.h;have y0:=h.hold;grind
 ps:=by have z0:=q.ps;have z1:=q.a;have z2:=q.h;have y0:=h.hold;grind
 nw:=q.nw
theorem OI.one(q:OI C w o)(h:w.v.FI C.N C.F)(hi:i<C.N){f:Nat}(hg:w.v.g i= .one)(hf:w.v.hold i=some f) :
 OI C {w with v:={w.v with g:=bq w.v.g i .run,join:=bq w.v.join f 1,loc:=bq w.v.loc f (.held i)}} o where
 a:=by have z0:=q.a;have z1:=q.h;have y0:=h.hold;grind
 h:=by have z0:=q.h;have z1:=q.a;have y0:=h.hold;grind
 p:=q.p
 k:=by have z0:=q.k;have z1:=q.a;have z2:=q.h;have y0:=h.hold;grind
 fk:=by have z0:=q.fk;have z1:=q.a;have z2:=q.h;have y0:=h.hold;grind
 ps:=by have z0:=q.ps;have z1:=q.a;have z2:=q.h;have y0:=h.hold;grind
 nw:=q.nw
theorem OI.Yd(q:OI C w o)(h:w.v.FI C.N C.F)(hi:i<C.N)(hg:w.v.g i= .run)(hf:w.v.hold i=some 0) :
 OI C {w with v:={w.v with g:=bq w.v.g i .none,hold:=bq w.v.hold i none,loc:=bq w.v.loc 0 (.fin i)}} {o with st:=bq o.st 0 3} where
 a:=by have z0:=q.a;have z1:=q.h;have y0:=h.hold;grind
 h:=by have z0:=q.h;have z1:=q.a;have y0:=h.hold;grind
 p:=by have z0:=q.p;have z1:=q.a;have z2:=q.h;have y0:=h.hold;grind
 k:=by have z0:=q.k;have z1:=q.a;have z2:=q.h;have y0:=h.hold;grind
 fk:=by have z0:=q.fk;have z1:=q.a;have z2:=q.h;have y0:=h.hold;grind
 ps:=by have z0:=q.ps;have z1:=q.a;have z2:=q.h;have y0:=h.hold;grind
 nw:=q.nw
theorem OI.ret(q:OI C w o)(h:w.v.FI C.N C.F)(hi:i<C.N){f:Nat}(hg:w.v.g i= .run)(hf:w.v.hold i=some f)(h0:f≠0) :
 OI C {w with v:={w.v with g:=bq w.v.g i (.out (w.v.par f) f),hold:=bq w.v.hold i none,loc:=bq w.v.loc f (.fin i)}} {o with st:=bq o.st f 3} where
 a:=by have z0:=q.a;have z1:=q.h;have y0:=h.hold;grind
 h:=by have z0:=q.h;have z1:=q.a;have y0:=h.hold;grind
 p:=by have z0:=q.p;have z1:=q.a;have z2:=q.h;have y0:=h.hold;grind
 k:=by have z0:=q.k;have z1:=q.a;have z2:=q.h;have y0:=h.hold;grind
 fk:=by have z0:=q.fk;have z1:=q.a;have z2:=q.h;have y0:=h.hold;grind
 ps:=by have z0:=q.ps;have z1:=q.a;have z2:=q.h;have y0:=h.hold;grind
 nw:=q.nw
theorem OI.td(q:OI C w o)(h:w.v.FI C.N C.F)(hi:i<C.N){p c:Nat}(hg:w.v.g i= .out p c) :
 OI C {w with v:={w.v with g:=bq w.v.g i .none,join:=bq w.v.join p (w.v.join p-1),aR:=bq w.v.aR p ((w.v.aR p).erase c),loc:=bq w.v.loc c .gone}} o where
 a:=by have z0:=q.a;have z1:=q.h;have y0:=h.hold;have y1:=h.out;grind
 h:=by have z0:=q.h;have z1:=q.a;have y0:=h.hold;have y1:=h.out;grind
 p:=q.p
 k:=by have z0:=q.k;have z1:=q.a;have z2:=q.h;have y0:=h.hold;have y1:=h.out;grind
 fk:=by have z0:=q.fk;have z1:=q.a;have z2:=q.h;have y0:=h.hold;have y1:=h.out;grind
 ps:=by have z0:=q.ps;have z1:=q.a;have z2:=q.h;have y0:=h.hold;have y1:=h.out;grind
 nw:=q.nw
theorem OI.tg(q:OI C w o)(h:w.v.FI C.N C.F)(hi:i<C.N){p c:Nat}(hg:w.v.g i= .out p c)(hn:w.v.join p-1=0) :
 OI C {w with v:={w.v with g:=bq w.v.g i (.take p c),join:=bq w.v.join p (w.v.join p-1),aR:=bq w.v.aR p ((w.v.aR p).erase c),loc:=bq (bq w.v.loc c .gone) p (.Sq i)}} o where
 a:=by have y8:=h.cT hi hg hn;have z0:=q.a;have z1:=q.h;have y0:=h.hold;have y1:=h.out;grind
 h:=by have y8:=h.cT hi hg hn;have z0:=q.h;have z1:=q.a;have y0:=h.hold;have y1:=h.out;grind
 p:=q.p
 k:=by have y8:=h.cT hi hg hn;have z0:=q.k;have z1:=q.a;have z2:=q.h;have y0:=h.hold;have y1:=h.out;grind
 fk:=by have y8:=h.cT hi hg hn;have z0:=q.fk;have z1:=q.a;have z2:=q.h;have y0:=h.hold;have y1:=h.out;grind
 ps:=by have y8:=h.cT hi hg hn;have z0:=q.ps;have z1:=q.a;have z2:=q.h;have y0:=h.hold;have y1:=h.out;grind
 nw:=q.nw
theorem OI.take(q:OI C w o)(h:w.v.FI C.N C.F)(hi:i<C.N){p c:Nat}(hg:w.v.g i= .take p c) :
 OI C {w with v:={w.v with g:=bq w.v.g i .run,hold:=bq w.v.hold i (some p),join:=bq w.v.join p 1,loc:=bq w.v.loc p (.held i)}} o where
 a:=by have z0:=q.a;have z1:=q.h;have y0:=h.hold;have y1:=h.tk;grind
 h:=by have z0:=q.h;have z1:=q.a;have y0:=h.hold;have y1:=h.tk;grind
 p:=q.p
 k:=by have z0:=q.k;have z1:=q.a;have z2:=q.h;have y0:=h.hold;have y1:=h.tk;grind
 fk:=by have z0:=q.fk;have z1:=q.a;have z2:=q.h;have y0:=h.hold;have y1:=h.tk;grind
 ps:=by have z0:=q.ps;have z1:=q.a;have z2:=q.h;have y0:=h.hold;have y1:=h.tk;grind
 nw:=q.nw
theorem OI.eI(q:OI C w o)(h:w.v.FI C.N C.F)(hi:i<C.N){x:Nat}{l:List Nat}(hg:w.v.g i= .none)(hq:w.v.q i=l++[x]) :
 OI C {w with v:={w.v with q:=bq w.v.q i l,loc:=bq w.v.loc x (.pop i),pop:=bq w.v.pop i (some x)}} o where
 a:=by have z0:=q.a;have z1:=q.h;have y0:=h.hold;have y1:=h.q;grind
 h:=q.h
 p:=q.p
 k:=q.k
 fk:=q.fk
 ps:=q.ps
 nw:=q.nw
theorem OI.th(q:OI C w o)(h:w.v.FI C.N C.F)(hi:i<C.N){x:Nat}(hg:w.v.g i= .none)(hq:w.v.q i=[x]) :
 OI C {w with v:={w.v with q:=bq w.v.q i [],loc:=bq w.v.loc x (.pop i),pop:=bq w.v.pop i (some x)}} o where
 a:=by have z0:=q.a;have z1:=q.h;have y0:=h.hold;have y1:=h.q;grind
 h:=q.h
 p:=q.p
 k:=q.k
 fk:=q.fk
 ps:=q.ps
 nw:=q.nw
theorem OI.got(q:OI C w o)(h:w.v.FI C.N C.F)(hi:i<C.N){x:Nat}(hg:w.v.g i= .none)(hx:w.v.pop i=some x) :
 OI C {w with v:={w.v with g:=bq w.v.g i .start,hold:=bq w.v.hold i (some x),loc:=bq w.v.loc x (.held i),pop:=bq w.v.pop i none},fx:=bq w.fx i (-1)} o where
 a:=by have z0:=q.a;have z1:=q.h;have y0:=h.hold;have y1:=h.pop;have y2:=h.hr;grind
 h:=by have z0:=q.h;have z1:=q.a;have y0:=h.hold;have y1:=h.pop;have y2:=h.hr;grind
 p:=q.p
 k:=by have z0:=q.k;have z1:=q.a;have z2:=q.h;have y0:=h.hold;have y1:=h.pop;have y2:=h.hr;grind
 fk:=by have z0:=q.fk;have z1:=q.a;have z2:=q.h;have y0:=h.hold;have y1:=h.pop;have y2:=h.hr;grind
 ps:=by have z0:=q.ps;have z1:=q.a;have z2:=q.h;have y0:=h.hold;have y1:=h.pop;have y2:=h.hr;grind
 nw:=q.nw
theorem OI.oX(q:OI C w o)(h:w.v.FI C.N C.F)(hi:i<C.N){k x:Nat}{l:List Nat}(hk:k<C.N)(hg:w.v.g i= .none)(hx:w.v.q k=x::l) :
 OI C {w with v:={w.v with g:=bq w.v.g i .start,hold:=bq w.v.hold i (some x),loc:=bq w.v.loc x (.held i),q:=bq w.v.q k l},fx:=bq w.fx i k} o where
 a:=by have z0:=q.a;have z1:=q.h;have y0:=h.hold;have y1:=h.q;have y2:=h.hr;grind
 h:=by have z0:=q.h;have z1:=q.a;have y0:=h.hold;have y1:=h.q;have y2:=h.hr;grind
 p:=q.p
 k:=by have z0:=q.k;have z1:=q.a;have z2:=q.h;have y0:=h.hold;have y1:=h.q;have y2:=h.hr;grind
 fk:=by have z0:=q.fk;have z1:=q.a;have z2:=q.h;have y0:=h.hold;have y1:=h.q;have y2:=h.hr;grind
 ps:=by have z0:=q.ps;have z1:=q.a;have z2:=q.h;have y0:=h.hold;have y1:=h.q;have y2:=h.hr;grind
 nw:=q.nw
theorem OI.step{w':W}{e:Option Ev}(t:Tr C i w e w')(hi:i<C.N)(h:w.v.FI C.N C.F)(q:OI C w o):match e with
 | none=>OI C w' o
 | some e=>tW C o e/\OI C w' (sD C o e):=by
 cases t with
 | cg e he =>
  cases e with
  | none=>exact q
  | some x =>
   have:x.kind≠1/\x.kind≠2/\x.kind≠6:=by
    simp only[quiet,af6,afT]at he;omega
   obtain⟨a1,a2,a3⟩:=this
   simp only[B7,sD,aj a1,aj a2,aj a3];exact⟨trivial,q⟩
 | full c hg=>exact⟨trivial,q.full h hi hg⟩
 | start f hg hf=>exact⟨⟨by rw[show((f:Int)).toNat=f from rfl,q.h i f hi hf,au hg],by show w.v.mark f+1=1;rw[h.SQ i f hi hg hf];rfl⟩,q.start h hi hg hf⟩
 | spawn f hg hf hn=>exact q.spawn h hi hg hf hn
 | mz hg hn=>exact⟨trivial,q.mz h hi hg⟩
 | fork c f hg hf=>exact q.fork h hi hg hf
 | push c f hg hf =>
  have z:=h.ps i c hi hg
  have zf:f=w.v.par c:=Option.some.inj (hf.symm.trans z.2.2.1)
  have z1:o.st f=2:=by rw[q.h i f hi hf,hg];rfl
  have z2:o.st c=0:=q.a c 0 (by rw[z.2.1];rfl)
  have z3:=(q.ps i c f hi hf hg).2
  refine⟨⟨z2,z1,?_,λe => ?_⟩,q.push h hi hg hf⟩
  ·show w.gH c=C.pd (o.gH f) (o.aR f)
   rw[z3,q.p f (jI h hi hf) (by rw[z1];omega)]
  ·have e:c=f:=e;rw[e,z1]at z2;cases z2
 | wait f hg hf hk=>exact⟨trivial,q.wait h hi hg hf⟩
 | pass f hg hf hk=>exact q.pass h hi hg hf
 | one f hg hf=>exact⟨trivial,q.one h hi hg hf⟩
 | Yd v hg hf=>exact⟨by show o.st 0=2;rw[q.h i 0 hi hf,hg];rfl,q.Yd h hi hg hf⟩
 | ret f v hg hf h0=>exact⟨by show o.st f=2;rw[q.h i f hi hf,hg];rfl,q.ret h hi hg hf h0⟩
 | td p c hg hn=>exact q.td h hi hg
 | tg p c hg hn=>exact q.tg h hi hg hn
 | take p c hg=>exact⟨trivial,q.take h hi hg⟩
 | eI x l hg hq=>exact q.eI h hi hg hq
 | th x hg hq=>exact q.th h hi hg hq
 | got x hg hx=>exact q.got h hi hg hx
 | oX k x l hk qR hg hx=>exact⟨trivial,q.oX h hi hk hg hx⟩
theorem OI.agS{w':W}{e:Option Ev}(tr:Tr C i w e w')(hi:i<C.N)(h:w.v.FI C.N C.F)(q:OI C w o):(e=none->OI C w' o)/\∀x,e=some x->tW C o x/\OI C w' (sD C o x):=by
 have:=OI.step tr hi h q
 cases e with
 | none=>exact⟨λ_=>this,λx h=>(by cases h)⟩
 | some x=>exact⟨λh=>(by cases h),λy hy=>(by cases hy;exact this)⟩
end
section
variable {C:dH}{i:Nat}{w w':W}{e:Option Ev}
theorem Tr.yj(t:Tr C i w e w'){j:Nat}(hj:j≠i):w'.v.g j=w.v.g j/\w'.v.hold j=w.v.hold j/\w'.fx j=w.fx j:=by
 cases t<;>simp only[bM,aj hj,and_self]
theorem Tr.idle(t:Tr C i w e w')(hb:busy (w.v.g i)=false):w'.v.nf=w.v.nf/\∀x,e=some x->x.kind≠11/\x.kind≠1:=by
 cases t with
 | cg e he =>
  refine⟨rfl,λx hx => ?_⟩
  subst hx
  simp only[quiet,af6,afT]at he
  omega
 | full c hg=>rw[hg]at hb;cases hb
 | start f hg hf=>rw[hg]at hb;cases hb
 | spawn f hg hf hn=>rw[hg]at hb;cases hb
 | mz hg hn=>rw[hg]at hb;cases hb
 | fork c f hg hf=>rw[hg]at hb;cases hb
 | push c f hg hf=>rw[hg]at hb;cases hb
 | wait f hg hf hk=>rw[hg]at hb;cases hb
 | pass f hg hf hk=>rw[hg]at hb;cases hb
 | one f hg hf=>rw[hg]at hb;cases hb
 | Yd v hg hf=>rw[hg]at hb;cases hb
 | ret f v hg hf h0=>rw[hg]at hb;cases hb
 | _=>exact⟨rfl,λx hx=>by cases hx<;>exact⟨by show(_:Nat)≠11;simp[ev],by show(_:Nat)≠1;simp[ev]⟩⟩
theorem Tr.inr(t:Tr C i w e w')(hi:i<C.N)(h:w.v.FI C.N C.F):∀x,e=some x->(x.kind=1∨x.kind=2∨x.kind=6->0<=x.an/\x.an<C.F)/\(x.kind=2->0<=x.x/\x.x<C.F):=by
 have hF:=h.RV
 intro x hx
 cases t with
 | cg e he =>
  subst hx
  simp only[quiet,af6,afT]at he
  constructor<;>intro h'<;>omega
 | start f hg hf =>
  have:=jI h hi hf
  cases hx
  exact⟨λ_=>⟨by show(0:Int)<=(f:Int);omega,by show(f:Int)<C.F;omega⟩,λh'=>by cases h'⟩
 | push c f hg hf =>
  have:=jI h hi hf
  have z:=h.ps i c hi hg
  have hc:c<w.v.nf:=by
   rcases agl c w.v.nf with h' | h'
   ·exact h'
   ·have:=h.free c h';rw[z.2.1]at this;cases this
  cases hx
  exact⟨λ_=>⟨by show(0:Int)<=(c:Int);omega,by show(c:Int)<C.F;omega⟩,λ_=>⟨by show(0:Int)<=(f:Int);omega,by show(f:Int)<C.F;omega⟩⟩
 | Yd v hg hf =>
  have:=jI h hi hf
  cases hx
  exact⟨λ_=>⟨by show(0:Int)<=(0:Int);omega,by show(0:Int)<C.F;omega⟩,λh'=>by cases h'⟩
 | ret f v hg hf h0 =>
  have:=jI h hi hf
  cases hx
  exact⟨λ_=>⟨by show(0:Int)<=(f:Int);omega,by show(f:Int)<C.F;omega⟩,λh'=>by cases h'⟩
 | _=>cases hx<;>exact⟨λh'=>by simp[ev]at h',λh'=>by simp[ev]at h'⟩
theorem Tr.k0(t:Tr C i w e w'):∀x,e=some x->x.kind≠0:=by
 intro x hx
 cases t with
 | cg e he =>
  subst hx
  simp only[quiet,af6,afT]at he
  omega
 | _=>cases hx<;>(show(_:Nat)≠0;simp[ev])
theorem Tr.v1(t:Tr C i w e w')(hi:i<C.N)(h:w.v.FI C.N C.F):∀x,e=some x->x.kind=1->x.v=1:=by
 intro x hx hk
 cases t with
 | cg e he =>
  subst hx
  simp only[quiet,af6,afT]at he
  omega
 | start f hg hf =>
  cases hx
  show w.v.mark f+1=1
  rw[h.SQ i f hi hg hf];rfl
 | _=>cases hx<;>(exfalso;simp[ev]at hk)
def Q0(w:W):Prop:=w.v.g 0= .start/\w.fx 0=-1/\w.v.hold 0=some 0/\w.v.nf=1
theorem Q0.step(t:Tr C i w e w')(h0:i≠0)(hi:i<C.N)(h:w.v.FI C.N C.F)(q:Q0 w):Q0 w'/\∀x,e=some x->x.kind≠11/\x.kind≠1:=by
 obtain⟨q1,q2,q3,q4⟩:=q
 have hb:busy (w.v.g i)=false:=by
  cases hb:busy (w.v.g i)with
  | false=>rfl
  | true =>
   exfalso
   have:=h.hs i hi hb
   cases hh:w.v.hold i with
   | none=>exact this hh
   | some f =>
    have hf:=jI h hi hh
    obtain rfl:f=0:=by omega
    have a:=h.hold 0 0 (by omega) q3
    have b:=h.hold i 0 hi hh
    rw[q1]at a
    rcases a with ⟨a,_⟩ | ⟨_,a⟩
    ·cases a
    ·rcases b with ⟨_,b⟩ | ⟨_,b⟩<;>rw[a]at b<;>cases b
     exact h0 rfl
 obtain⟨t1,t2⟩:=t.idle hb
 obtain⟨o1,o2,o3⟩:=t.yj (Ne.symm h0)
 exact⟨⟨by rw[o1,q1],by rw[o3,q2],by rw[o2,q3],by rw[t1,q4]⟩,t2⟩
end
end Am
end
section
namespace Mo
open Go Go.RowKit SL GX
noncomputable section
variable {z w:World}{L:List M5}
structure eW where
 hM:List Int
 nH:List Int
deriving Inhabited,DecidableEq
abbrev aeL(B:Nat)(S:eW)(a0:Option Addr)(c0:Nat)(a1:Option Addr)(c1:Nat):M5:=pts B (.cells #[.slice a0 S.hM.length c0,.slice a1 S.nH.length c1] 30)
abbrev Vv(a:Option Addr)(c:Nat)(l:List ah):M5:=rowOf 47 6 Ow (.slice a l.length c) l
structure tX where
 Im:Int
 Index:Int
 Func:Int
 Io:Int
 Ped:Int
 Arg:Int
 V:Int
deriving Inhabited,DecidableEq
structure uX where
 Left:Int
 AX:Int
 JF:List tX
 Deep:Int
deriving Inhabited,DecidableEq
structure tY where
 Me:Int
 EU:Int
 L4:List Int
 Lc:List Int
 At:Int
 JG:Int
 End:Int
 Kids:Int
deriving Inhabited,DecidableEq
structure Ao where
 V:Int
 Io:Int
 JH:Int
 EU:Int
 Span:Int
deriving Inhabited,DecidableEq
def fM(K:Nat)(p0:aN)(vk:Int):Nat->(List bC)->Int->Option ((List bC))
 | 0,_,_=>none
 | k2+1,wL,F4=>(if F4<(((ag p0.cG vk.toNat).Code.length:Nat):Int)then if aZ F4 (ag p0.cG vk.toNat).Code.length then if(wL.length+1)*40<=140737488355328 then(fM K p0 vk k2 (wL++[ag (ag p0.cG vk.toNat).Code F4.toNat]) (wi (F4+1)))else none else none else some wL)
def fN(K:Nat)(p0:aN):Nat->(List ax)->Int->Option ((List ax))
 | 0,_,_=>none
 | k1+1,Ip,vk=>(if vk<((p0.cG.length:Nat):Int)then bH (if aZ vk p0.cG.length then bH ((fM K p0 vk K ([]:List bC) 0)) (λGY=>if(Ip.length+1)*48<=140737488355328 then some (Ip++[{ag p0.cG vk.toNat with Code:=GY}])else none)else none) (λLd=>(fN K p0 k1 Ld (wi (vk+1))))else some Ip)
def fO(K:Nat)(p0:aN):Nat->(List Int)->Int->Option ((List Int))
 | 0,_,_=>none
 | k3+1,Iq,F5=>(if F5<((p0.mc.length:Nat):Int)then if aZ F5 p0.mc.length then if(Iq.length+1)*8<=140737488355328 then(fO K p0 k3 (Iq++[(ag p0.mc F5.toNat)]) (wi (F5+1)))else none else none else some Iq)
def fP(K:Nat)(p0:aN):Nat->(List Int)->Int->Option ((List Int))
 | 0,_,_=>none
 | k4+1,Ir,F6=>(if F6<((p0.Nm.length:Nat):Int)then if aZ F6 p0.Nm.length then if(Ir.length+1)*8<=140737488355328 then(fP K p0 k4 (Ir++[(ag p0.Nm F6.toNat)]) (wi (F6+1)))else none else none else some Ir)
def fQ(K:Nat)(p0:aN)(l6:List ax)(F7:List Int)(F8:List Int):Nat->(List Int)->Int->Option (aN)
 | 0,_,_=>none
 | k5+1,Is,F9=>(if F9<((p0.gQ.length:Nat):Int)then if aZ F9 p0.gQ.length then if(Is.length+1)*8<=140737488355328 then(fQ K p0 l6 F7 F8 k5 (Is++[(ag p0.gQ F9.toNat)]) (wi (F9+1)))else none else none else some ({p0 with cG:=l6,mc:=F7,Nm:=F8,gQ:=Is}))
def jm(K:Nat)(p0:aN):Option (aN):=
 bH ((fN K p0 K ([]:List ax) 0)) (λl6=>bH ((fO K p0 K ([]:List Int) 0)) (λF7=>bH ((fP K p0 K ([]:List Int) 0)) (λF8=>(fQ K p0 l6 F7 F8 K ([]:List Int) 0))))
abbrev afW (B:Nat) (S:aN) (a0:Option Addr) (c0:Nat) (a1:Option Addr) (c1:Nat) (a6:Option Addr) (c6:Nat) (a7:Option Addr) (c7:Nat) (q:Nat):M5:=pts B (.cells #[.slice a0 q c0,.slice a1 S.mc.length c1,vI S.ez,vI S.MU,vI S.j8,vI S.kU,.slice a6 S.Nm.length c6,.slice a7 S.gQ.length c7] 32)
theorem TP{K:Nat}{p0 r0:aN}{Aw Fe AA AE:Option Addr}{Ax Ff AB AF:Nat}{Az:Nat->Option Addr×Nat}(H:jm K p0=some r0)(h:ft_ z (L) w)(Ay:T3 L Aw Az p0.cG)(Fg:jJ L 1 oE Fe p0.mc)(AD:jJ L 1 oE AA p0.Nm)(AG:jJ L 1 oE AE p0.gQ) :
 Calls Tryz.prog 30 #[.agg #[.slice Aw p0.cG.length Ax,.slice Fe p0.mc.length Ff,vI p0.ez,vI p0.MU,vI p0.j8,vI p0.kU,.slice AA p0.Nm.length AB,.slice AE p0.gQ.length AF]] w λe w=>∃y1 y2 y3 y4 y5 y6 y7 y8,e=.returned (.agg #[.slice y1 r0.cG.length y2,.slice y3 r0.mc.length y4,vI r0.ez,vI r0.MU,vI r0.j8,vI r0.kU,.slice y5 r0.Nm.length y6,.slice y7 r0.gQ.length y8])/\Fit z (cQ (Oo y1 y2 r0.cG::OO y3 y4 r0.mc::R8 y5 y6 r0.Nm::R8 y7 y8 r0.gQ::L)) w:=by
 unfold jm at H;refine ke Tryz.func30 117 rfl λj=>ks<|kN h (#[.slice Aw p0.cG.length Ax,.slice Fe p0.mc.length Ff,vI p0.ez,vI p0.MU,vI p0.j8,vI p0.kU,.slice AA p0.Nm.length AB,.slice AE p0.gQ.length AF]) 32 λb1 w h=>kN h (#[.slice none 0 0,.slice none 0 0,vI 0,vI 0,vI 0,vI 0,.slice none 0 0,.slice none 0 0]) 32 λb2 w h=>kn<|ks<|kM (h.pick 1)<|kN h (#[.slice none 0 0,.slice none 0 0,vI 0,vI 0,vI 0,vI 0,.slice none 0 0,.slice none 0 0]) 32 λb3 w h=>kA h (UN b3 p0 Aw Ax Fe Ff AA AB AE AF) λw h=>kn<|ks<|ko Zy<|λ_ r=>stm (wn rfl) r h 0 ([.slice none 0 0]) (afW b3 p0 none 0 Fe Ff AA AB AE AF 0) λw h=>qq r<|kn<|VA H λo8 H YN=>λ_ r=>Nn (β:=Unit) (λ_ a w=>∃VO:Option Addr,∃VP:Nat,∃l6:List ax,l6=o8/\∃j,Gk 117 (lk [(1,pA b1 0),(2,pA b2 0),(3,pA b3 0)] j) a/\Fit z (cQ (UN b1 p0 Aw Ax Fe Ff AA AB AE AF::pts b2 (.cells #[.slice none 0 0,.slice none 0 0,vI 0,vI 0,vI 0,vI 0,.slice none 0 0,.slice none 0 0] 32)::afW b3 p0 VO VP Fe Ff AA AB AE AF (l6.length)::Oo VO VP l6::L)) w) ?_ ?_
 ·refine qq r<|ks<|ko [U]<|kn<|wb<|?_;replace h:=h.UF (e:=99) (sz:=4) (own:=Pm);refine λ_ r=>NB (β:=Nat) id (λm a w=>∃Nu:Option Addr,∃Nb:Nat,∃Ip:List ax,∃vk:Int,(fN K p0 m Ip vk)=some o8/\∃j,Gk 117 (lk [(1,pA b1 0),(2,pA b2 0),(3,pA b3 0),(4,vI vk)] j) a/\Fit z (cQ (UN b1 p0 Aw Ax Fe Ff AA AB AE AF::pts b2 (.cells #[.slice none 0 0,.slice none 0 0,vI 0,vI 0,vI 0,vI 0,.slice none 0 0,.slice none 0 0] 32)::afW b3 p0 Nu Nb Fe Ff AA AB AE AF (Ip.length)::Oo Nu Nb Ip::L)) w) K ⟨none,0,([]:List ax),0,H,r.fj (h.se 4 [3,2,1,0])⟩<|?_;clear h r H;rintro k1 a w ⟨Nu,Nb,Ip,vk,H,j,r,h⟩;cases k1 with
  | zero=>exact absurd H (by simp[fN])
  | succ k1 =>
   rw[fN]at H;refine qq r<|wq<|ks<|ko mT<|kL h 0<|ko [vI ((p0.cG.length:Nat):Int),vB (decide (vk<((p0.cG.length:Nat):Int)))]<|kn<|NN H (λSC H=>?_) λSC H=>?_
   ·refine wk<|tn<|VA H λo18 H acz=>λ_ r=>Nn (β:=Unit) (λ_ a w=>∃aai:Option Addr,∃ab0:Nat,∃Ld:List ax,Ld=o18/\∃j,Gk 117 (lk [(1,pA b1 0),(2,pA b2 0),(3,pA b3 0),(4,vI vk)] j) a/\Fit z (cQ (UN b1 p0 Aw Ax Fe Ff AA AB AE AF::pts b2 (.cells #[.slice none 0 0,.slice none 0 0,vI 0,vI 0,vI 0,vI 0,.slice none 0 0,.slice none 0 0] 32)::afW b3 p0 aai ab0 Fe Ff AA AB AE AF (Ld.length)::Oo aai ab0 Ld::L)) w) ?_ ?_
    ·refine qq r<|wb<|ks<|ko Zy<|kL h 0<|qg H λQO H=>ko [U]<|kp (pA (Cp Aw) (sJ Aw+vk.toNat*4)) (afq 99 Ax rfl rfl Ay QO)<|λ_ r=>RI (wn rfl) r (.agg #[vI (ag p0.cG vk.toNat).MW,vI (ag p0.cG vk.toNat).dA,vI (ag p0.cG vk.toNat).cA,.slice ((Az vk.toNat).1) (ag p0.cG vk.toNat).Code.length ((Az vk.toNat).2)]) (cs:=[vI (ag p0.cG vk.toNat).MW,vI (ag p0.cG vk.toNat).dA,vI (ag p0.cG vk.toNat).cA,.slice ((Az vk.toNat).1) (ag p0.cG vk.toNat).Code.length ((Az vk.toNat).2)]) ⟨Ay.cell QO (h.dn 4) 0 rfl,Ay.cell QO (h.dn 4) 1 rfl,Ay.cell QO (h.dn 4) 2 rfl,Ay.cell QO (h.dn 4) 3 rfl,CH⟩<|?_;refine kN h (#[vI 0,vI 0,vI 0,.slice none 0 0]) 99 λZr w h=>kA h (Qd Zr (ag p0.cG vk.toNat) ((Az vk.toNat).1) ((Az vk.toNat).2)) λw h=>kn<|ks<|ko [U]<|kL h 3<|ko [U]<|kn<|ks<|ko [U]<|kS h 3 (pts Zr (.cells #[vI (ag p0.cG vk.toNat).MW,vI (ag p0.cG vk.toNat).dA,vI (ag p0.cG vk.toNat).cA,.slice none 0 0] 99)) λw h=>kn<|VA H λo25 H aa4=>λ_ r=>Nn (β:=Unit) (λ_ a w=>∃ab1:Option Addr,∃ab2:Nat,∃GY:List bC,GY=o25/\∃j,Gk 117 (lk [(1,pA b1 0),(2,pA b2 0),(3,pA b3 0),(4,vI vk),(5,pA Zr 0)] j) a/\Fit z (cQ (UN b1 p0 Aw Ax Fe Ff AA AB AE AF::pts b2 (.cells #[.slice none 0 0,.slice none 0 0,vI 0,vI 0,vI 0,vI 0,.slice none 0 0,.slice none 0 0] 32)::afW b3 p0 Nu Nb Fe Ff AA AB AE AF (Ip.length)::Oo Nu Nb Ip::pts Zr (.cells #[vI (ag p0.cG vk.toNat).MW,vI (ag p0.cG vk.toNat).dA,vI (ag p0.cG vk.toNat).cA,.slice ab1 GY.length ab2] 99)::Xz ab1 ab2 GY::L)) w) ?_ ?_
     ·refine qq r<|ks<|ko [U]<|kn<|wb<|?_;replace h:=h.ua (e:=146) (sz:=5) (enc:=gJ);refine λ_ r=>NB (β:=Nat) id (λm a w=>∃abf:Option Addr,∃abg:Nat,∃wL:List bC,∃F4:Int,(fM K p0 vk m wL F4)=some o25/\∃j,Gk 117 (lk [(1,pA b1 0),(2,pA b2 0),(3,pA b3 0),(4,vI vk),(5,pA Zr 0),(6,.slice ((Az vk.toNat).1) (ag p0.cG vk.toNat).Code.length ((Az vk.toNat).2)),(7,vI F4)] j) a/\Fit z (cQ (UN b1 p0 Aw Ax Fe Ff AA AB AE AF::pts b2 (.cells #[.slice none 0 0,.slice none 0 0,vI 0,vI 0,vI 0,vI 0,.slice none 0 0,.slice none 0 0] 32)::afW b3 p0 Nu Nb Fe Ff AA AB AE AF (Ip.length)::Oo Nu Nb Ip::pts Zr (.cells #[vI (ag p0.cG vk.toNat).MW,vI (ag p0.cG vk.toNat).dA,vI (ag p0.cG vk.toNat).cA,.slice abf wL.length abg] 99)::Xz abf abg wL::L)) w) K ⟨none,0,([]:List bC),0,H,r.fj (h.se 6 [2,3,4,5,1,0])⟩<|?_;clear h r H;rintro k2 a w ⟨abf,abg,wL,F4,H,j,r,h⟩;cases k2 with
      | zero=>exact absurd H (by simp[fM])
      | succ k2 =>
       rw[fM]at H;refine qq r<|wq<|ks<|ko [U,U,vI (((ag p0.cG vk.toNat).Code.length:Nat):Int),vB (decide (F4<(((ag p0.cG vk.toNat).Code.length:Nat):Int)))]<|kn<|NN H (λRa H=>?_) λRa H=>?_
       ·refine wk<|tn<|wq<|wb<|qg H λRw H=>qg H λUS H=>λ_ r=>Ob [(Zr,3,[.slice abf wL.length abg]),(Cp ((Az vk.toNat).1),sJ ((Az vk.toNat).1)+F4.toNat*5,Om (ag (ag p0.cG vk.toNat).Code F4.toNat))] [0,4] 10 h (λh=>⟨⟨(h.pick 4).cell 3 rfl,CH⟩,⟨(Ay.Rj QO).cell Rw (h.dn 6) 0 rfl,(Ay.Rj QO).cell Rw (h.dn 6) 1 rfl,(Ay.Rj QO).cell Rw (h.dn 6) 2 rfl,(Ay.Rj QO).cell Rw (h.dn 6) 3 rfl,(Ay.Rj QO).cell Rw (h.dn 6) 4 rfl,CH⟩,CH⟩) λw h hd =>qq r<|Oi hd 7 [(0,37,pA Zr 3),(2,39,.slice ((Az vk.toNat).1) (ag p0.cG vk.toNat).Code.length ((Az vk.toNat).2)),(3,40,vI F4)]<|eo_ hd 6 4 rfl (pA (Cp ((Az vk.toNat).1)) (sJ ((Az vk.toNat).1)+F4.toNat*5)) (λw=>afF 146 ((Az vk.toNat).2) rfl rfl (Ay.Rj QO) Rw)<|kx hd 0 5 1 rfl rfl<|RJ hd 1 4 5 rfl rfl<|λ_ r=>N3 6 rfl<|qq r<|kV h (PD (ag (ag p0.cG vk.toNat).Code F4.toNat)) 146 λb32 w h=>kn<|λ_ r=>xE<|N3 7 rfl<|qh h.m6 λh=>O9 (n0:=wL.length) (c:=1) (bytes:=40) (wn rfl) rfl rfl r rfl (by kernel_rfl) (by kernel_rfl) mU (E:=146) (xs:=wL) (by kernel_rfl) (by kernel_rfl) h (news:=[ag (ag p0.cG vk.toNat).Code F4.toNat]) (m:=1) rfl ((h.pick 1).news rfl) US rfl λVQ VR w _ h r=>qq r<|kn<|λ_ r=>xE<|qq r<|ev_ 1 8 rfl (pA Zr 3)<|λ_ r=>N3 9 rfl<|qh h.m6 λh=>qq r<|kS h 3 (pts Zr (.cells #[vI (ag p0.cG vk.toNat).MW,vI (ag p0.cG vk.toNat).dA,vI (ag p0.cG vk.toNat).cA,.slice VQ (wL++[ag (ag p0.cG vk.toNat).Code F4.toNat]).length VR] 99)) λw h=>kn<|λ_ r=>xE<|O4<|qq r<|bn<|tn<|wl<|ko [U,vI (wi (F4+1)),vI (wi (F4+1))]<|kn<|?_;exact λ_ r=>⟨_,⟨VQ,VR,(wL++[ag (ag p0.cG vk.toNat).Code F4.toNat]),(wi (F4+1)),H,r.fj (h.se 7 [3,4,5,6,0,1])⟩,afl _⟩
       refine wx<|te<|te<|bh<|tn<|?_;exact λ_ r=>⟨(),abf,abg,wL,On H,r.fj h⟩
     clear h r;rintro _ a w ⟨ab1,ab2,GY,rfl,j,r,h⟩;replace H:=Vy aa4;refine qq r<|wl<|ko Zy<|kL (h.pick 2) 0<|kM (h.pick 4)<|kV h (#[vI (ag p0.cG vk.toNat).MW,vI (ag p0.cG vk.toNat).dA,vI (ag p0.cG vk.toNat).cA,.slice ab1 GY.length ab2]) 99 λb36 w h=>qh h.m6 λh=>?_;replace h:=NQ (x:=({ag p0.cG vk.toNat with Code:=GY})) h;refine qg H λXD H=>qh h.m5 λh=>λ_ r=>Tu (n0:=Ip.length) (c:=1) (bytes:=48) (sz:=4) (wn rfl) rfl rfl r rfl (by kernel_rfl) (by kernel_rfl) (E:=99) (xs:=Ip) (by kernel_rfl) (by kernel_rfl) rfl rfl rfl h ((h.pick 2).news rfl) XD rfl λadx ady w _ h r=>qq r<|ko Zy<|qh h.m4 λh=>kS h 0 (afW b3 p0 adx ady Fe Ff AA AB AE AF ((Ip++[{ag p0.cG vk.toNat with Code:=GY}]).length)) λw h=>kl<|bn<|tn<|?_;exact λ_ r=>⟨(),adx,ady,(Ip++[{ag p0.cG vk.toNat with Code:=GY}]),On H,r.fj (h.se 6 [3,4,0,1])⟩
    clear h r;rintro _ a w ⟨aai,ab0,Ld,rfl,j,r,h⟩;replace H:=Vy acz;refine qq r<|wl<|ko [U,vI (wi (vk+1)),vI (wi (vk+1))]<|kn<|?_;exact λ_ r=>⟨_,⟨aai,ab0,Ld,(wi (vk+1)),H,r.fj h⟩,afl _⟩
   refine wx<|te<|te<|bh<|tn<|?_;exact λ_ r=>⟨(),Nu,Nb,Ip,On H,r.fj h⟩
 clear h r;rintro _ a w ⟨VO,VP,l6,rfl,j,r,h⟩;replace H:=Vy YN;refine qq r<|ks<|ko [U]<|qh h.m2 λh=>kS h 1 (pts b3 (.cells #[.slice VO l6.length VP,.slice none 0 0,vI p0.ez,vI p0.MU,vI p0.j8,vI p0.kU,.slice AA p0.Nm.length AB,.slice AE p0.gQ.length AF] 32)) λw h=>kn<|VA H λo44 H aeM=>λ_ r=>Nn (β:=Unit) (λ_ a w=>∃U1:Option Addr,∃U2:Nat,∃F7:List Int,F7=o44/\∃j,Gk 117 (lk [(1,pA b1 0),(2,pA b2 0),(3,pA b3 0)] j) a/\Fit z (cQ (UN b1 p0 Aw Ax Fe Ff AA AB AE AF::pts b2 (.cells #[.slice none 0 0,.slice none 0 0,vI 0,vI 0,vI 0,vI 0,.slice none 0 0,.slice none 0 0] 32)::pts b3 (.cells #[.slice VO l6.length VP,.slice U1 F7.length U2,vI p0.ez,vI p0.MU,vI p0.j8,vI p0.kU,.slice AA p0.Nm.length AB,.slice AE p0.gQ.length AF] 32)::Oo VO VP l6::OO U1 U2 F7::L)) w) ?_ ?_
 ·refine qq r<|ks<|ko [U]<|kn<|wb<|?_;replace h:=h.ua (e:=2) (sz:=1) (enc:=oE);refine λ_ r=>NB (β:=Nat) id (λm a w=>∃Zn:Option Addr,∃Zo:Nat,∃Iq:List Int,∃F5:Int,(fO K p0 m Iq F5)=some o44/\∃j,Gk 117 (lk [(1,pA b1 0),(2,pA b2 0),(3,pA b3 0),(8,vI F5)] j) a/\Fit z (cQ (UN b1 p0 Aw Ax Fe Ff AA AB AE AF::pts b2 (.cells #[.slice none 0 0,.slice none 0 0,vI 0,vI 0,vI 0,vI 0,.slice none 0 0,.slice none 0 0] 32)::pts b3 (.cells #[.slice VO l6.length VP,.slice Zn Iq.length Zo,vI p0.ez,vI p0.MU,vI p0.j8,vI p0.kU,.slice AA p0.Nm.length AB,.slice AE p0.gQ.length AF] 32)::Oo VO VP l6::OO Zn Zo Iq::L)) w) K ⟨none,0,([]:List Int),0,H,r.fj (h.se 5 [2,3,1,4,0])⟩<|?_;clear h r H;rintro k3 a w ⟨Zn,Zo,Iq,F5,H,j,r,h⟩;cases k3 with
  | zero=>exact absurd H (by simp[fO])
  | succ k3 =>
   rw[fO]at H;refine qq r<|wq<|ks<|ko Zy<|kL h 1<|ko [vI ((p0.mc.length:Nat):Int),vB (decide (F5<((p0.mc.length:Nat):Int)))]<|kn<|NN H (λVI H=>?_) λVI H=>?_
   ·refine wk<|tn<|wq<|wb<|qg H λZU H=>qg H λc54 H=>λ_ r=>Ob [(b3,1,[.slice Zn Iq.length Zo]),(b1,1,[.slice Fe p0.mc.length Ff]),(Cp Fe,sJ Fe+F5.toNat*1,[vI (ag p0.mc F5.toNat)])] [0,2,5] 11 h (λh=>⟨⟨(h.pick 2).cell 1 rfl,CH⟩,⟨h.cell 1 rfl,CH⟩,⟨Fg.cell ZU (h.dn 5) 0 rfl,CH⟩,CH⟩) λw h hd =>qq r<|Oi hd 8 [(0,62,pA b3 1),(2,64,pA b1 1),(4,66,vI F5)]<|kx hd 0 7 1 rfl rfl<|kx hd 1 6 3 rfl rfl<|eo_ hd 5 5 rfl (pA (Cp Fe) (sJ Fe+F5.toNat*1)) (λw=>afF 2 Ff rfl rfl Fg ZU)<|kx hd 2 4 6 rfl rfl<|λ_ r=>N3 7 rfl<|qq r<|kV h (#[vI (ag p0.mc F5.toNat)]) 2 λb51 w h=>kn<|λ_ r=>xE<|N3 8 rfl<|qh h.m5 λh=>O9 (n0:=Iq.length) (c:=1) (bytes:=8) (wn rfl) rfl rfl r rfl (by kernel_rfl) (by kernel_rfl) rm (E:=2) (xs:=Iq) (by kernel_rfl) (by kernel_rfl) h (news:=[(ag p0.mc F5.toNat)]) (m:=1) rfl ((h.pick 1).news rfl) c54 rfl λZw Zx w _ h r=>qq r<|kn<|λ_ r=>xE<|qq r<|ev_ 1 9 rfl (pA b3 1)<|λ_ r=>N3 10 rfl<|qh h.m4 λh=>qq r<|kS h 1 (pts b3 (.cells #[.slice VO l6.length VP,.slice Zw (Iq++[(ag p0.mc F5.toNat)]).length Zx,vI p0.ez,vI p0.MU,vI p0.j8,vI p0.kU,.slice AA p0.Nm.length AB,.slice AE p0.gQ.length AF] 32)) λw h=>kn<|λ_ r=>xE<|O4<|qq r<|bn<|tn<|wl<|ko [U,vI (wi (F5+1)),vI (wi (F5+1))]<|kn<|?_;exact λ_ r=>⟨_,⟨Zw,Zx,(Iq++[(ag p0.mc F5.toNat)]),(wi (F5+1)),H,r.fj (h.se 6 [3,4,0,5,1])⟩,afl _⟩
   refine wx<|te<|te<|bh<|tn<|?_;exact λ_ r=>⟨(),Zn,Zo,Iq,On H,r.fj h⟩
 clear h r;rintro _ a w ⟨U1,U2,F7,rfl,j,r,h⟩;replace H:=Vy aeM;refine qq r<|ks<|ko Zy<|qh h.m2 λh=>λ_ r=>stm (wn rfl) r h 6 ([.slice none 0 0,.slice none 0 0]) (pts b3 (.cells #[.slice VO l6.length VP,.slice U1 F7.length U2,vI p0.ez,vI p0.MU,vI p0.j8,vI p0.kU,.slice none 0 0,.slice none 0 0] 32)) λw h=>qq r<|kn<|VA H λo59 H aeN=>λ_ r=>Nn (β:=Unit) (λ_ a w=>∃VX:Option Addr,∃VY:Nat,∃F8:List Int,F8=o59/\∃j,Gk 117 (lk [(1,pA b1 0),(2,pA b2 0),(3,pA b3 0)] j) a/\Fit z (cQ (UN b1 p0 Aw Ax Fe Ff AA AB AE AF::pts b2 (.cells #[.slice none 0 0,.slice none 0 0,vI 0,vI 0,vI 0,vI 0,.slice none 0 0,.slice none 0 0] 32)::pts b3 (.cells #[.slice VO l6.length VP,.slice U1 F7.length U2,vI p0.ez,vI p0.MU,vI p0.j8,vI p0.kU,.slice VX F8.length VY,.slice none 0 0] 32)::Oo VO VP l6::OO U1 U2 F7::R8 VX VY F8::L)) w) ?_ ?_
 ·refine qq r<|ks<|ko [U]<|kn<|wb<|?_;replace h:=h.ua (e:=3) (sz:=1) (enc:=oE);refine λ_ r=>NB (β:=Nat) id (λm a w=>∃abh:Option Addr,∃abi:Nat,∃Ir:List Int,∃F6:Int,(fP K p0 m Ir F6)=some o59/\∃j,Gk 117 (lk [(1,pA b1 0),(2,pA b2 0),(3,pA b3 0),(9,vI F6)] j) a/\Fit z (cQ (UN b1 p0 Aw Ax Fe Ff AA AB AE AF::pts b2 (.cells #[.slice none 0 0,.slice none 0 0,vI 0,vI 0,vI 0,vI 0,.slice none 0 0,.slice none 0 0] 32)::pts b3 (.cells #[.slice VO l6.length VP,.slice U1 F7.length U2,vI p0.ez,vI p0.MU,vI p0.j8,vI p0.kU,.slice abh Ir.length abi,.slice none 0 0] 32)::Oo VO VP l6::OO U1 U2 F7::R8 abh abi Ir::L)) w) K ⟨none,0,([]:List Int),0,H,r.fj (h.se 6 [2,3,1,4,5,0])⟩<|?_;clear h r H;rintro k4 a w ⟨abh,abi,Ir,F6,H,j,r,h⟩;cases k4 with
  | zero=>exact absurd H (by simp[fP])
  | succ k4 =>
   rw[fP]at H;refine qq r<|wq<|ks<|ko mT<|kL h 6<|ko [vI ((p0.Nm.length:Nat):Int),vB (decide (F6<((p0.Nm.length:Nat):Int)))]<|kn<|NN H (λc64 H=>?_) λc64 H=>?_
   ·refine wk<|tn<|wq<|wb<|qg H λc65 H=>qg H λc69 H=>λ_ r=>Ob [(b3,6,[.slice abh Ir.length abi]),(b1,6,[.slice AA p0.Nm.length AB]),(Cp AA,sJ AA+F6.toNat*1,[vI (ag p0.Nm F6.toNat)])] [0,1,3,4,7] 14 h (λh=>⟨⟨(h.pick 2).cell 6 rfl,CH⟩,⟨h.cell 6 rfl,CH⟩,⟨AD.cell c65 (h.dn 6) 0 rfl,CH⟩,CH⟩) λw h hd =>qq r<|Oi hd 9 [(0,82,pA b3 6),(1,83,pA b3 6),(3,85,pA b1 6),(4,86,pA b1 6),(6,88,vI F6)]<|kx hd 0 8 2 rfl rfl<|kx hd 1 7 5 rfl rfl<|eo_ hd 6 7 rfl (pA (Cp AA) (sJ AA+F6.toNat*1)) (λw=>afF 3 AB rfl rfl AD c65)<|kx hd 2 5 8 rfl rfl<|λ_ r=>N3 9 rfl<|qq r<|kV h (#[vI (ag p0.Nm F6.toNat)]) 3 λZ0 w h=>kn<|λ_ r=>xE<|N3 10 rfl<|qh h.m6 λh=>O9 (n0:=Ir.length) (c:=1) (bytes:=8) (wn rfl) rfl rfl r rfl (by kernel_rfl) (by kernel_rfl) rm (E:=3) (xs:=Ir) (by kernel_rfl) (by kernel_rfl) h (news:=[(ag p0.Nm F6.toNat)]) (m:=1) rfl ((h.pick 1).news rfl) c69 rfl λZD ZE w _ h r=>qq r<|kn<|λ_ r=>xE<|qq r<|ev_ 2 11 rfl (pA b3 6)<|ev_ 1 12 rfl (pA b3 6)<|λ_ r=>N3 13 rfl<|qh h.m4 λh=>qq r<|kS h 6 (pts b3 (.cells #[.slice VO l6.length VP,.slice U1 F7.length U2,vI p0.ez,vI p0.MU,vI p0.j8,vI p0.kU,.slice ZD (Ir++[(ag p0.Nm F6.toNat)]).length ZE,.slice none 0 0] 32)) λw h=>kn<|λ_ r=>xE<|O4<|qq r<|bn<|tn<|wl<|ko [U,vI (wi (F6+1)),vI (wi (F6+1))]<|kn<|?_;exact λ_ r=>⟨_,⟨ZD,ZE,(Ir++[(ag p0.Nm F6.toNat)]),(wi (F6+1)),H,r.fj (h.se 7 [3,4,0,5,6,1])⟩,afl _⟩
   refine wx<|te<|te<|bh<|tn<|?_;exact λ_ r=>⟨(),abh,abi,Ir,On H,r.fj h⟩
 clear h r;rintro _ a w ⟨VX,VY,F8,rfl,j,r,h⟩;replace H:=Vy aeN;refine qq r<|wq<|ks<|ko [U]<|kn<|wb<|?_;replace h:=h.ua (e:=3) (sz:=1) (enc:=oE);refine λ_ r=>NB (β:=Nat) id (λm a w=>∃aam:Option Addr,∃aan:Nat,∃Is:List Int,∃F9:Int,(fQ K p0 l6 F7 F8 m Is F9)=some r0/\∃j,Gk 117 (lk [(1,pA b1 0),(2,pA b2 0),(3,pA b3 0),(10,vI F9)] j) a/\Fit z (cQ (UN b1 p0 Aw Ax Fe Ff AA AB AE AF::pts b2 (.cells #[.slice none 0 0,.slice none 0 0,vI 0,vI 0,vI 0,vI 0,.slice none 0 0,.slice none 0 0] 32)::pts b3 (.cells #[.slice VO l6.length VP,.slice U1 F7.length U2,vI p0.ez,vI p0.MU,vI p0.j8,vI p0.kU,.slice VX F8.length VY,.slice aam Is.length aan] 32)::Oo VO VP l6::OO U1 U2 F7::R8 VX VY F8::R8 aam aan Is::L)) w) K ⟨none,0,([]:List Int),0,H,r.fj (h.se 7 [1,2,3,4,5,6,0])⟩<|?_;clear h r H;rintro k5 a w ⟨aam,aan,Is,F9,H,j,r,h⟩;cases k5 with
 | zero=>exact absurd H (by simp[fQ])
 | succ k5 =>
  rw[fQ]at H;refine qq r<|wq<|ks<|ko mT<|kL h 7<|ko [vI ((p0.gQ.length:Nat):Int),vB (decide (F9<((p0.gQ.length:Nat):Int)))]<|kn<|NN H (λc74 H=>?_) λc74 H=>?_
  ·refine wk<|tn<|wq<|wb<|qg H λc75 H=>qg H λc79 H=>λ_ r=>Ob [(b3,7,[.slice aam Is.length aan]),(b1,7,[.slice AE p0.gQ.length AF]),(Cp AE,sJ AE+F9.toNat*1,[vI (ag p0.gQ F9.toNat)])] [0,1,3,4,7] 14 h (λh=>⟨⟨(h.pick 2).cell 7 rfl,CH⟩,⟨h.cell 7 rfl,CH⟩,⟨AG.cell c75 (h.dn 7) 0 rfl,CH⟩,CH⟩) λw h hd =>qq r<|Oi hd 9 [(0,103,pA b3 6),(1,104,pA b3 7),(3,106,pA b1 6),(4,107,pA b1 7),(6,109,vI F9)]<|kx hd 0 8 2 rfl rfl<|kx hd 1 7 5 rfl rfl<|eo_ hd 6 7 rfl (pA (Cp AE) (sJ AE+F9.toNat*1)) (λw=>afF 3 AF rfl rfl AG c75)<|kx hd 2 5 8 rfl rfl<|λ_ r=>N3 9 rfl<|qq r<|kV h (#[vI (ag p0.gQ F9.toNat)]) 3 λb76 w h=>kn<|λ_ r=>xE<|N3 10 rfl<|qh h.m7 λh=>O9 (n0:=Is.length) (c:=1) (bytes:=8) (wn rfl) rfl rfl r rfl (by kernel_rfl) (by kernel_rfl) rm (E:=3) (xs:=Is) (by kernel_rfl) (by kernel_rfl) h (news:=[(ag p0.gQ F9.toNat)]) (m:=1) rfl ((h.pick 1).news rfl) c79 rfl λadz adB w _ h r=>qq r<|kn<|λ_ r=>xE<|qq r<|ev_ 2 11 rfl (pA b3 6)<|ev_ 1 12 rfl (pA b3 7)<|λ_ r=>N3 13 rfl<|qh h.m4 λh=>qq r<|kS h 7 (pts b3 (.cells #[.slice VO l6.length VP,.slice U1 F7.length U2,vI p0.ez,vI p0.MU,vI p0.j8,vI p0.kU,.slice VX F8.length VY,.slice adz (Is++[(ag p0.gQ F9.toNat)]).length adB] 32)) λw h=>kn<|λ_ r=>xE<|O4<|qq r<|bn<|tn<|wl<|ko [U,vI (wi (F9+1)),vI (wi (F9+1))]<|kn<|?_;exact λ_ r=>⟨_,⟨adz,adB,(Is++[(ag p0.gQ F9.toNat)]),(wi (F9+1)),H,r.fj (h.se 8 [3,4,0,5,6,7,1])⟩,afl _⟩
  refine wx<|te<|te<|bh<|tn<|ks<|kM (h.pick 2)<|qh h.m1 λh=>kA h (pts b2 (.cells #[.slice VO l6.length VP,.slice U1 F7.length U2,vI p0.ez,vI p0.MU,vI p0.j8,vI p0.kU,.slice VX F8.length VY,.slice aam Is.length aan] 32)) λw h=>kn<|wr<|kC h<|?_;cases H;exact⟨VO,VP,U1,U2,VX,VY,aam,aan,rfl,h.se 7 [3,4,5,6]⟩
def jo(K:Nat)(p1:Int):Nat->Int->Int->Option (Int)
 | 0,_,_=>none
 | k1+1,g4,g5=>(if g5<p1 then(jo K p1 k1 (wi (g4+(wi ((1:Int)+(if p1<(wi ((2:Int)*g5))then p1 else(wi ((2:Int)*g5))))))) (if p1<(wi ((2:Int)*g5))then p1 else(wi ((2:Int)*g5))))else some g4)
def oe(K:Nat)(p0:Int)(p1:Int):Option (Int):=
 bH (j2 p0 p1) (λr1=>(if r1=true then(jo K p1 K (wi ((4:Int)+p0)) p0)else some 0))
theorem WW{K:Nat}{p0 p1 r0:Int}(H:oe K p0 p1=some r0)(h:ft_ z (L) w) :
 c0_ 109 #[vI p0,vI p1] w z (vI r0) (L):=by
 unfold oe at H;refine ke Tryz.func109 26 rfl λj=>ks<|ko [U]<|kn<|wq<|ks<|Oj H λr1 e2 H=>ko Zy<|N5 (Tc (H:=e2) (h:=h) :) λw h=>ko [vB (!r1)]<|kn<|Vb H (λc3 H=>?_) λc3 H=>?_
 ·refine wk<|tn<|ks<|ko [U,vI (wi ((4:Int)+p0)),vI (wi ((4:Int)+p0))]<|kn<|wq<|ks<|ko Zy<|kn<|wb<|λ_ r=>NB (β:=Nat) id (λm a w=>∃g4:Int,∃g5:Int,(jo K p1 m g4 g5)=some r0/\∃j,Gk 26 (lk [(1,vI p1),(5,vI g4),(6,vI g5)] j) a/\Fit z (cQ (L)) w) K ⟨(wi ((4:Int)+p0)),p0,H,r.fj h⟩<|?_;clear h r H;rintro k1 a w ⟨g4,g5,H,j,r,h⟩;cases k1 with
  | zero=>exact absurd H (by simp[jo])
  | succ k1 =>
   rw[jo]at H;refine qq r<|wq<|ks<|ko [U,U,vB (decide (g5<p1))]<|kn<|NN H (λc6 H=>?_) λc6 H=>?_
   ·refine wk<|tn<|wb<|ks<|ko [U,vI (wi ((2:Int)*g5)),U,vI (if p1<(wi ((2:Int)*g5))then p1 else(wi ((2:Int)*g5))),vI (if p1<(wi ((2:Int)*g5))then p1 else(wi ((2:Int)*g5)))]<|kn<|wl<|ko [U,vI (if p1<(wi ((2:Int)*g5))then p1 else(wi ((2:Int)*g5))),vI (wi ((1:Int)+(if p1<(wi ((2:Int)*g5))then p1 else(wi ((2:Int)*g5))))),vI (wi (g4+(wi ((1:Int)+(if p1<(wi ((2:Int)*g5))then p1 else(wi ((2:Int)*g5))))))),vI (wi (g4+(wi ((1:Int)+(if p1<(wi ((2:Int)*g5))then p1 else(wi ((2:Int)*g5)))))))]<|kl<|bn<|tn<|?_;exact λ_ r=>⟨_,⟨(wi (g4+(wi ((1:Int)+(if p1<(wi ((2:Int)*g5))then p1 else(wi ((2:Int)*g5))))))),(if p1<(wi ((2:Int)*g5))then p1 else(wi ((2:Int)*g5))),H,r.fj h⟩,afl _⟩
   refine wx<|te<|te<|bh<|tn<|ks<|ko Zy<|kn<|wr<|?_;cases H;exact Ox h
 refine ks<|ko [U]<|kn<|wr<|tr<|?_;cases H;exact Ox h
def mD(K:Nat)(p0:Int)(p1:bY):Option (Int):=
 kQ (bH (iZ p0) (λr4=>(if r4=true then bH (ja p1) (λr7=>(if r7=true then some (.inl ())else some (.inr 0)))else some (.inr 0)))) (bH (jc p1.cO) (λsN=>bH (fc p0) (λRY=>bH (oe K p1.bD p1.gK) (λiw=>some (wi ((wi ((wi ((1:Int)+sN))+RY))+(wi (p0*iw))))))))
theorem WX{K:Nat}{p0 r0:Int}{p1:bY}(H:mD K p0 p1=some r0)(h:ft_ z (L) w) :
 c0_ 62 #[vI p0,O7 p1] w z (vI r0) (L):=by
 unfold mD at H;refine ke Tryz.func62 28 rfl λj=>ks<|kN h (Pb p1) 27 λb1 w h=>ko [U]<|kn<|?_;obtain⟨o3,H,VB⟩:=U3 H;refine λ_ r=>Nn (β:=Unit) (λ_ a w=>.inl ()=o3/\∃j,Gk 28 (lk [(0,vI p0),(3,pA b1 0)] j) a/\Fit z (cQ (YJ b1 p1::L)) w) ?_ ?_
 ·refine qq r<|ks<|Oj H λr4 e5 H=>ko [U]<|N5 (Sb (H:=e5) (h:=h) :) λw h=>ko [vB (!r4),vB (!r4)]<|qI H (λc6 H=>?_) λc6 H=>?_
  ·refine λ_ r=>RI (PB r (nT c6)) r (O7 p1) (cs:=VE p1) (h.held 0 rfl)<|?_;refine Oj H λr7 e8 H=>xg0 (nT c6) (Sc (H:=e8) (h:=h) :) λw h=>Nl (nT c6) [11] [vB (!r7)]<|PM (nT c6) (vB (!r7))<|kn<|Vb H (λc9 H=>?_) λc9 H=>?_
   ·refine wk<|tn<|?_;exact λ_ r=>⟨(),On H,r.fj h⟩
   refine ks<|ko [U]<|kn<|wr<|tr<|λ_ r=>afn (vI 0) rfl r<|?_;replace H:=Q6 H VB;cases H;exact⟨rfl,h.se 1 []⟩
  refine Nh (nF c6) [9,10,11]<|PT (nF c6) (vB true)<|kn<|λ_ r=>Oh r (b:=true) rfl<|qq r<|ks<|ko [U]<|kn<|wr<|tr<|λ_ r=>afn (vI 0) rfl r<|?_;replace H:=Q6 H VB;cases H;exact⟨rfl,h.se 1 []⟩
 clear h r;rintro _ a w ⟨rfl,j,r,h⟩;replace H:=U4 VB;refine qq r<|wq<|Oj H λsN e11 H=>Oj H λRY e13 H=>Oj H λiw XY H=>λ_ r=>Ob [(b1,0,[vI p1.cO]),(b1,1,[vI p1.bD]),(b1,2,[vI p1.gK])] [0,2,3,5,6,8,10,12,13] 16 h (λh=>⟨⟨h.cell 0 rfl,CH⟩,⟨h.cell 1 rfl,CH⟩,⟨h.cell 2 rfl,CH⟩,CH⟩) λw h hd =>qq r<|Oi hd 11 [(0,13,pA b1 0),(4,17,vI p0),(7,20,vI p0),(8,21,pA b1 1),(10,23,pA b1 2)]<|kx hd 0 10 1 rfl rfl<|kx hd 1 9 9 rfl rfl<|kx hd 2 8 11 rfl rfl<|λ_ r=>N3 2 rfl<|qq r<|N5 (Ru (H:=e11) (h:=h) :) λw h=>kn<|λ_ r=>eE ⟨⟨h.cell 0 rfl,CH⟩,⟨h.cell 1 rfl,CH⟩,⟨h.cell 2 rfl,CH⟩,CH⟩ λhd =>qq r<|Oi hd 6 [(3,16,vI (wi ((1:Int)+sN)))]<|λ_ r=>N3 5 rfl<|qq r<|N5 (QF (H:=e13) (h:=h) :) λw h=>kn<|λ_ r=>eE ⟨⟨h.cell 0 rfl,CH⟩,⟨h.cell 1 rfl,CH⟩,⟨h.cell 2 rfl,CH⟩,CH⟩ λhd =>qq r<|Oi hd 4 [(6,19,vI (wi ((wi ((1:Int)+sN))+RY)))]<|λ_ r=>N3 12 rfl<|qq r<|N5 (WW (H:=XY) (h:=h) :) λw h=>kn<|λ_ r=>eE ⟨⟨h.cell 0 rfl,CH⟩,⟨h.cell 1 rfl,CH⟩,⟨h.cell 2 rfl,CH⟩,CH⟩ λhd =>qq r<|Oi hd 0 [(13,26,vI (wi (p0*iw))),(14,27,vI (wi ((wi ((wi ((1:Int)+sN))+RY))+(wi (p0*iw))))),(15,4,vI (wi ((wi ((wi ((1:Int)+sN))+RY))+(wi (p0*iw)))))]<|λ_ r=>O4<|qq r<|tn<|wr<|?_;cases H;exact Ox (h.se 1 [])
def jX(p0:ae)(p1:Int):Option (ae):=
 some ({p0 with lK:=p1})
theorem RX{p0 q0:ae}{p1:Int}{B0 NJ NO:Nat}{NK NG:Option Addr}(H:jX p0 p1=some q0)(h:ft_ z (aa8 B0 p0 NK NJ NG NO L) w) :
 c4_ 64 #[pA B0 0,vI p1] w z (.tuple #[]) λx1 x2 x3 x4=>aa8 B0 q0 x1 x2 x3 x4 L:=by
 unfold jX at H;refine ke Tryz.func64 10 rfl λj=>ks<|ko Zy<|kn<|λ_ r=>Oh r (b:=true) rfl<|qq r<|wl<|ko ue<|kS h 4 (pts B0 (.cells #[vI p0.n7,vI p0.dL,.slice NK p0.cell.length NJ,.slice NG p0.log.length NO,vI p1,vB p0.watched] 92)) λw h=>kl<|?_;cases H;exact xv4 NK NJ NG NO h
def fR(K:Nat)(p0:af)(cK:ae):Nat->Int->Option (Bool)
 | 0,_=>none
 | k1+1,uh=>(if uh<((p0.aa.length:Nat):Int)then bH (ik p0 cK uh) (λlM=>(if lM=true then(fR K p0 cK k1 (wi (uh+1)))else some false))else some true)
def jq(K:Nat)(p0:af)(cK:ae)(p1:ah):Option (Bool):=
 (if p1.aQ=11 then some true else(if p1.aQ=10 then(fR K p0 cK K 0)else some false))
theorem TQ{K:Nat}{p0:af}{cK:ae}{p1:ah}{B0 Nc NJ NO N6 NU Nb M9:Nat}{NK NG N2 NR Nu MS:Option Addr}{r0:Bool}(H:jq K p0 cK p1=some r0)(h:ft_ z (aed B0 p0 (.iface 33 (pA Nc 0)) N2 N6 NR NU Nu Nb MS M9 (aa8 Nc cK NK NJ NG NO L)) w) :
 c0_ 65 #[pA B0 0,NL p1] w z (vB r0) (aed B0 p0 (.iface 33 (pA Nc 0)) N2 N6 NR NU Nu Nb MS M9 (aa8 Nc cK NK NJ NG NO L)):=by
 unfold jq at H;refine ke Tryz.func65 25 rfl λj=>ks<|kN h (Q1 p1) 47 λOP w h=>ko [U]<|kn<|wq<|ks<|ko [U]<|kL h 2<|ko [vB (p1.aQ==11)]<|kn<|NN H (λRE H=>?_) λRE H=>?_
 ·refine ks<|ko [U]<|kn<|wr<|tr<|?_;cases H;exact Ox (h.se 9 [1,2,3,4,5,6,7,8])
 refine wk<|tn<|wq<|ks<|ko [U]<|kL h 2<|ko [vB (p1.aQ != 10)]<|kn<|Qf H (λQb H=>?_) λQb H=>?_
 ·refine wk<|tn<|wq<|ks<|ko mT<|kL (h.pick 1) 9<|ko [vI ((p0.aa.length:Nat):Int),U]<|kn<|wb<|λ_ r=>NB (β:=Nat) id (λm a w=>∃uh:Int,(fR K p0 cK m uh)=some r0/\∃j,Gk 25 (lk [(0,pA B0 0),(16,vI ((p0.aa.length:Nat):Int)),(17,vI uh)] j) a/\Fit z (cQ (Od B0 p0 (.iface 33 (pA Nc 0)) N2 N6 NR NU Nu Nb MS M9::aa8 Nc cK NK NJ NG NO (Oo N2 N6 p0.code::NV NR NU p0.dW::NY Nu Nb p0.ak::NW B0 MS M9 p0.aa::L))) w) K ⟨0,H,r.fj (h.se 9 [1,6,7,8,2,3,4,5])⟩<|?_;clear h r H;rintro k1 a w ⟨uh,H,j,r,h⟩;cases k1 with
  | zero=>exact absurd H (by simp[fR])
  | succ k1 =>
   rw[fR]at H;refine qq r<|ks<|ko [vB (decide (uh<((p0.aa.length:Nat):Int)))]<|kn<|wq<|NN H (λTY H=>?_) λTY H=>?_
   ·refine wk<|tn<|wq<|wb<|ks<|ko Zy<|kn<|ks<|Oj H λlM XA H=>ko Zy<|qh h.m3.m3.m3.m7.m7.m7.m7.m7 λh=>N5 (S5 (H:=XA) (h:=h) :) λw h=>ko [vB (!lM)]<|kn<|Vb H (λPx H=>?_) λPx H=>?_
    ·refine wk<|bn<|tn<|wl<|ko [vI (wi (uh+1)),vI (wi (uh+1))]<|kn<|?_;exact λ_ r=>⟨_,⟨(wi (uh+1)),H,r.fj (h.se 8 [0,5,6,7,1,2,3,4])⟩,afl _⟩
    refine ks<|ko [U]<|kn<|wr<|br<|tr<|tr<|br<|tr<|?_;cases H;exact Ox h
   refine wx<|te<|te<|bh<|tn<|ks<|ko [U]<|kn<|wr<|?_;cases H;exact Ox (h.se 8 [0,4,5,6,7,1,2,3])
 refine ks<|ko [U]<|kn<|wr<|tr<|?_;cases H;exact Ox (h.se 9 [1,2,3,4,5,6,7,8])
def lS(p1:ah):Option (Bool):=
 (if p1.aQ=11 then some true else(if p1.aQ=10 then none else some false))
theorem Sr{p1:ah}{r0:Bool}(H:lS p1=some r0)(h:ft_ z (L) w) :
 c0_ 65 #[pN,NL p1] w z (vB r0) (L):=by
 unfold lS at H;refine ke Tryz.func65 25 rfl λj=>ks<|kN h (Q1 p1) 47 λb1 w h=>ko [U]<|kn<|wq<|ks<|ko [U]<|kL h 2<|ko [vB (p1.aQ==11)]<|kn<|NN H (λc2 H=>?_) λc2 H=>?_
 ·refine ks<|ko [U]<|kn<|wr<|tr<|?_;cases H;exact Ox (h.se 1 [])
 refine wk<|tn<|wq<|ks<|ko [U]<|kL h 2<|ko [vB (p1.aQ != 10)]<|kn<|Qf H (λc3 H=>?_) λc3 H=>?_
 ·refine wk<|tn<|wq<|ks<|?_;cases H
 refine ks<|ko [U]<|kn<|wr<|tr<|?_;cases H;exact Ox (h.se 1 [])
def gu(K:Nat)(p2:Int)(p4:eW):Nat->ae->af->aA->(List ah)->Int->Option (ae×(List ah))
 | 0,_,_,_,_,_=>none
 | k1+1,S64,DM,Cy,EV,Ap=>(if Ap<((p4.hM.length:Nat):Int)then if aZ Ap p4.hM.length then bH (Ri (ag p4.hM Ap.toNat) p2) (λym=>bH (jX S64 ym) (λLe=>Gs (aE K DM Le ym Cy) (λBp FW Bt Ab JI=>(if Bp.aQ=0 then(gu K p2 p4 k1 Ab Bt JI EV (wi (Ap+1)))else if(EV.length+1)*48<=140737488355328 then bH (jq K Bt Ab ({Bp with At:=Ap})) (λBu=>(if Bu=true then some (Ab,EV++[{Bp with At:=Ap}])else(gu K p2 p4 k1 Ab Bt JI (EV++[{Bp with At:=Ap}]) (wi (Ap+1)))))else none))))else none else some (S64,EV))
def kr(K:Nat)(p2:Int)(p4:eW):Nat->ae->(List ah)->Int->Option (ae×(List ah))
 | 0,_,_,_=>none
 | k2+1,EW,xZ,sE=>(if sE<((p4.hM.length:Nat):Int)then if aZ sE p4.hM.length then bH (Ri (ag p4.hM sE.toNat) p2) (λEX=>bH (jX EW EX) (λB8=>iQ (j4 EX (⟨p4.nH⟩:aA)) (λzz Lf=>(if zz.aQ=0 then(kr K p2 p4 k2 B8 xZ (wi (sE+1)))else if(xZ.length+1)*48<=140737488355328 then bH (lS ({zz with At:=sE})) (λw5=>(if w5=true then some (B8,xZ++[{zz with At:=sE}])else(kr K p2 p4 k2 B8 (xZ++[{zz with At:=sE}]) (wi (sE+1)))))else none))))else none else some (EW,xZ))
def jP(K:Nat)(p0:ay)(p1:List Int)(p2:Int)(p3:bY)(p4:eW):Option ((List ah)×(List az)×Int):=
 kQ ((if((p4.hM.length:Nat):Int)>1048576 then some (.inr (([]:List ah),([]:List az),2))else(if((p4.nH.length:Nat):Int)>1048576 then some (.inr (([]:List ah),([]:List az),2))else some (.inl ())))) (bH (fV K p0 p1 p2 p3) (λRY=>(if RY=0 then bH (mD K p2 p3) (λnQ=>iQ (pU nQ) (λum lM=>(match um with | some iu=>(if lM=0 then gh (ie K iu p0 p1 p2 p3) (λAY qU Cw=>(match AY with | some zV=>(if qU=0 then bH (jh Cw true) (λLh=>if p4.nH.length*8<=140737488355328 then iQ ((gu K p2 p4 K Lh zV (⟨p4.nH⟩:aA) ([]:List ah) 0)) (λHe Li=>bH (iE He) (λIt=>some (Li,It,0)))else none)else some (([]:List ah),([]:List az),qU)) | none=>(if qU=0 then bH (jh Cw true) (λIu=>if p4.nH.length*8<=140737488355328 then iQ ((kr K p2 p4 K Iu ([]:List ah) 0)) (λIv Iw=>bH (iE Iv) (λIx=>some (Iw,Ix,0)))else none)else some (([]:List ah),([]:List az),qU))))else some (([]:List ah),([]:List az),lM)) | none=>(if lM=0 then none else some (([]:List ah),([]:List az),lM)))))else some (([]:List ah),([]:List az),RY))))
end
noncomputable section
variable {z w:World}{L:List M5}
theorem WY{K:Nat}{p0:ay}{p1:List Int}{p2 r2:Int}{p3:bY}{p4:eW}{M2 W1 NK NG:Option Addr}{Na Xd NJ NO:Nat}{MV:Nat->Option Addr×Nat}{r0:List ah}{r1:List az}(H:jP K p0 p1 p2 p3 p4=some (r0,r1,r2))(h:ft_ z (R8 NK NJ p4.hM::R8 NG NO p4.nH::L) w)(MY:T3 L M2 MV p0.aB)(Yj:jJ L 1 oE W1 p1)(CF:jJ L 1 wu (some ⟨0,0,none⟩) zS)(MP:jJ L 5 kJ (some ⟨1,0,none⟩) pF) :
 Calls Tryz.prog 40 #[.agg #[.slice M2 p0.aB.length Na],.slice W1 p1.length Xd,vI p2,O7 p3,.agg #[.slice NK p4.hM.length NJ,.slice NG p4.nH.length NO]] w λe w=>∃y1 y2 adC,e=.returned (.tuple #[.slice y1 r0.length y2,.slice adC r1.length r1.length,vI r2])/\Fit z (cQ (R8 NK NJ p4.hM::R8 NG NO p4.nH::Vv y1 y2 r0::Nd adC r1.length r1::L)) w:=by
 unfold jP at H;refine ke Tryz.func40 108 rfl λj=>ks<|kN h (#[.slice M2 p0.aB.length Na]) 24 λb5 w h=>kN h (Pb p3) 27 λb6 w h=>kN h (#[.slice NK p4.hM.length NJ,.slice NG p4.nH.length NO]) 30 λb7 w h=>ko mT<|kn<|?_;obtain⟨o9,H,YL⟩:=U3 H;refine λ_ r=>Nn (β:=Unit) (λ_ a w=>.inl ()=o9/\∃j,Gk 108 (lk [(1,.slice W1 p1.length Xd),(2,vI p2),(5,pA b5 0),(8,pA b6 0),(9,pA b7 0)] j) a/\Fit z (cQ (pts b5 (.cells #[.slice M2 p0.aB.length Na] 24)::YJ b6 p3::aeL b7 p4 NK NJ NG NO::R8 NK NJ p4.hM::R8 NG NO p4.nH::L)) w) ?_ ?_
 ·refine qq r<|ks<|ko [U]<|kL h 0<|ko [vI ((p4.hM.length:Nat):Int),vB (decide (((p4.hM.length:Nat):Int)>1048576)),vB (decide (((p4.hM.length:Nat):Int)>1048576))]<|qI H (λPX H=>?_) λPX H=>?_
  ·refine Nh (dT PX) [29,30,31,32]<|PT (dT PX) (vB true)<|kn<|λ_ r=>Oh r (b:=true) rfl<|qq r<|ks<|ko mT<|kn<|wr<|tr<|λ_ r=>afJ (.slice none 0 0) (.slice none 0 0) (vI 2) rfl r<|?_;replace h:=h.ua (e:=47) (sz:=6) (enc:=Ow);replace h:=h.ua (e:=159) (sz:=6) (enc:=Ot);replace H:=Q6 H YL;cases H;exact⟨none,0,none,rfl,h.se 7 [5,6,1,0]⟩
  refine Nl (dF PX) [29] [pA b7 1]<|Q7 (dF PX) h 1<|Nl (dF PX) [31,32] [vI ((p4.nH.length:Nat):Int),vB (decide (((p4.nH.length:Nat):Int)>1048576))]<|PM (dF PX) (vB (decide (((p4.nH.length:Nat):Int)>1048576)))<|kn<|NN H (λRg H=>?_) λRg H=>?_
  ·refine ks<|ko mT<|kn<|wr<|tr<|λ_ r=>afJ (.slice none 0 0) (.slice none 0 0) (vI 2) rfl r<|?_;replace h:=h.ua (e:=47) (sz:=6) (enc:=Ow);replace h:=h.ua (e:=159) (sz:=6) (enc:=Ot);replace H:=Q6 H YL;cases H;exact⟨none,0,none,rfl,h.se 7 [5,6,1,0]⟩
  refine wk<|tn<|?_;exact λ_ r=>⟨(),On H,r.fj (h.se 5 [2,1,0,3,4])⟩
 clear h r;rintro _ a w ⟨rfl,j,r,h⟩;replace H:=U4 YL;refine qq r<|wq<|ks<|λ_ r=>RI (wn rfl) r (.agg #[.slice M2 p0.aB.length Na]) (cs:=[.slice M2 p0.aB.length Na]) ⟨h.cell 0 rfl,CH⟩<|?_;refine ko Zy<|kM (h.pick 1)<|Oj H λRY e13 H=>N5 (Rb (W1:=W1) (Xd:=Xd) (Yj:=(jJ.up 5 Yj)) (M2:=M2) (Na:=Na) (MY:=(wC.up 5 MY)) (MP:=jJ.up 5 MP) (MV:=MV) (H:=e13) (h:=h) :) λw h=>ko [U]<|kn<|ks<|ko [U,vB (RY != 0)]<|kn<|Qf H (λRE H=>?_) λRE H=>?_
 ·refine wk<|tn<|ks<|ko [U]<|kM (h.pick 1)<|Oj H λnQ e16 H=>N5 (WX (H:=e16) (h:=h) :) λw h=>RD H λum lM XA H=>?_;cases um with
  | some iu =>
   refine xc5 (W8 (H:=XA) (h:=h) :) λXp Py QX TZ U8 w h=>ko [.tuple #[pA Xp 0,vI lM],U,U,U,U]<|kn<|wq<|ks<|ko [U,vB (lM != 0)]<|kn<|Qf H (λTs H=>?_) λTs H=>?_
   ·refine wk<|tn<|ks<|ko Zy<|λ_ r=>RI (wn rfl) r (.agg #[.slice M2 p0.aB.length Na]) (cs:=[.slice M2 p0.aB.length Na]) ⟨(h.pick 3).cell 0 rfl,CH⟩<|?_;refine ko Zy<|kM (h.pick 4)<|QW H λAY qU Cw YP H=>?_;cases AY with
    | some zV =>
     have hc:=TM (R4:=W1) (Si:=Xd) (VN:=(jJ.up 5 Yj)) (OY:=M2) (Pe:=Na) (Pf:=(wC.up 5 MY)) (MP:=jJ.up 5 MP) (OR:=MV) (H:=YP) (h:=h);intro _ r;refine cl (wn rfl) r hc ?_;clear hc h;rintro _ w ⟨ab3,x33,x34,x35,VS,W3,UP,Up,TL,Ub,Xk,ZZ,x44,rfl,h⟩;refine⟨_,rfl,?_⟩;refine ko [.tuple #[pA ab3 0,vI qU],U,U,U,U]<|kn<|wq<|ks<|ko [U,vB (qU != 0)]<|kn<|Qf H (λc45 H=>?_) λc45 H=>?_
     ·refine wk<|tn<|ks<|Oj H λLh e47 H=>ko [U]<|GR (Rq (H:=e47) (h:=h) :) λx48 x49 x50 x51 w h=>kn<|ks<|ko [U]<|kL (h.pick 10) 1<|qg H λc52 H=>xc1 (Tx (va:=NG) (c:=NO) (l:=p4.nH) (h:=h) (hv:=(jJ.V8 rm (h.pick 12) (λh=>(h.pick 12)))) c52 :) λb53 w h=>ko [U]<|kn<|ks<|ko [U]<|kn<|qd2 H λo63 H aeO=>λ_ r=>Nn (β:=Unit) (λ_ a w=>∃VX:Option Addr,∃VY:Nat,∃Wm:Option Addr,∃Wn:Nat,∃ab4:Option Addr,∃ab5:Nat,∃He:ae,∃Li:List ah,(He,Li)=o63/\∃j,Gk 108 (lk [(14,pA Xp 0),(18,.slice ab4 Li.length ab5)] j) a/\Fit z (cQ (aa8 Xp He VX VY Wm Wn (Vv ab4 ab5 Li::R8 NK NJ p4.hM::R8 NG NO p4.nH::L))) w) ?_ ?_
      ·refine qq r<|ks<|ko [U]<|kL (h.pick 11) 0<|ko [vI ((p4.hM.length:Nat):Int),U]<|kn<|wb<|?_;replace h:=h.ua (e:=47) (sz:=6) (enc:=Ow);refine λ_ r=>NB (β:=Nat) id (λm a w=>∃ab6:Option Addr,∃ab7:Nat,∃ZD:Option Addr,∃ZE:Nat,∃abj:Option Addr,∃abk:Nat,∃S64:ae,∃DM:af,∃Cy:aA,∃EV:List ah,∃Ap:Int,(gu K p2 p4 m S64 DM Cy EV Ap)=some o63/\∃j,Gk 108 (lk [(2,vI p2),(14,pA Xp 0),(16,pA ab3 0),(17,pA b53 0),(18,.slice abj EV.length abk),(71,.slice NK p4.hM.length NJ),(72,vI ((p4.hM.length:Nat):Int)),(73,vI Ap)] j) a/\Fit z (cQ (aa8 Xp S64 ab6 ab7 ZD ZE (aed ab3 DM (.iface 33 (pA Xp 0)) x33 x34 x35 VS W3 UP Up TL (Rr b53 Cy::Vv abj abk EV::R8 NK NJ p4.hM::R8 NG NO p4.nH::L)))) w) K ⟨x48,x49,x50,x51,none,0,Lh,zV,(⟨p4.nH⟩:aA),([]:List ah),0,H,r.fj (h.se 15 [2,3,4,5,6,7,8,9,1,0,13,14])⟩<|?_;clear h r H;rintro k1 a w ⟨ab6,ab7,ZD,ZE,abj,abk,S64,DM,Cy,EV,Ap,H,j,r,h⟩;cases k1 with
       | zero=>exact absurd H (by simp[gu])
       | succ k1 =>
        rw[gu]at H;refine qq r<|ks<|ko [vB (decide (Ap<((p4.hM.length:Nat):Int)))]<|kn<|wq<|NN H (λc75 H=>?_) λc75 H=>?_
        ·refine wk<|tn<|wq<|wb<|ks<|qg H λc76 H=>ko [U]<|ki (h.pick 10) c76<|λ_ r=>ld (wn rfl) r (vI (ag p4.hM Ap.toNat)) ((h.pick 10).Ng rm (f:=0) (zN c76) rfl)<|?_;refine ko Zy<|kn<|ks<|Oj H λym e78 H=>ko Zy<|N5 (S4 (H:=e78) (h:=h) :) λw h=>ko [U]<|kn<|ks<|Oj H λLe e80 H=>ko Zy<|GR (RX (H:=e80) (h:=h) :) λx81 x82 x83 ZY w h=>kn<|ks<|qb5 H λBp FW Bt Ab JI e90 H=>ko ue<|qh h.m8.m3.m3.m3.m8.m8.m8.m8.m8 λh=>GR (RS (CF:=jJ.up 3 CF) (H:=e90) (h:=h) :) λx91 x92 x93 x94 w h=>ko [.tuple #[NL Bp,vI FW],U,U]<|kN h (acF) 47 λb95 w h=>kA h (N8 b95 Bp) λw h=>ko [U]<|kn<|wq<|ks<|ko [U]<|kL h 2<|ko [vB (Bp.aQ==0)]<|kn<|NN H (λc96 H=>?_) λc96 H=>?_
         ·refine wx<|te<|bh<|tn<|wl<|ko [vI (wi (Ap+1)),vI (wi (Ap+1))]<|kn<|?_;exact λ_ r=>⟨_,⟨x91,x92,x93,x94,abj,abk,Ab,Bt,JI,EV,(wi (Ap+1)),H,r.fj (h.se 13 [6,7,8,1,2,3,4,5,9,10,11,12])⟩,afl _⟩
         refine wk<|tn<|ks<|ko Zy<|kS h 0 (N8 b95 {Bp with At:=Ap}) λw h=>kn<|ks<|ko [U]<|kM h<|kV h (Q1 {Bp with At:=Ap}) 47 λb97 w h=>qh h.m11 λh=>qg H λacJ H=>λ_ r=>O9 (n0:=EV.length) (c:=1) (bytes:=48) (wn rfl) rfl rfl r rfl (by kernel_rfl) (by kernel_rfl) NX (E:=47) (xs:=EV) (by kernel_rfl) (by kernel_rfl) h (news:=[{Bp with At:=Ap}]) (m:=1) rfl ((h.pick 1).news rfl) acJ rfl λadD adE w _ h r=>qq r<|ko [U]<|kn<|ks<|ko [U]<|kM (h.pick 2)<|Oj H λBu aeP H=>qh h.Y1.Y1.Y1.Y1.Y1.Y1.Y1.Y1 λh=>N5 (TQ (H:=aeP) (h:=h) :) λw h=>kn<|V4 H (λaeQ H=>?_) λaeQ H=>?_
         ·refine wx<|λ_ r=>U9 (by decide)<|qq r<|te<|te<|bh<|tn<|?_;exact λ_ r=>⟨(),x91,x92,x93,x94,adD,adE,Ab,(EV++[{Bp with At:=Ap}]),On H,r.fj (h.se 14 [5,6,7,8,12,13])⟩
         refine wk<|bn<|tn<|wl<|ko [vI (wi (Ap+1)),vI (wi (Ap+1))]<|kn<|?_;exact λ_ r=>⟨_,⟨x91,x92,x93,x94,adD,adE,Ab,Bt,JI,(EV++[{Bp with At:=Ap}]),(wi (Ap+1)),H,r.fj (h.se 14 [5,6,7,0,1,2,3,4,11,8,12,13])⟩,afl _⟩
        refine wx<|te<|te<|bh<|tn<|?_;exact λ_ r=>⟨(),ab6,ab7,ZD,ZE,abj,abk,S64,EV,On H,r.fj (h.se 12 [0,1,2,9,10,11])⟩
      clear h r;rintro _ a w ⟨VX,VY,Wm,Wn,ab4,ab5,He,Li,rfl,j,r,h⟩;replace H:=kk2 aeO;refine qq r<|ks<|Oj H λIt abb H=>ko Zy<|xc1 (RT (H:=abb) (h:=h) :) λUw w h=>ko mT<|kn<|wr<|?_;cases H;exact xw3 ab4 ab5 Uw (h.se 7 [5,6,4,3])
     refine ks<|ko ue<|kn<|wr<|tr<|λ_ r=>afJ (.slice none 0 0) (.slice none 0 0) (vI qU) rfl r<|?_;replace h:=h.ua (e:=47) (sz:=6) (enc:=Ow);replace h:=h.ua (e:=159) (sz:=6) (enc:=Ot);cases H;exact⟨none,0,none,rfl,h.se 15 [13,14,1,0]⟩
    | none =>
     refine GR (TN (R4:=W1) (Si:=Xd) (VN:=(jJ.up 5 Yj)) (OY:=M2) (Pe:=Na) (Pf:=(wC.up 5 MY)) (MP:=jJ.up 5 MP) (OR:=MV) (H:=YP) (h:=h) :) λUX VV VW afi w h=>ko [.tuple #[pN,vI qU],U,U,U,U]<|kn<|wq<|ks<|ko [U,vB (qU != 0)]<|kn<|Qf H (λacL H=>?_) λacL H=>?_
     ·refine wk<|tn<|ks<|Oj H λIu aeR H=>ko [U]<|GR (Rq (H:=aeR) (h:=h) :) λaeS aeT aeU Vn w h=>kn<|ks<|ko [U]<|kL (h.pick 5) 1<|qg H λaeV H=>xc1 (Tx (va:=NG) (c:=NO) (l:=p4.nH) (h:=h) (hv:=(jJ.V8 rm (h.pick 7) (λh=>(h.pick 7)))) aeV :) λadF w h=>ko [U]<|kn<|ks<|ko [U]<|kn<|qd2 H λadG H adH=>λ_ r=>Nn (β:=Unit) (λ_ a w=>∃abl:Option Addr,∃abm:Nat,∃abn:Option Addr,∃abo:Nat,∃Z1:Option Addr,∃Z2:Nat,∃Iv:ae,∃Iw:List ah,(Iv,Iw)=adG/\∃j,Gk 108 (lk [(14,pA Xp 0),(18,.slice Z1 Iw.length Z2)] j) a/\Fit z (cQ (aa8 Xp Iv abl abm abn abo (Vv Z1 Z2 Iw::R8 NK NJ p4.hM::R8 NG NO p4.nH::L))) w) ?_ ?_
      ·refine qq r<|ks<|ko [U]<|kL (h.pick 6) 0<|ko [vI ((p4.hM.length:Nat):Int),U]<|kn<|wb<|?_;replace h:=h.ua (e:=47) (sz:=6) (enc:=Ow);refine λ_ r=>NB (β:=Nat) id (λm a w=>∃Z3:Option Addr,∃Z4:Nat,∃Z5:Option Addr,∃Z6:Nat,∃YX:Option Addr,∃YY:Nat,∃EW:ae,∃xZ:List ah,∃sE:Int,(kr K p2 p4 m EW xZ sE)=some adG/\∃j,Gk 108 (lk [(2,vI p2),(14,pA Xp 0),(16,pN),(17,pA adF 0),(18,.slice YX xZ.length YY),(71,.slice NK p4.hM.length NJ),(72,vI ((p4.hM.length:Nat):Int)),(73,vI sE)] j) a/\Fit z (cQ (aa8 Xp EW Z3 Z4 Z5 Z6 (Rr adF (⟨p4.nH⟩:aA)::Vv YX YY xZ::R8 NK NJ p4.hM::R8 NG NO p4.nH::L))) w) K ⟨aeS,aeT,aeU,Vn,none,0,Iu,([]:List ah),0,H,r.fj (h.se 10 [2,3,4,1,0,8,9])⟩<|?_;clear h r H;rintro k2 a w ⟨Z3,Z4,Z5,Z6,YX,YY,EW,xZ,sE,H,j,r,h⟩;cases k2 with
       | zero=>exact absurd H (by simp[kr])
       | succ k2 =>
        rw[kr]at H;refine qq r<|ks<|ko [vB (decide (sE<((p4.hM.length:Nat):Int)))]<|kn<|wq<|NN H (λaeW H=>?_) λaeW H=>?_
        ·refine wk<|tn<|wq<|wb<|ks<|qg H λadI H=>ko [U]<|ki (h.pick 5) adI<|λ_ r=>ld (wn rfl) r (vI (ag p4.hM sE.toNat)) ((h.pick 5).Ng rm (f:=0) (zN adI) rfl)<|?_;refine ko Zy<|kn<|ks<|Oj H λEX aeX H=>ko Zy<|N5 (S4 (H:=aeX) (h:=h) :) λw h=>ko [U]<|kn<|ks<|Oj H λB8 aeY H=>ko Zy<|GR (RX (H:=aeY) (h:=h) :) λacX acY acZ ac0 w h=>kn<|ks<|RD H λzz Lf aeZ H=>ko ue<|qh h.m3 λh=>N5 (Re (H:=aeZ) (h:=h) :) λw h=>ko [.tuple #[NL zz,vI Lf],U,U]<|kN h (acF) 47 λadJ w h=>kA h (N8 adJ zz) λw h=>ko [U]<|kn<|wq<|ks<|ko [U]<|kL h 2<|ko [vB (zz.aQ==0)]<|kn<|NN H (λae0 H=>?_) λae0 H=>?_
         ·refine wx<|te<|bh<|tn<|wl<|ko [vI (wi (sE+1)),vI (wi (sE+1))]<|kn<|?_;exact λ_ r=>⟨_,⟨acX,acY,acZ,ac0,YX,YY,B8,xZ,(wi (sE+1)),H,r.fj (h.se 8 [2,3,4,1,5,6,7])⟩,afl _⟩
         refine wk<|tn<|ks<|ko Zy<|kS h 0 (N8 adJ {zz with At:=sE}) λw h=>kn<|ks<|ko [U]<|kM h<|kV h (Q1 {zz with At:=sE}) 47 λafj w h=>qh h.m6 λh=>qg H λabc H=>λ_ r=>O9 (n0:=xZ.length) (c:=1) (bytes:=48) (wn rfl) rfl rfl r rfl (by kernel_rfl) (by kernel_rfl) NX (E:=47) (xs:=xZ) (by kernel_rfl) (by kernel_rfl) h (news:=[{zz with At:=sE}]) (m:=1) rfl ((h.pick 1).news rfl) abc rfl λaci acj w _ h r=>qq r<|ko [U]<|kn<|ks<|ko [U]<|kM (h.pick 2)<|Oj H λw5 ae1 H=>N5 (Sr (H:=ae1) (h:=h) :) λw h=>kn<|V4 H (λae2 H=>?_) λae2 H=>?_
         ·refine wx<|λ_ r=>U9 (by decide)<|qq r<|te<|te<|bh<|tn<|?_;exact λ_ r=>⟨(),acX,acY,acZ,ac0,aci,acj,B8,(xZ++[{zz with At:=sE}]),On H,r.fj (h.se 9 [4,5,6,0,7,8])⟩
         refine wk<|bn<|tn<|wl<|ko [vI (wi (sE+1)),vI (wi (sE+1))]<|kn<|?_;exact λ_ r=>⟨_,⟨acX,acY,acZ,ac0,aci,acj,B8,(xZ++[{zz with At:=sE}]),(wi (sE+1)),H,r.fj (h.se 9 [4,5,6,3,0,7,8])⟩,afl _⟩
        refine wx<|te<|te<|bh<|tn<|?_;exact λ_ r=>⟨(),Z3,Z4,Z5,Z6,YX,YY,EW,xZ,On H,r.fj (h.se 7 [0,1,2,4,5,6])⟩
      clear h r;rintro _ a w ⟨abl,abm,abn,abo,Z1,Z2,Iv,Iw,rfl,j,r,h⟩;replace H:=kk2 adH;refine qq r<|ks<|Oj H λIx ae3 H=>ko Zy<|xc1 (RT (H:=ae3) (h:=h) :) λVs w h=>ko mT<|kn<|wr<|?_;cases H;exact xw3 Z1 Z2 Vs (h.se 7 [5,6,4,3])
     refine ks<|ko ue<|kn<|wr<|tr<|λ_ r=>afJ (.slice none 0 0) (.slice none 0 0) (vI qU) rfl r<|?_;replace h:=h.ua (e:=47) (sz:=6) (enc:=Ow);replace h:=h.ua (e:=159) (sz:=6) (enc:=Ot);cases H;exact⟨none,0,none,rfl,h.se 10 [8,9,1,0]⟩
   refine ks<|ko ue<|kn<|wr<|tr<|λ_ r=>afJ (.slice none 0 0) (.slice none 0 0) (vI lM) rfl r<|?_;replace h:=h.ua (e:=47) (sz:=6) (enc:=Ow);replace h:=h.ua (e:=159) (sz:=6) (enc:=Ot);cases H;exact⟨none,0,none,rfl,h.se 10 [8,9,1,0]⟩
  | none =>
   refine N5 (W9 (H:=XA) (h:=h) :) λw h=>ko [.tuple #[pN,vI lM],U,U,U,U]<|kn<|wq<|ks<|ko [U,vB (lM != 0)]<|kn<|Qf H (λae4 H=>?_) λae4 H=>?_
   ·refine wk<|tn<|ks<|ko Zy<|λ_ r=>RI (wn rfl) r (.agg #[.slice M2 p0.aB.length Na]) (cs:=[.slice M2 p0.aB.length Na]) ⟨h.cell 0 rfl,CH⟩<|?_;refine ko Zy<|kM (h.pick 1)<|?_;cases H
   refine ks<|ko ue<|kn<|wr<|tr<|λ_ r=>afJ (.slice none 0 0) (.slice none 0 0) (vI lM) rfl r<|?_;replace h:=h.ua (e:=47) (sz:=6) (enc:=Ow);replace h:=h.ua (e:=159) (sz:=6) (enc:=Ot);cases H;exact⟨none,0,none,rfl,h.se 7 [5,6,1,0]⟩
 refine ks<|ko ue<|kn<|wr<|tr<|λ_ r=>afJ (.slice none 0 0) (.slice none 0 0) (vI RY) rfl r<|?_;replace h:=h.ua (e:=47) (sz:=6) (enc:=Ow);replace h:=h.ua (e:=159) (sz:=6) (enc:=Ot);cases H;exact⟨none,0,none,rfl,h.se 7 [5,6,1,0]⟩
def jQ(p0:eW):Option (Bool):=
 (if((p0.hM.length:Nat):Int)>1048576 then some true else some (decide (((p0.nH.length:Nat):Int)>1048576)))
theorem SN{p0:eW}{T0 T1:Option Addr}{Vw Vx:Nat}{r0:Bool}(H:jQ p0=some r0)(h:ft_ z (L) w)(aao:jJ L 1 oE T0 p0.hM)(aap:jJ L 1 oE T1 p0.nH) :
 c0_ 66 #[.agg #[.slice T0 p0.hM.length Vw,.slice T1 p0.nH.length Vx]] w z (vB r0) (L):=by
 unfold jQ at H;refine ke Tryz.func66 13 rfl λj=>ks<|kN h (#[.slice T0 p0.hM.length Vw,.slice T1 p0.nH.length Vx]) 30 λb1 w h=>ko [U]<|kn<|ks<|ko [U]<|kL h 0<|ko [vI ((p0.hM.length:Nat):Int),vB (decide (((p0.hM.length:Nat):Int)>1048576)),vB (decide (((p0.hM.length:Nat):Int)>1048576))]<|qI H (λc2 H=>?_) λc2 H=>?_
 ·refine Nh (dT c2) [8,9,10,11]<|PT (dT c2) (vB true)<|ko [U]<|kn<|wr<|?_;cases H;exact Ox (h.se 1 [])
 refine Nl (dF c2) [8] [pA b1 1]<|Q7 (dF c2) h 1<|Nl (dF c2) [10,11] [vI ((p0.nH.length:Nat):Int),vB (decide (((p0.nH.length:Nat):Int)>1048576))]<|PM (dF c2) (vB (decide (((p0.nH.length:Nat):Int)>1048576)))<|ko [vB (decide (((p0.nH.length:Nat):Int)>1048576))]<|kn<|wr<|?_;cases H;exact Ox (h.se 1 [])
def hO(K:Nat)(p0:aN):Option (Int):=
 bH (jQ (⟨p0.Nm,p0.gQ⟩:eW)) (λr2=>(if r2=true then some 2 else bH (gV K (⟨p0.cG⟩:ay) p0.mc p0.ez (⟨p0.MU,p0.j8,p0.kU⟩:bY)) (λr5=>some r5)))
theorem SO{K:Nat}{p0:aN}{Aw Fe AA AE:Option Addr}{Ax Ff AB AF:Nat}{Az:Nat->Option Addr×Nat}{r0:Int}(H:hO K p0=some r0)(h:ft_ z (L) w)(Ay:T3 L Aw Az p0.cG)(Fg:jJ L 1 oE Fe p0.mc)(AD:jJ L 1 oE AA p0.Nm)(AG:jJ L 1 oE AE p0.gQ) :
 c0_ 41 #[.agg #[.slice Aw p0.cG.length Ax,.slice Fe p0.mc.length Ff,vI p0.ez,vI p0.MU,vI p0.j8,vI p0.kU,.slice AA p0.Nm.length AB,.slice AE p0.gQ.length AF]] w z (vI r0) (L):=by
 unfold hO at H;refine ke Tryz.func41 15 rfl λj=>ks<|kN h (#[.slice Aw p0.cG.length Ax,.slice Fe p0.mc.length Ff,vI p0.ez,vI p0.MU,vI p0.j8,vI p0.kU,.slice AA p0.Nm.length AB,.slice AE p0.gQ.length AF]) 32 λb1 w h=>ko [U]<|kn<|wq<|ks<|ko [U]<|λ_ r=>RI (wn rfl) r (.agg #[.slice AA p0.Nm.length AB,.slice AE p0.gQ.length AF]) (cs:=[.slice AA p0.Nm.length AB,.slice AE p0.gQ.length AF]) (h.held 6 rfl)<|?_;refine Oj H λr2 e3 H=>N5 (SN (T0:=AA) (Vw:=AB) (aao:=(jJ.up 1 AD)) (T1:=AE) (Vx:=AF) (aap:=(jJ.up 1 AG)) (H:=e3) (h:=h) :) λw h=>kn<|V4 H (λc4 H=>?_) λc4 H=>?_
 ·refine ks<|ko [U]<|kn<|wr<|tr<|?_;cases H;exact Ox (h.se 1 [])
 refine wk<|tn<|ks<|ko [U]<|λ_ r=>RI (wn rfl) r (.agg #[.slice Aw p0.cG.length Ax]) (cs:=[.slice Aw p0.cG.length Ax]) ⟨h.cell 0 rfl,CH⟩<|?_;refine ko [U]<|kL h 1<|ko [U]<|kL h 2<|ko [U]<|λ_ r=>RI (wn rfl) r (.agg #[vI p0.MU,vI p0.j8,vI p0.kU]) (cs:=[vI p0.MU,vI p0.j8,vI p0.kU]) (h.held 3 rfl)<|?_;refine Oj H λr5 e6 H=>N5 (SG (W1:=Fe) (Xd:=Ff) (Yj:=(jJ.up 1 Fg)) (M2:=Aw) (Na:=Ax) (MY:=(wC.up 1 Ay)) (MV:=Az) (H:=e6) (h:=h) :) λw h=>ko [U]<|kn<|wr<|?_;cases H;exact Ox (h.se 1 [])
def fS(K:Nat)(lM:List ah):Nat->Int->Option ((List ah)×Bool×Bool)
 | 0,_=>none
 | k1+1,zA=>(if zA<((lM.length:Nat):Int)then bH (if aZ zA lM.length then(if(ag lM zA.toNat).aQ=1 then some ((ag lM zA.toNat).Frame==0)else some false)else none) (λLj=>(if Lj=true then if aZ zA lM.length then(if(ag lM zA.toNat).Qm=0 then(if(ag lM zA.toNat).X=(-1)then some (lM,true,(ag lM zA.toNat).V==1)else some (lM,true,false))else some (lM,true,false))else none else(fS K lM k1 (wi (zA+1)))))else some (lM,true,false))
def gT(K:Nat)(p0:aN):Option ((List ah)×Bool×Bool):=
 bH (jm K p0) (λr5=>gh (jP K (⟨r5.cG⟩:ay) r5.mc r5.ez (⟨r5.MU,r5.j8,r5.kU⟩:bY) (⟨r5.Nm,r5.gQ⟩:eW)) (λlM oR SW=>bH (hO K p0) (λsW=>(if SW=sW then(if SW=0 then bH (kg K p0) (λDQ=>(if DQ=true then(fS K lM K 0)else some (lM,true,true)))else some (([]:List ah),false,true))else some (([]:List ah),false,false)))))
theorem TR{K:Nat}{p0:aN}{Aw Fe AA AE:Option Addr}{Ax Ff AB AF:Nat}{Az:Nat->Option Addr×Nat}{r0:List ah}{r1 r2:Bool}(H:gT K p0=some (r0,r1,r2))(h:ft_ z (L) w)(Ay:T3 L Aw Az p0.cG)(Fg:jJ L 1 oE Fe p0.mc)(AD:jJ L 1 oE AA p0.Nm)(AG:jJ L 1 oE AE p0.gQ)(CF:jJ L 1 wu (some ⟨0,0,none⟩) zS)(MP:jJ L 5 kJ (some ⟨1,0,none⟩) pF) :
 Calls Tryz.prog 45 #[.agg #[.slice Aw p0.cG.length Ax,.slice Fe p0.mc.length Ff,vI p0.ez,vI p0.MU,vI p0.j8,vI p0.kU,.slice AA p0.Nm.length AB,.slice AE p0.gQ.length AF]] w λe w=>∃y1 y2,e=.returned (.tuple #[.slice y1 r0.length y2,vB r1,vB r2])/\Fit z (cQ (Vv y1 y2 r0::L)) w:=by
 unfold gT at H;refine ke Tryz.func45 85 rfl λj=>ks<|kN h (#[.slice Aw p0.cG.length Ax,.slice Fe p0.mc.length Ff,vI p0.ez,vI p0.MU,vI p0.j8,vI p0.kU,.slice AA p0.Nm.length AB,.slice AE p0.gQ.length AF]) 32 λb4 w h=>ko mT<|kn<|ks<|kM h<|Oj H λr5 e6 H=>GV (TP (Aw:=Aw) (Ax:=Ax) (Ay:=(wC.up 1 Ay)) (Fe:=Fe) (Ff:=Ff) (Fg:=(jJ.up 1 Fg)) (AA:=AA) (AB:=AB) (AD:=(jJ.up 1 AD)) (AE:=AE) (AF:=AF) (AG:=(jJ.up 1 AG)) (Az:=Az) (H:=e6) (h:=h) :) λx7 x8 x9 pD yx SP Rm Sj w h=>kN h (#[.slice none 0 0,.slice none 0 0,vI 0,vI 0,vI 0,vI 0,.slice none 0 0,.slice none 0 0]) 32 λb15 w h=>kA h (UN b15 r5 x7 x8 x9 pD yx SP Rm Sj) λw h=>kn<|ks<|ko [U]<|λ_ r=>RI (wn rfl) r (.agg #[.slice x7 r5.cG.length x8]) (cs:=[.slice x7 r5.cG.length x8]) ⟨h.cell 0 rfl,CH⟩<|?_;refine ko [U]<|kL h 1<|ko [U]<|kL h 2<|ko [U]<|λ_ r=>RI (wn rfl) r (.agg #[vI r5.MU,vI r5.j8,vI r5.kU]) (cs:=[vI r5.MU,vI r5.j8,vI r5.kU]) (h.held 3 rfl)<|?_;refine ko [U]<|λ_ r=>RI (wn rfl) r (.agg #[.slice yx r5.Nm.length SP,.slice Rm r5.gQ.length Sj]) (cs:=[.slice yx r5.Nm.length SP,.slice Rm r5.gQ.length Sj]) (h.held 6 rfl)<|?_;refine qh h.m1 λh=>?_;obtain⟨ae5,adK,h⟩:=aaG (cn:=AW) (I:=146) (vh:=5) (lP:=gJ) (vi:=ax.Code) (λh=>QZ h) h;refine QW H λlM oR SW YO H=>qh h.m4.m4 λh=>xc3 (WY (W1:=x9) (Xd:=pD) (Yj:=(jJ.V8 rm (h.pick 4) (λh=>(h.pick 2)))) (M2:=x7) (Na:=x8) (MY:=(wC.cast (wC.abD mU (by decide) (h.pick 2) (λh=>h)) adK)) (CF:=jJ.up 4 CF) (MP:=jJ.up 4 MP) (MV:=(λi_=>(ag ae5 i_).2)) (H:=YO) (h:=h) :) λPy QX TZ w h=>qh h.m4 λh=>?_;replace h:=Zb (own:=Pm) (λh=>NQ h) h adK;refine ko [.tuple #[.slice Py lM.length QX,.slice TZ oR.length oR.length,vI SW],U,U,U,U,U,U]<|kn<|ks<|kM (h.pick 7)<|Oj H λsW e26 H=>N5 (SO (Aw:=Aw) (Ax:=Ax) (Ay:=(wC.up 8 Ay)) (Fe:=Fe) (Ff:=Ff) (Fg:=(jJ.up 8 Fg)) (AA:=AA) (AB:=AB) (AD:=(jJ.up 8 AD)) (AE:=AE) (AF:=AF) (AG:=(jJ.up 8 AG)) (Az:=Az) (H:=e26) (h:=h) :) λw h=>ko [U]<|kn<|wq<|ks<|ko [U,U,vB (SW != sW)]<|kn<|Qf H (λQk H=>?_) λQk H=>?_
 ·refine wk<|tn<|wq<|ks<|ko [U,vB (SW != 0)]<|kn<|Qf H (λT7 H=>?_) λT7 H=>?_
  ·refine wk<|tn<|ks<|kM (h.pick 7)<|Oj H λDQ YP H=>N5 (Tp (Aw:=Aw) (Ax:=Ax) (Ay:=(wC.up 8 Ay)) (Fe:=Fe) (Ff:=Ff) (Fg:=(jJ.up 8 Fg)) (AA:=AA) (AB:=AB) (AD:=(jJ.up 8 AD)) (AE:=AE) (AF:=AF) (AG:=(jJ.up 8 AG)) (Az:=Az) (H:=YP) (h:=h) :) λw h=>ko [U]<|kn<|wq<|ks<|ko [U,vB (!DQ)]<|kn<|Vb H (λRw H=>?_) λRw H=>?_
   ·refine wk<|tn<|wq<|ks<|ko [U]<|kn<|wb<|λ_ r=>NB (β:=Nat) id (λm a w=>∃zA:Int,(fS K lM m zA)=some (r0,r1,r2)/\∃j,Gk 85 (lk [(6,.slice Py lM.length QX),(11,vI zA)] j) a/\Fit z (cQ (Vv Py QX lM::L)) w) K ⟨0,H,r.fj (h.se 8 [3])⟩<|?_;clear h r H;rintro k1 a w ⟨zA,H,j,r,h⟩;cases k1 with
    | zero=>exact absurd H (by simp[fS])
    | succ k1 =>
     rw[fS]at H;refine qq r<|wq<|ks<|ko [U,U,vI ((lM.length:Nat):Int),vB (decide (zA<((lM.length:Nat):Int)))]<|kn<|NN H (λSs H=>?_) λSs H=>?_
     ·refine wk<|tn<|wq<|wb<|VA H λo36 H ae6=>λ_ r=>Nn (β:=Unit) (λ_ a w=>∃Lj:Bool,Lj=o36/\∃j,Gk 85 (lk [(6,.slice Py lM.length QX),(11,vI zA),(60,vB Lj)] j) a/\Fit z (cQ (Vv Py QX lM::L)) w) ?_ ?_
      ·refine qq r<|wl<|qg H λXD H=>ko Zy<|ki h XD<|ko [U]<|λ_ r=>ld (wn rfl) r (vI (ag lM zA.toNat).aQ) (h.Ng NX (f:=2) (zN XD) rfl)<|?_;refine ko [vB ((ag lM zA.toNat).aQ==1),vB ((ag lM zA.toNat).aQ==1)]<|qI H (λXc H=>?_) λXc H=>?_
       ·refine Nl (beq_iff_eq.mpr Xc) [54,55] [.slice Py lM.length QX,vI zA]<|λ_ r=>Y0 (PB r (beq_iff_eq.mpr Xc)) r (pA (Cp Py) (zA.toNat*6)) (ag0 47 rfl h XD)<|?_;refine Nl (beq_iff_eq.mpr Xc) [57] [pA (Cp Py) (zA.toNat*6+3)]<|λ_ r=>ld (PB r (beq_iff_eq.mpr Xc)) r (vI (ag lM zA.toNat).Frame) (h.Ng NX (f:=3) (zN XD) rfl)<|?_;refine Nl (beq_iff_eq.mpr Xc) [59] [vB ((ag lM zA.toNat).Frame==0)]<|PT (beq_iff_eq.mpr Xc) (vB ((ag lM zA.toNat).Frame==0))<|kn<|?_;exact λ_ r=>⟨(),((ag lM zA.toNat).Frame==0),On H,r.fj h⟩
       refine Nh (bN Xc) [54,55,56,57,58,59]<|PM (bN Xc) (vB false)<|kn<|?_;exact λ_ r=>⟨(),false,On H,r.fj h⟩
      clear h r;rintro _ a w ⟨Lj,rfl,j,r,h⟩;replace H:=Vy ae6;refine qq r<|V4 H (λXB H=>?_) λXB H=>?_
      ·refine wq<|qg H λXC H=>qI H (λSF H=>?_) λSF H=>?_
       ·refine qI H (λSY H=>?_) λSY H=>?_
        ·refine λ_ r=>Ob [(Cp Py,zA.toNat*6+1,[vI (ag lM zA.toNat).Qm]),(Cp Py,zA.toNat*6+4,[vI (ag lM zA.toNat).X]),(Cp Py,zA.toNat*6+5,[vI (ag lM zA.toNat).V])] [3,4,6,10,11,13,18,19] 26 h (λh=>⟨⟨h.Ng NX (f:=1) (zN XC) rfl,CH⟩,⟨h.Ng NX (f:=4) (zN XC) rfl,CH⟩,⟨h.Ng NX (f:=5) (zN XC) rfl,CH⟩,CH⟩) λw h hd =>qq r<|Oi hd 23 [(0,61,.slice Py lM.length QX),(1,62,.slice Py lM.length QX),(2,63,vI zA)]<|eo_ hd 22 3 rfl (pA (Cp Py) (zA.toNat*6)) (λw=>ag0 47 rfl h XC)<|Oi hd 21 [(4,65,pA (Cp Py) (zA.toNat*6+1))]<|kx hd 0 20 5 rfl rfl<|Oi hd 18 [(6,67,vB ((ag lM zA.toNat).Qm==0)),(7,68,vB ((ag lM zA.toNat).Qm==0))]<|λ_ r=>Pj hd 17 8 rfl (PB r (beq_iff_eq.mpr SF)) r (.slice Py lM.length QX)<|?_;refine λ_ r=>Pj hd 16 9 rfl (PB r (beq_iff_eq.mpr SF)) r (vI zA)<|?_;refine λ_ r=>Pj hd 15 10 rfl (PB r (beq_iff_eq.mpr SF)) r (pA (Cp Py) (zA.toNat*6)) (hrun:=λw=>ag0 47 rfl h XC)<|?_;refine λ_ r=>Pj hd 14 11 rfl (PB r (beq_iff_eq.mpr SF)) r (pA (Cp Py) (zA.toNat*6+4))<|?_;refine λ_ r=>elx hd 1 13 12 r (PB r (beq_iff_eq.mpr SF)) rfl rfl<|?_;refine λ_ r=>Pj hd 12 13 rfl (PB r (beq_iff_eq.mpr SF)) r (vB ((ag lM zA.toNat).X==(-1)))<|?_;refine eo_ hd 11 14 rfl (vB ((ag lM zA.toNat).X==(-1))) (λw=>W5 (b:=((ag lM zA.toNat).Qm==0)) rfl (by kernel_rfl) (beq_iff_eq.mpr SF) (by kernel_rfl))<|Oi hd 10 [(15,76,vB ((ag lM zA.toNat).X==(-1)))]<|λ_ r=>Pj hd 9 16 rfl (PB r (beq_iff_eq.mpr SY)) r (.slice Py lM.length QX)<|?_;refine λ_ r=>Pj hd 8 17 rfl (PB r (beq_iff_eq.mpr SY)) r (vI zA)<|?_;refine λ_ r=>Pj hd 7 18 rfl (PB r (beq_iff_eq.mpr SY)) r (pA (Cp Py) (zA.toNat*6)) (hrun:=λw=>ag0 47 rfl h XC)<|?_;refine λ_ r=>Pj hd 6 19 rfl (PB r (beq_iff_eq.mpr SY)) r (pA (Cp Py) (zA.toNat*6+5))<|?_;refine Oi hd 4 [(23,2,.slice Py lM.length QX),(24,3,vB true)]<|λ_ r=>elx hd 2 3 20 r (PB r (beq_iff_eq.mpr SY)) rfl rfl<|?_;refine λ_ r=>Pj hd 2 21 rfl (PB r (beq_iff_eq.mpr SY)) r (vB ((ag lM zA.toNat).V==1))<|?_;refine eo_ hd 1 22 rfl (vB ((ag lM zA.toNat).V==1)) (λw=>W5 (b:=((ag lM zA.toNat).X==(-1))) rfl (by kernel_rfl) (beq_iff_eq.mpr SY) (by kernel_rfl))<|Oi hd 0 [(25,4,vB ((ag lM zA.toNat).V==1))]<|λ_ r=>O4<|qq r<|tn<|wr<|br<|tr<|tr<|br<|tr<|?_;cases H;exact xw2 Py QX h
        refine λ_ r=>Ob [(Cp Py,zA.toNat*6+1,[vI (ag lM zA.toNat).Qm]),(Cp Py,zA.toNat*6+4,[vI (ag lM zA.toNat).X])] [3,4,6,10,11] 26 h (λh=>⟨⟨h.Ng NX (f:=1) (zN XC) rfl,CH⟩,⟨h.Ng NX (f:=4) (zN XC) rfl,CH⟩,CH⟩) λw h hd =>qq r<|Oi hd 23 [(0,61,.slice Py lM.length QX),(1,62,.slice Py lM.length QX),(2,63,vI zA)]<|eo_ hd 22 3 rfl (pA (Cp Py) (zA.toNat*6)) (λw=>ag0 47 rfl h XC)<|Oi hd 21 [(4,65,pA (Cp Py) (zA.toNat*6+1))]<|kx hd 0 20 5 rfl rfl<|Oi hd 18 [(6,67,vB ((ag lM zA.toNat).Qm==0)),(7,68,vB ((ag lM zA.toNat).Qm==0))]<|λ_ r=>Pj hd 17 8 rfl (PB r (beq_iff_eq.mpr SF)) r (.slice Py lM.length QX)<|?_;refine λ_ r=>Pj hd 16 9 rfl (PB r (beq_iff_eq.mpr SF)) r (vI zA)<|?_;refine λ_ r=>Pj hd 15 10 rfl (PB r (beq_iff_eq.mpr SF)) r (pA (Cp Py) (zA.toNat*6)) (hrun:=λw=>ag0 47 rfl h XC)<|?_;refine λ_ r=>Pj hd 14 11 rfl (PB r (beq_iff_eq.mpr SF)) r (pA (Cp Py) (zA.toNat*6+4))<|?_;refine λ_ r=>elx hd 1 13 12 r (PB r (beq_iff_eq.mpr SF)) rfl rfl<|?_;refine λ_ r=>Pj hd 12 13 rfl (PB r (beq_iff_eq.mpr SF)) r (vB ((ag lM zA.toNat).X==(-1)))<|?_;refine eo_ hd 11 14 rfl (vB ((ag lM zA.toNat).X==(-1))) (λw=>W5 (b:=((ag lM zA.toNat).Qm==0)) rfl (by kernel_rfl) (beq_iff_eq.mpr SF) (by kernel_rfl))<|Oi hd 10 [(15,76,vB ((ag lM zA.toNat).X==(-1)))]<|λ_ r=>eof hd 9 16 rfl (PB r (bN SY)) r<|?_;refine λ_ r=>eof hd 8 17 rfl (PB r (bN SY)) r<|?_;refine λ_ r=>eof hd 7 18 rfl (PB r (bN SY)) r<|?_;refine λ_ r=>eof hd 6 19 rfl (PB r (bN SY)) r<|?_;refine Oi hd 4 [(23,2,.slice Py lM.length QX),(24,3,vB true)]<|λ_ r=>eof hd 3 20 rfl (PB r (bN SY)) r<|?_;refine λ_ r=>eof hd 2 21 rfl (PB r (bN SY)) r<|?_;refine eo_ hd 1 22 rfl (vB false) (λw=>XH (b:=((ag lM zA.toNat).X==(-1))) rfl (by kernel_rfl) (bN SY) (by kernel_rfl))<|Oi hd 0 [(25,4,vB false)]<|λ_ r=>O4<|qq r<|tn<|wr<|br<|tr<|tr<|br<|tr<|?_;cases H;exact xw2 Py QX h
       refine λ_ r=>Ob [(Cp Py,zA.toNat*6+1,[vI (ag lM zA.toNat).Qm])] [3,4] 26 h (λh=>⟨⟨h.Ng NX (f:=1) (zN XC) rfl,CH⟩,CH⟩) λw h hd =>qq r<|Oi hd 23 [(0,61,.slice Py lM.length QX),(1,62,.slice Py lM.length QX),(2,63,vI zA)]<|eo_ hd 22 3 rfl (pA (Cp Py) (zA.toNat*6)) (λw=>ag0 47 rfl h XC)<|Oi hd 21 [(4,65,pA (Cp Py) (zA.toNat*6+1))]<|kx hd 0 20 5 rfl rfl<|Oi hd 18 [(6,67,vB ((ag lM zA.toNat).Qm==0)),(7,68,vB ((ag lM zA.toNat).Qm==0))]<|λ_ r=>eof hd 17 8 rfl (PB r (bN SF)) r<|?_;refine λ_ r=>eof hd 16 9 rfl (PB r (bN SF)) r<|?_;refine λ_ r=>eof hd 15 10 rfl (PB r (bN SF)) r<|?_;refine λ_ r=>eof hd 14 11 rfl (PB r (bN SF)) r<|?_;refine λ_ r=>eof hd 13 12 rfl (PB r (bN SF)) r<|?_;refine λ_ r=>eof hd 12 13 rfl (PB r (bN SF)) r<|?_;refine eo_ hd 11 14 rfl (vB false) (λw=>XH (b:=((ag lM zA.toNat).Qm==0)) rfl (by kernel_rfl) (bN SF) (by kernel_rfl))<|Oi hd 10 [(15,76,vB false)]<|λ_ r=>eof hd 9 16 rfl (PB r (c:=false) rfl) r<|?_;refine λ_ r=>eof hd 8 17 rfl (PB r (c:=false) rfl) r<|?_;refine λ_ r=>eof hd 7 18 rfl (PB r (c:=false) rfl) r<|?_;refine λ_ r=>eof hd 6 19 rfl (PB r (c:=false) rfl) r<|?_;refine Oi hd 4 [(23,2,.slice Py lM.length QX),(24,3,vB true)]<|λ_ r=>eof hd 3 20 rfl (PB r (c:=false) rfl) r<|?_;refine λ_ r=>eof hd 2 21 rfl (PB r (c:=false) rfl) r<|?_;refine Oi hd 0 [(22,83,vB false),(25,4,vB false)]<|λ_ r=>O4<|qq r<|tn<|wr<|br<|tr<|tr<|br<|tr<|?_;cases H;exact xw2 Py QX h
      refine wk<|bn<|tn<|wl<|ko [U,vI (wi (zA+1)),vI (wi (zA+1))]<|kn<|?_;exact λ_ r=>⟨_,⟨(wi (zA+1)),H,r.fj h⟩,afl _⟩
     refine wx<|te<|te<|bh<|tn<|ks<|ko ue<|kn<|wr<|?_;cases H;exact xw2 Py QX h
   refine ks<|ko ue<|kn<|wr<|tr<|?_;cases H;exact xw2 Py QX (h.se 8 [3])
  refine ks<|ko mT<|kn<|wr<|tr<|λ_ r=>afJ (.slice none 0 0) (vB false) (vB true) rfl r<|?_;replace h:=h.ua (e:=47) (sz:=6) (enc:=Ow);cases H;exact⟨none,0,rfl,h.se 9 [0]⟩
 refine ks<|ko mT<|kn<|wr<|tr<|λ_ r=>afJ (.slice none 0 0) (vB false) (vB false) rfl r<|?_;replace h:=h.ua (e:=47) (sz:=6) (enc:=Ow);cases H;exact⟨none,0,rfl,h.se 9 [0]⟩
def cP(K:Nat)(p0:aN)(r2:List ah):Nat->(List Int)->(List Int)->(List Int)->Int->Option (Bool)
 | 0,_,_,_,_=>none
 | k1+1,wM,zB,Aq,lT=>(if lT<((r2.length:Nat):Int)then if aZ lT r2.length then bH ((if(ag r2 lT.toNat).aQ=2 then some 0 else(if(ag r2 lT.toNat).aQ=1 then some 1 else(if(ag r2 lT.toNat).aQ=6 then some 2 else some (-1))))) (λAs=>(if As<0 then(cP K p0 r2 k1 wM zB Aq (wi (lT+1)))else kQ ((if(ag r2 lT.toNat).Frame<0 then some (.inr false)else(if(ag r2 lT.toNat).Frame>=(((List.replicate p0.MU.toNat (0:Int)).length:Nat):Int)then some (.inr false)else if aZ (ag r2 lT.toNat).Frame wM.length then(if(ag wM (ag r2 lT.toNat).Frame.toNat)=As then(if As=1 then(if(ag r2 lT.toNat).V=1 then some (.inl ())else some (.inr false))else some (.inl ()))else some (.inr false))else none))) (if aZ (ag r2 lT.toNat).Frame wM.length then(if As=0 then kQ ((if(ag r2 lT.toNat).X<0 then some (.inr false)else(if(ag r2 lT.toNat).X>=(((List.replicate p0.MU.toNat (0:Int)).length:Nat):Int)then some (.inr false)else if aZ (ag r2 lT.toNat).X (wM.set (ag r2 lT.toNat).Frame.toNat (wi (As+1))).length then(if(ag (wM.set (ag r2 lT.toNat).Frame.toNat (wi (As+1))) (ag r2 lT.toNat).X.toNat)=2 then some (.inl ())else some (.inr false))else none))) (if aZ (ag r2 lT.toNat).X zB.length then if aZ (ag r2 lT.toNat).X Aq.length then if aZ (ag r2 lT.toNat).Frame zB.length then if aZ (ag r2 lT.toNat).Frame (zB.set (ag r2 lT.toNat).Frame.toNat (wi ((wi ((wi ((ag zB (ag r2 lT.toNat).X.toNat)*1000003))+(ag Aq (ag r2 lT.toNat).X.toNat)))+1))).length then(if(ag r2 lT.toNat).V=(wi ((wi ((wi ((ag zB (ag r2 lT.toNat).X.toNat)*1000003))+(ag Aq (ag r2 lT.toNat).X.toNat)))+1))then(cP K p0 r2 k1 (wM.set (ag r2 lT.toNat).Frame.toNat (wi (As+1))) (zB.set (ag r2 lT.toNat).Frame.toNat (wi ((wi ((wi ((ag zB (ag r2 lT.toNat).X.toNat)*1000003))+(ag Aq (ag r2 lT.toNat).X.toNat)))+1))) (Aq.set (ag r2 lT.toNat).X.toNat (wi ((ag Aq (ag r2 lT.toNat).X.toNat)+1))) (wi (lT+1)))else some false)else none else none else none else none)else(cP K p0 r2 k1 (wM.set (ag r2 lT.toNat).Frame.toNat (wi (As+1))) zB Aq (wi (lT+1))))else none)))else none else some true)
def Pg(K:Nat)(p0:aN):Option (Bool):=
 gh (gT K p0) (λr2 r3 r4=>kQ ((if r4=true then(if r3=true then some (.inl ())else some (.inr r4))else some (.inr r4))) (if 0<=p0.MU/\p0.MU*8<=140737488355328 then if aZ (0:Int) (List.replicate p0.MU.toNat (0:Int)).length then(cP K p0 r2 K ((List.replicate p0.MU.toNat (0:Int)).set 0 1) ((List.replicate p0.MU.toNat (0:Int)).set 0 1) (List.replicate p0.MU.toNat (0:Int)) 0)else none else none))
theorem pn{K:Nat}{p0:aN}{Aw Fe AA AE:Option Addr}{Ax Ff AB AF:Nat}{Az:Nat->Option Addr×Nat}{r0:Bool}(H:Pg K p0=some r0)(h:ft_ z (L) w)(Ay:T3 L Aw Az p0.cG)(Fg:jJ L 1 oE Fe p0.mc)(AD:jJ L 1 oE AA p0.Nm)(AG:jJ L 1 oE AE p0.gQ)(CF:jJ L 1 wu (some ⟨0,0,none⟩) zS)(MP:jJ L 5 kJ (some ⟨1,0,none⟩) pF) :
 c0_ 12 #[.agg #[.slice Aw p0.cG.length Ax,.slice Fe p0.mc.length Ff,vI p0.ez,vI p0.MU,vI p0.j8,vI p0.kU,.slice AA p0.Nm.length AB,.slice AE p0.gQ.length AF]] w z (vB r0) (L):=by
 unfold Pg at H;refine ke Tryz.func12 151 rfl λj=>ks<|kN h (#[.slice Aw p0.cG.length Ax,.slice Fe p0.mc.length Ff,vI p0.ez,vI p0.MU,vI p0.j8,vI p0.kU,.slice AA p0.Nm.length AB,.slice AE p0.gQ.length AF]) 32 λb1 w h=>ko [U]<|kn<|ks<|kM h<|QW H λr2 r3 r4 e5 H=>xc2 (TR (Aw:=Aw) (Ax:=Ax) (Ay:=(wC.up 1 Ay)) (Fe:=Fe) (Ff:=Ff) (Fg:=(jJ.up 1 Fg)) (AA:=AA) (AB:=AB) (AD:=(jJ.up 1 AD)) (AE:=AE) (AF:=AF) (AG:=(jJ.up 1 AG)) (CF:=jJ.up 1 CF) (MP:=jJ.up 1 MP) (Az:=Az) (H:=e5) (h:=h) :) λx6 x7 w h=>ko [.tuple #[.slice x6 r2.length x7,vB r3,vB r4],U,U,U,U,U,U]<|kn<|?_;obtain⟨o9,H,YL⟩:=U3 H;refine λ_ r=>Nn (β:=Unit) (λ_ a w=>.inl ()=o9/\∃j,Gk 151 (lk [(1,pA b1 0),(3,.slice x6 r2.length x7)] j) a/\Fit z (cQ (UN b1 p0 Aw Ax Fe Ff AA AB AE AF::Vv x6 x7 r2::L)) w) ?_ ?_
 ·refine qq r<|ks<|ko [U,vB (!r4),vB (!r4)]<|qI H (λPX H=>?_) λPX H=>?_
  ·refine Nl (nT PX) [22,23] [vB r3,vB (!r3)]<|PM (nT PX) (vB (!r3))<|kn<|Vb H (λRg H=>?_) λRg H=>?_
   ·refine wk<|tn<|?_;exact λ_ r=>⟨(),On H,r.fj (h.se 2 [1,0])⟩
   refine ks<|ko Zy<|kn<|wr<|tr<|λ_ r=>afn (vB r4) rfl r<|?_;replace H:=Q6 H YL;cases H;exact⟨rfl,h.se 2 []⟩
  refine Nh (nF PX) [22,23]<|PT (nF PX) (vB true)<|kn<|λ_ r=>Oh r (b:=true) rfl<|qq r<|ks<|ko Zy<|kn<|wr<|tr<|λ_ r=>afn (vB r4) rfl r<|?_;replace H:=Q6 H YL;cases H;exact⟨rfl,h.se 2 []⟩
 clear h r;rintro _ a w ⟨rfl,j,r,h⟩;replace H:=U4 YL;refine qq r<|ks<|ko Zy<|kL h 3<|qg H λUm H=>λ_ r=>PS (i:=p0.MU) (bytes:=8) (zc:=#[vI 0]) (0:Int) (wn rfl) rfl rfl r rfl (by kernel_rfl) (by kernel_rfl) Um rm (E:=3) (by kernel_rfl) (by kernel_rfl) rfl rfl h λPL w _ h r=>qq r<|ko [U]<|kn<|ks<|qg H λRE H=>ko [U]<|kp (pA (Cp PL) (0*1)) (OD (i:=(0:Int)) (k:=.i64) (E:=3) rfl (by kernel_rfl) (by kernel_rfl) (by kernel_rfl) (by kernel_rfl) h RE)<|λ_ r=>VD (wn rfl) r rm h 0 0 (vI 1) (ag (List.replicate p0.MU.toNat (0:Int)) 0) 1 (zN RE) λw h=>qq r<|kn<|ks<|ko Zy<|kL (h.pick 1) 3<|λ_ r=>PS (i:=p0.MU) (bytes:=8) (zc:=#[vI 0]) (0:Int) (wn rfl) rfl rfl r rfl (by kernel_rfl) (by kernel_rfl) Um rm (E:=2) (by kernel_rfl) (by kernel_rfl) rfl rfl h λSX w _ h r=>qq r<|ko [U]<|kn<|ks<|ko [U]<|kp (pA (Cp SX) (0*1)) (OD (i:=(0:Int)) (k:=.i64) (E:=2) rfl (by kernel_rfl) (by kernel_rfl) (by kernel_rfl) (by kernel_rfl) h RE)<|λ_ r=>VD (wn rfl) r rm h 0 0 (vI 1) (ag (List.replicate p0.MU.toNat (0:Int)) 0) 1 (zN RE) λw h=>qq r<|kn<|ks<|ko Zy<|kL (h.pick 2) 3<|λ_ r=>PS (i:=p0.MU) (bytes:=8) (zc:=#[vI 0]) (0:Int) (wn rfl) rfl rfl r rfl (by kernel_rfl) (by kernel_rfl) Um rm (E:=3) (by kernel_rfl) (by kernel_rfl) rfl rfl h λVJ w _ h r=>qq r<|ko [U]<|kn<|wq<|ks<|ko [U]<|kn<|wb<|λ_ r=>NB (β:=Nat) id (λm a w=>∃wM:List Int,∃zB:List Int,∃Aq:List Int,∃lT:Int,(cP K p0 r2 m wM zB Aq lT)=some r0/\∃j,Gk 151 (lk [(3,.slice x6 r2.length x7),(6,.slice PL (List.replicate p0.MU.toNat (0:Int)).length p0.MU.toNat),(7,.slice SX (List.replicate p0.MU.toNat (0:Int)).length p0.MU.toNat),(8,.slice VJ (List.replicate p0.MU.toNat (0:Int)).length p0.MU.toNat),(9,vI lT)] j) a/\Fit z (cQ (Vv x6 x7 r2::rowOf 3 1 oE (.slice PL (List.replicate p0.MU.toNat (0:Int)).length p0.MU.toNat) wM::rowOf 2 1 oE (.slice SX (List.replicate p0.MU.toNat (0:Int)).length p0.MU.toNat) zB::rowOf 3 1 oE (.slice VJ (List.replicate p0.MU.toNat (0:Int)).length p0.MU.toNat) Aq::L)) w) K ⟨((List.replicate p0.MU.toNat (0:Int)).set 0 1),((List.replicate p0.MU.toNat (0:Int)).set 0 1),(List.replicate p0.MU.toNat (0:Int)),0,H,r.fj (h.se 5 [4,2,1,0])⟩<|?_;clear h r H;rintro k1 a w ⟨wM,zB,Aq,lT,H,j,r,h⟩;cases k1 with
 | zero=>exact absurd H (by simp[cP])
 | succ k1 =>
  rw[cP]at H;refine qq r<|wq<|ks<|ko [U,U,vI ((r2.length:Nat):Int),vB (decide (lT<((r2.length:Nat):Int)))]<|kn<|NN H (λQt H=>?_) λQt H=>?_
  ·refine wk<|tn<|wq<|wb<|ks<|qg H λUn H=>ko Zy<|ki h Un<|ko [U]<|λ_ r=>ld (wn rfl) r (vI (ag r2 lT.toNat).Frame) (h.Ng NX (f:=3) (zN Un) rfl)<|?_;refine ko [U]<|kn<|ks<|ko [vI (-1)]<|kn<|VA H λo25 H aa4=>λ_ r=>Nn (β:=Unit) (λ_ a w=>∃As:Int,As=o25/\∃j,Gk 151 (lk [(3,.slice x6 r2.length x7),(6,.slice PL (List.replicate p0.MU.toNat (0:Int)).length p0.MU.toNat),(7,.slice SX (List.replicate p0.MU.toNat (0:Int)).length p0.MU.toNat),(8,.slice VJ (List.replicate p0.MU.toNat (0:Int)).length p0.MU.toNat),(9,vI lT),(10,vI (ag r2 lT.toNat).Frame),(11,vI As)] j) a/\Fit z (cQ (Vv x6 x7 r2::rowOf 3 1 oE (.slice PL (List.replicate p0.MU.toNat (0:Int)).length p0.MU.toNat) wM::rowOf 2 1 oE (.slice SX (List.replicate p0.MU.toNat (0:Int)).length p0.MU.toNat) zB::rowOf 3 1 oE (.slice VJ (List.replicate p0.MU.toNat (0:Int)).length p0.MU.toNat) Aq::L)) w) ?_ ?_
   ·refine qq r<|ks<|ko Zy<|ki h Un<|ko [U]<|λ_ r=>ld (wn rfl) r (vI (ag r2 lT.toNat).aQ) (h.Ng NX (f:=2) (zN Un) rfl)<|?_;refine kn<|wb<|ks<|ko [vB ((ag r2 lT.toNat).aQ==2),vB ((ag r2 lT.toNat).aQ==2)]<|kn<|NN H (λTs H=>?_) λTs H=>?_
    ·refine wl<|ko [U]<|kl<|bn<|tn<|?_;exact λ_ r=>⟨(),0,On H,r.fj h⟩
    refine ks<|ko [vB ((ag r2 lT.toNat).aQ==1),vB ((ag r2 lT.toNat).aQ==1)]<|kn<|NN H (λQk H=>?_) λQk H=>?_
    ·refine wl<|ko [U]<|kl<|bn<|tn<|?_;exact λ_ r=>⟨(),1,On H,r.fj h⟩
    refine ks<|ko [vB ((ag r2 lT.toNat).aQ==6),vB ((ag r2 lT.toNat).aQ==6)]<|kn<|NN H (λT7 H=>?_) λT7 H=>?_
    ·refine wl<|ko [U]<|kl<|bn<|tn<|?_;exact λ_ r=>⟨(),2,On H,r.fj h⟩
    refine wk<|bn<|tn<|?_;exact λ_ r=>⟨(),-1,On H,r.fj h⟩
   clear h r;rintro _ a w ⟨As,rfl,j,r,h⟩;replace H:=Vy aa4;refine qq r<|wq<|ks<|ko [U,vB (decide (As<0))]<|kn<|NN H (λUo H=>?_) λUo H=>?_
   ·refine wx<|te<|bh<|tn<|wl<|ko [U,vI (wi (lT+1)),vI (wi (lT+1))]<|kn<|?_;exact λ_ r=>⟨_,⟨wM,zB,Aq,(wi (lT+1)),H,r.fj h⟩,afl _⟩
   refine wk<|tn<|?_;obtain⟨o31,H,abp⟩:=U3 H;refine λ_ r=>Nn (β:=Unit) (λ_ a w=>.inl ()=o31/\∃j,Gk 151 (lk [(3,.slice x6 r2.length x7),(6,.slice PL (List.replicate p0.MU.toNat (0:Int)).length p0.MU.toNat),(7,.slice SX (List.replicate p0.MU.toNat (0:Int)).length p0.MU.toNat),(8,.slice VJ (List.replicate p0.MU.toNat (0:Int)).length p0.MU.toNat),(9,vI lT),(10,vI (ag r2 lT.toNat).Frame),(11,vI As)] j) a/\Fit z (cQ (Vv x6 x7 r2::rowOf 3 1 oE (.slice PL (List.replicate p0.MU.toNat (0:Int)).length p0.MU.toNat) wM::rowOf 2 1 oE (.slice SX (List.replicate p0.MU.toNat (0:Int)).length p0.MU.toNat) zB::rowOf 3 1 oE (.slice VJ (List.replicate p0.MU.toNat (0:Int)).length p0.MU.toNat) Aq::L)) w) ?_ ?_
   ·refine qq r<|ks<|ko [U,vB (decide ((ag r2 lT.toNat).Frame<0)),vB (decide ((ag r2 lT.toNat).Frame<0))]<|qI H (λUO H=>?_) λUO H=>?_
    ·refine Nh (dT UO) [69,70,71,72]<|PT (dT UO) (vB true)<|ko [U]<|Nh (rfl:true=true) [75,76,77,78,79,80]<|ko Zy<|Nh (rfl:true=true) [83,84,85]<|Wi true [86,87,88,89,90,91]<|Nh (rfl:true=true) [92]<|ko [U]<|kn<|λ_ r=>Oh r (b:=true) rfl<|qq r<|ks<|ko [U]<|kn<|wr<|tr<|br<|tr<|tr<|br<|tr<|λ_ r=>afn (vB false) rfl r<|?_;replace H:=Q6 H abp;cases H;exact⟨rfl,h.se 4 []⟩
    refine Nl (dF UO) [69,70,71,72] [vI (ag r2 lT.toNat).Frame,.slice PL (List.replicate p0.MU.toNat (0:Int)).length p0.MU.toNat,vI (((List.replicate p0.MU.toNat (0:Int)).length:Nat):Int),vB (decide ((ag r2 lT.toNat).Frame>=(((List.replicate p0.MU.toNat (0:Int)).length:Nat):Int)))]<|PM (dF UO) (vB (decide ((ag r2 lT.toNat).Frame>=(((List.replicate p0.MU.toNat (0:Int)).length:Nat):Int))))<|ko [vB (decide ((ag r2 lT.toNat).Frame>=(((List.replicate p0.MU.toNat (0:Int)).length:Nat):Int)))]<|qI H (λSs H=>?_) λSs H=>?_
    ·refine Nh (dT Ss) [75,76,77,78,79,80]<|PT (dT Ss) (vB true)<|ko [U]<|Nh (rfl:true=true) [83,84,85]<|Wi true [86,87,88,89,90,91]<|Nh (rfl:true=true) [92]<|ko [U]<|kn<|λ_ r=>Oh r (b:=true) rfl<|qq r<|ks<|ko [U]<|kn<|wr<|tr<|br<|tr<|tr<|br<|tr<|λ_ r=>afn (vB false) rfl r<|?_;replace H:=Q6 H abp;cases H;exact⟨rfl,h.se 4 []⟩
    refine qg H λUC H=>Nl (dF Ss) [75,76] [.slice PL (List.replicate p0.MU.toNat (0:Int)).length p0.MU.toNat,vI (ag r2 lT.toNat).Frame]<|λ_ r=>Y0 (PB r (dF Ss)) r (pA (Cp PL) ((ag r2 lT.toNat).Frame.toNat*1)) (ag0 3 rfl (h.pick 1) UC)<|?_;refine λ_ r=>ld (PB r (dF Ss)) r (vI (ag wM (ag r2 lT.toNat).Frame.toNat)) ((h.pick 1).Ng rm (f:=0) (zN UC) rfl)<|?_;refine Nl (dF Ss) [79,80] [vI As,vB ((ag wM (ag r2 lT.toNat).Frame.toNat) != As)]<|PM (dF Ss) (vB ((ag wM (ag r2 lT.toNat).Frame.toNat) != As))<|ko [vB ((ag wM (ag r2 lT.toNat).Frame.toNat) != As)]<|qI H (λUS H=>?_) λUS H=>?_
    ·refine Nl (bne_eq_false_iff_eq.mpr US) [83,84,85] [vI As,vB (As==1),vB (As==1)]<|qI H (λVC H=>?_) λVC H=>?_
     ·refine Nl (beq_iff_eq.mpr VC) [86,87] [.slice x6 r2.length x7,vI lT]<|λ_ r=>Y0 (PB r (beq_iff_eq.mpr VC)) r (pA (Cp x6) (lT.toNat*6)) (ag0 47 rfl h Un)<|?_;refine Nl (beq_iff_eq.mpr VC) [89] [pA (Cp x6) (lT.toNat*6+5)]<|λ_ r=>ld (PB r (beq_iff_eq.mpr VC)) r (vI (ag r2 lT.toNat).V) (h.Ng NX (f:=5) (zN Un) rfl)<|?_;refine Nl (beq_iff_eq.mpr VC) [91] [vB ((ag r2 lT.toNat).V != 1)]<|λ_ r=>Y0 (PB r (bne_eq_false_iff_eq.mpr US)) r (vB ((ag r2 lT.toNat).V != 1)) (W5 (b:=(As==1)) rfl (by kernel_rfl) (beq_iff_eq.mpr VC) (by kernel_rfl))<|?_;refine PM (bne_eq_false_iff_eq.mpr US) (vB ((ag r2 lT.toNat).V != 1))<|kn<|Qf H (λXD H=>?_) λXD H=>?_
      ·refine wk<|tn<|?_;exact λ_ r=>⟨(),On H,r.fj h⟩
      refine ks<|ko [U]<|kn<|wr<|tr<|br<|tr<|tr<|br<|tr<|λ_ r=>afn (vB false) rfl r<|?_;replace H:=Q6 H abp;cases H;exact⟨rfl,h.se 4 []⟩
     refine Nh (bN VC) [86,87,88,89,90,91]<|λ_ r=>Y0 (PB r (bne_eq_false_iff_eq.mpr US)) r (vB false) (XH (b:=(As==1)) rfl (by kernel_rfl) (bN VC) (by kernel_rfl))<|?_;refine PM (bne_eq_false_iff_eq.mpr US) (vB false)<|kn<|λ_ r=>O3 r (b:=false) rfl<|qq r<|wk<|tn<|?_;exact λ_ r=>⟨(),On H,r.fj h⟩
    refine Nh (bne_iff_ne.mpr US) [83,84,85]<|Wi true [86,87,88,89,90,91]<|Nh (bne_iff_ne.mpr US) [92]<|PT (bne_iff_ne.mpr US) (vB true)<|kn<|λ_ r=>Oh r (b:=true) rfl<|qq r<|ks<|ko [U]<|kn<|wr<|tr<|br<|tr<|tr<|br<|tr<|λ_ r=>afn (vB false) rfl r<|?_;replace H:=Q6 H abp;cases H;exact⟨rfl,h.se 4 []⟩
   clear h r;rintro _ a w ⟨rfl,j,r,h⟩;replace H:=U4 abp;refine qq r<|ks<|qg H λXc H=>ko [U,U,U,vI (wi (As+1))]<|ki (h.pick 1) Xc<|qh h.m1 λh=>λ_ r=>VD (wn rfl) r rm h (ag r2 lT.toNat).Frame.toNat 0 (vI (wi (As+1))) (ag wM (ag r2 lT.toNat).Frame.toNat) (wi (As+1)) (zN Xc) λw h=>qq r<|kn<|ks<|ko [U,vB (As==0)]<|kn<|NN H (λXB H=>?_) λXB H=>?_
   ·refine ks<|ko Zy<|ki (h.pick 1) Un<|ko [U]<|λ_ r=>ld (wn rfl) r (vI (ag r2 lT.toNat).X) ((h.pick 1).Ng NX (f:=4) (zN Un) rfl)<|?_;refine ko [U]<|kn<|?_;obtain⟨o41,H,aal⟩:=U3 H;refine λ_ r=>Nn (β:=Unit) (λ_ a w=>.inl ()=o41/\∃j,Gk 151 (lk [(3,.slice x6 r2.length x7),(6,.slice PL (List.replicate p0.MU.toNat (0:Int)).length p0.MU.toNat),(7,.slice SX (List.replicate p0.MU.toNat (0:Int)).length p0.MU.toNat),(8,.slice VJ (List.replicate p0.MU.toNat (0:Int)).length p0.MU.toNat),(9,vI lT),(10,vI (ag r2 lT.toNat).Frame),(12,vI (ag r2 lT.toNat).X)] j) a/\Fit z (cQ (Vv x6 x7 r2::rowOf 3 1 oE (.slice PL (List.replicate p0.MU.toNat (0:Int)).length p0.MU.toNat) (wM.set (ag r2 lT.toNat).Frame.toNat (wi (As+1)))::rowOf 2 1 oE (.slice SX (List.replicate p0.MU.toNat (0:Int)).length p0.MU.toNat) zB::rowOf 3 1 oE (.slice VJ (List.replicate p0.MU.toNat (0:Int)).length p0.MU.toNat) Aq::L)) w) ?_ ?_
    ·refine qq r<|ks<|ko [U,vB (decide ((ag r2 lT.toNat).X<0)),vB (decide ((ag r2 lT.toNat).X<0))]<|qI H (λSY H=>?_) λSY H=>?_
     ·refine Nh (dT SY) [109,110,111,112]<|PT (dT SY) (vB true)<|ko [U]<|Nh (rfl:true=true) [115,116,117,118,119]<|ko [U]<|kn<|λ_ r=>Oh r (b:=true) rfl<|qq r<|ks<|ko [U]<|kn<|wr<|tr<|br<|tr<|tr<|br<|tr<|λ_ r=>afn (vB false) rfl r<|?_;replace H:=Q6 H aal;cases H;exact⟨rfl,h.se 4 []⟩
     refine Nl (dF SY) [109,110,111,112] [vI (ag r2 lT.toNat).X,.slice PL (List.replicate p0.MU.toNat (0:Int)).length p0.MU.toNat,vI (((List.replicate p0.MU.toNat (0:Int)).length:Nat):Int),vB (decide ((ag r2 lT.toNat).X>=(((List.replicate p0.MU.toNat (0:Int)).length:Nat):Int)))]<|PM (dF SY) (vB (decide ((ag r2 lT.toNat).X>=(((List.replicate p0.MU.toNat (0:Int)).length:Nat):Int))))<|ko [vB (decide ((ag r2 lT.toNat).X>=(((List.replicate p0.MU.toNat (0:Int)).length:Nat):Int)))]<|qI H (λW2 H=>?_) λW2 H=>?_
     ·refine Nh (dT W2) [115,116,117,118,119]<|PT (dT W2) (vB true)<|kn<|λ_ r=>Oh r (b:=true) rfl<|qq r<|ks<|ko [U]<|kn<|wr<|tr<|br<|tr<|tr<|br<|tr<|λ_ r=>afn (vB false) rfl r<|?_;replace H:=Q6 H aal;cases H;exact⟨rfl,h.se 4 []⟩
     refine qg H λZW H=>Nl (dF W2) [115,116] [.slice PL (List.replicate p0.MU.toNat (0:Int)).length p0.MU.toNat,vI (ag r2 lT.toNat).X]<|λ_ r=>Y0 (PB r (dF W2)) r (pA (Cp PL) ((ag r2 lT.toNat).X.toNat*1)) (ag0 3 rfl h ZW)<|?_;refine λ_ r=>ld (PB r (dF W2)) r (vI (ag (wM.set (ag r2 lT.toNat).Frame.toNat (wi (As+1))) (ag r2 lT.toNat).X.toNat)) (h.Ng rm (f:=0) (zN ZW) rfl)<|?_;refine Nl (dF W2) [119] [vB ((ag (wM.set (ag r2 lT.toNat).Frame.toNat (wi (As+1))) (ag r2 lT.toNat).X.toNat) != 2)]<|PM (dF W2) (vB ((ag (wM.set (ag r2 lT.toNat).Frame.toNat (wi (As+1))) (ag r2 lT.toNat).X.toNat) != 2))<|kn<|Qf H (λc45 H=>?_) λc45 H=>?_
     ·refine wk<|tn<|?_;exact λ_ r=>⟨(),On H,r.fj (h.se 4 [1,0,2,3])⟩
     refine ks<|ko [U]<|kn<|wr<|tr<|br<|tr<|tr<|br<|tr<|λ_ r=>afn (vB false) rfl r<|?_;replace H:=Q6 H aal;cases H;exact⟨rfl,h.se 4 []⟩
    clear h r;rintro _ a w ⟨rfl,j,r,h⟩;replace H:=U4 aal;refine qq r<|wq<|qg H λc46 H=>qg H λY2 H=>qg H λc48 H=>λ_ r=>Ob [(Cp SX,(ag r2 lT.toNat).X.toNat*1,[vI (ag zB (ag r2 lT.toNat).X.toNat)]),(Cp VJ,(ag r2 lT.toNat).X.toNat*1,[vI (ag Aq (ag r2 lT.toNat).X.toNat)])] [4,6,9] 15 h (λh=>⟨⟨(h.pick 2).Ng rm (f:=0) (zN c46) rfl,CH⟩,⟨(h.pick 3).Ng rm (f:=0) (zN Y2) rfl,CH⟩,CH⟩) λw h hd =>qq r<|Oi hd 11 [(0,121,.slice SX (List.replicate p0.MU.toNat (0:Int)).length p0.MU.toNat),(1,122,vI (ag r2 lT.toNat).Frame),(2,123,.slice SX (List.replicate p0.MU.toNat (0:Int)).length p0.MU.toNat),(3,124,vI (ag r2 lT.toNat).X)]<|eo_ hd 10 4 rfl (pA (Cp SX) ((ag r2 lT.toNat).X.toNat*1)) (λw=>ag0 2 rfl (h.pick 2) c46)<|Oi hd 8 [(7,128,.slice VJ (List.replicate p0.MU.toNat (0:Int)).length p0.MU.toNat),(8,129,vI (ag r2 lT.toNat).X)]<|eo_ hd 7 9 rfl (pA (Cp VJ) ((ag r2 lT.toNat).X.toNat*1)) (λw=>ag0 3 rfl (h.pick 3) Y2)<|kx hd 0 6 5 rfl rfl<|Oi hd 5 [(6,127,vI (wi ((ag zB (ag r2 lT.toNat).X.toNat)*1000003)))]<|kx hd 1 4 10 rfl rfl<|Oi hd 2 [(11,132,vI (wi ((wi ((ag zB (ag r2 lT.toNat).X.toNat)*1000003))+(ag Aq (ag r2 lT.toNat).X.toNat)))),(12,133,vI (wi ((wi ((wi ((ag zB (ag r2 lT.toNat).X.toNat)*1000003))+(ag Aq (ag r2 lT.toNat).X.toNat)))+1)))]<|eo_ hd 1 13 rfl (pA (Cp SX) ((ag r2 lT.toNat).Frame.toNat*1)) (λw=>ag0 2 rfl (h.pick 2) c48)<|λ_ r=>N3 14 rfl<|qh h.m2 λh=>VD (wn rfl) r rm h (ag r2 lT.toNat).Frame.toNat 0 (vI (wi ((wi ((wi ((ag zB (ag r2 lT.toNat).X.toNat)*1000003))+(ag Aq (ag r2 lT.toNat).X.toNat)))+1))) (ag zB (ag r2 lT.toNat).Frame.toNat) (wi ((wi ((wi ((ag zB (ag r2 lT.toNat).X.toNat)*1000003))+(ag Aq (ag r2 lT.toNat).X.toNat)))+1)) (zN c48) λw h=>qq r<|kn<|λ_ r=>xE<|O4<|qq r<|tn<|ks<|ko Zy<|ki (h.pick 3) Y2<|λ_ r=>ld (wn rfl) r (vI (ag Aq (ag r2 lT.toNat).X.toNat)) ((h.pick 3).Ng rm (f:=0) (zN Y2) rfl)<|?_;refine ko [vI (wi ((ag Aq (ag r2 lT.toNat).X.toNat)+1))]<|ki (h.pick 3) Y2<|qh h.m3 λh=>λ_ r=>VD (wn rfl) r rm h (ag r2 lT.toNat).X.toNat 0 (vI (wi ((ag Aq (ag r2 lT.toNat).X.toNat)+1))) (ag Aq (ag r2 lT.toNat).X.toNat) (wi ((ag Aq (ag r2 lT.toNat).X.toNat)+1)) (zN Y2) λw h=>qq r<|kn<|wq<|qg H λVI H=>λ_ r=>Ob [(Cp x6,lT.toNat*6+5,[vI (ag r2 lT.toNat).V]),(Cp SX,(ag r2 lT.toNat).Frame.toNat*1,[vI (wi ((wi ((wi ((ag zB (ag r2 lT.toNat).X.toNat)*1000003))+(ag Aq (ag r2 lT.toNat).X.toNat)))+1))])] [2,3,7] 10 h (λh=>⟨⟨(h.pick 2).Ng NX (f:=5) (zN Un) rfl,CH⟩,⟨(h.pick 1).Ng rm (f:=0) (Nw ((NS (by simpa [aZ]using VI)))) rfl,CH⟩,CH⟩) λw h hd =>qq r<|Oi hd 8 [(0,141,.slice x6 r2.length x7),(1,142,vI lT)]<|eo_ hd 7 2 rfl (pA (Cp x6) (lT.toNat*6)) (λw=>ag0 47 rfl (h.pick 2) Un)<|Oi hd 4 [(3,144,pA (Cp x6) (lT.toNat*6+5)),(5,146,.slice SX (List.replicate p0.MU.toNat (0:Int)).length p0.MU.toNat),(6,147,vI (ag r2 lT.toNat).Frame)]<|eo_ hd 3 7 rfl (pA (Cp SX) ((ag r2 lT.toNat).Frame.toNat*1)) (λw=>ag0 2 rfl (h.pick 1) VI)<|?_
    refine kx hd 0 2 4 rfl rfl<|kx hd 1 1 8 rfl rfl<|Oi hd 0 [(9,150,vB ((ag r2 lT.toNat).V != (wi ((wi ((wi ((ag zB (ag r2 lT.toNat).X.toNat)*1000003))+(ag Aq (ag r2 lT.toNat).X.toNat)))+1))))]<|λ_ r=>O4<|qq r<|tn<|Qf H (λZU H=>?_) λZU H=>?_
    ·refine wk<|bn<|tn<|wl<|ko [U,vI (wi (lT+1)),vI (wi (lT+1))]<|kn<|?_;exact λ_ r=>⟨_,⟨(wM.set (ag r2 lT.toNat).Frame.toNat (wi (As+1))),(zB.set (ag r2 lT.toNat).Frame.toNat (wi ((wi ((wi ((ag zB (ag r2 lT.toNat).X.toNat)*1000003))+(ag Aq (ag r2 lT.toNat).X.toNat)))+1))),(Aq.set (ag r2 lT.toNat).X.toNat (wi ((ag Aq (ag r2 lT.toNat).X.toNat)+1))),(wi (lT+1)),H,r.fj (h.se 4 [2,3,1,0])⟩,afl _⟩
    refine ks<|ko [U]<|kn<|wr<|br<|tr<|tr<|br<|tr<|?_;cases H;exact Ox (h.se 4 [])
   refine wk<|bn<|tn<|wl<|ko [U,vI (wi (lT+1)),vI (wi (lT+1))]<|kn<|?_;exact λ_ r=>⟨_,⟨(wM.set (ag r2 lT.toNat).Frame.toNat (wi (As+1))),zB,Aq,(wi (lT+1)),H,r.fj (h.se 4 [1,0,2,3])⟩,afl _⟩
  refine wx<|te<|te<|bh<|tn<|ks<|ko [U]<|kn<|wr<|?_;cases H;exact Ox (h.se 4 [])
end
open Go SL GX
section
variable {K:Nat}
theorem zC{x n:Int}(h1:1<=n)(h2:n<=1000) :∃i:Nat,Ri x n=some (i:Int)/\cX x n=some (i:Int)/\(i:Int)<n:=by
 obtain⟨i,e1,e2⟩:=uV (x:=x) h1 h2
 refine⟨i,?_,e1,e2⟩
 rw[<-e1]
 unfold Ri cX
 rw[iO_]
theorem uY{f m G:Nat}(hf:f<=m)(hm:m<=4096)(hG:cq f m G=m)(hT:tq f m G<=100000):∀(d g k:Nat) (z:Int),g+d=G->d<k->(∀x,g<=x->x<G->cq f m x<m)->0<=z->z+((tq f m G-tq f m g:Nat):Int)<=1000000->tq f m g<=tq f m G->
 jo K (m:Int) k z (cq f m g:Nat)=some (z+((tq f m G-tq f m g:Nat):Int))
 | d,g,k,z,hd,hk,hx,hz,K4,ht=>by
  obtain⟨k,rfl⟩ :∃n,k=n+1:=⟨k-1,by omega⟩
  have hl:=uT hf g
  rw[jo]
  by_cases e:g=G
  ·subst e;rw[hG,iO_,Nat.sub_self];simp
  ·obtain⟨d,rfl⟩ :∃n,d=n+1:=⟨d-1,by omega⟩
   have h1:=hx g (aea _) (by omega)
   have hn:cq f m (g+1)=min (2*cq f m g) m:=rfl
   have K5:tq f m (g+1)=tq f m g+1+cq f m (g+1):=rfl
   have zn:∀y,g+1+y<=G->tq f m (g+1)<=tq f m (g+1+y):=λy=>by
    induction y with
    | zero=>intro _;exact aea _
    | succ y ih=>intro h;have:=ih (by omega);show _<=tq f m (g+1+y)+1+cq f m (g+1+y+1);omega
   have hle:tq f m (g+1)<=tq f m G:=by have:=zn (G-(g+1)) (by omega);rwa [show g+1+(G-(g+1))=G by omega]at this
   have hc:(if(m:Int)<wi ((2:Int)*((cq f m g:Nat):Int))then(m:Int)else wi ((2:Int)*((cq f m g:Nat):Int)))=((cq f m (g+1):Nat):Int):=by
    rw[bz (by omega)];split<;>omega
   rw[iQ_,hc,bz (x:=(1:Int)+_) (by omega),bz (x:=z+_) (by omega),
    uY hf hm hG hT d (g+1) k _ (by omega) (by omega) (λx h1 h2=>hx x (by omega) h2) (by omega) (by omega) hle]
   congr 1;omega
theorem B9{N F:Nat}{dG:bY}{f m:Nat}(hl:Ac dG.cO dG.bD dG.gK)(hF:dG.cO=F)(hf:dG.bD=f)(hm:dG.gK=m)(CA:1<=N)(hN:N<=64)(hK:5000<K) :
 ∃G,cq f m G=m/\mD K (N:Int) dG=some ((4+10*F+N+N*(4+f+tq f m G):Nat):Int)/\4+10*F+N+N*(4+f+tq f m G)<=1048576:=by
 have f1:=hl.f1
 have f2:=hl.f2
 have a1:=hl.a1
 have a2:=hl.a2
 have m2:=hl.m2
 have Ah:f<=m:=by omega
 have h1:1<=f:=by omega
 obtain⟨G',x1,x2,x3,x4,x5⟩:=zo (K:=K) (N:=N) (F:=F) (dG:=dG) (f:=f) (m:=m) hl hF hf hm CA hN hK
 obtain⟨G,g1,g2,g3,g4,g5,g6,g7⟩:=tU h1 Ah (m-f) 0 (by show m-f<=m-f;omega)
 have Ll:G=G':=by
  rcases Nat.lt_trichotomy G G' with h | h | h
  ·have:=x2 G h;omega
  ·exact h
  ·have:=g3 G' (by omega) h;omega
 subst Ll
 refine⟨G,x1,?_,x5⟩
 have L5:G<=4096:=by
  rcases agl 4096 G with h | h
  ·exfalso
   have:∀x,x<=G->x<=tq f m x:=λx=>by
    induction x with
    | zero=>intro _;omega
    | succ x ih=>intro h;have:=ih (by omega);show _<=tq f m x+1+_;omega
   have hp:∀x,x<=G->f+x<=cq f m x∨cq f m x=m:=λx=>by
    induction x with
    | zero=>intro _;exact .inl (by show f+0<=f;omega)
    | succ x ih =>
     intro h
     have hn:cq f m (x+1)=min (2*cq f m x) m:=rfl
     have:=qQ h1 Ah x
     rcases ih (by omega)with h' | h'<;>omega
   rcases hp 4096 (by omega)with h' | h'
   ·have:=uT Ah 4096;omega
   ·have:=g3 4096 (by omega) h;omega
  ·exact h
 have hd:=uY (K:=K) (f:=f) (m:=m) (G:=G) Ah (by omega) x1 (by omega) G 0 K (4+f) (by omega) (by omega) (λx h1 h2=>g3 x h1 h2) (by omega) (by have:tq f m 0=0:=rfl;omega) (agP _)
 have z0:tq f m 0=0:=rfl
 have c0:cq f m 0=f:=rfl
 rw[z0,c0,Nat.sub_zero]at hd
 have hmul:N*(4+f+tq f m G)<=1048576:=by omega
 have GF:(N:Int)*(4+(f:Int)+((tq f m G:Nat):Int))=((N*(4+f+tq f m G):Nat):Int):=by rw[Int.natCast_mul];congr 1
 unfold mD iZ ja jc fc oe j2
 rw[iQ_,afC (show(N:Int)<=64 by omega),ai,au rfl,iQ_,iQ_,iQ_,iQ_,afC (show dG.gK<=4096 by omega),ai,au rfl,bu,
  aj (by omega),iO_,ai,iO_,iO_,ai,ai,au rfl,hf,hm,bz (x:=(4:Int)+(f:Int)) (by omega),hd,ai,GF,hF]
 rw[bz (x:=(F:Int)*10) (by omega),bz (x:=(1:Int)+(F:Int)*10) (by omega),bz (x:=(2:Int)+(N:Int)) (by omega),bz (x:=(1:Int)+(1+(F:Int)*10)) (by omega),bz (x:=(1:Int)+(1+(F:Int)*10)+_) (by omega),bz (x:=((N*(4+f+tq f m G):Nat):Int)) (by omega),bz (by omega)]
 congr 1
 omega
section
variable {C:Am.dH}{p:ay}{s:Am.St}{S:af}{M:ae}{sz n i:Nat}{D:aA}
theorem zD(b:j0 C p s S M sz n)(a:Int):j0 C p s S {M with lK:=a} sz n:=
 { b with ar:=⟨b.ar.size,b.ar.s1,b.ar.fit,b.ar.mark,b.ar.cl,b.ar.lg⟩}
theorem ya(h:xq C p s S)(hn:C.N<=64):∀(e k g:Nat),g+e=C.N->e<k->∃b,fR K S M k (g:Int)=some b/\(b=true->∀j,g<=j->j<C.N->s.pc j= .halted)
 | e,k,g,he,hk=>by
  obtain⟨k,rfl⟩ :∃m,k=m+1:=⟨k-1,by omega⟩
  rw[fR]
  by_cases hg:g<C.N
  ·obtain⟨e,rfl⟩ :∃m,e=m+1:=⟨e-1,by omega⟩
   rw[au (by rw[h.wl];omega),vV h hg,ai]
   by_cases CD:(act S g).aJ=13
   ·rw[au (by simp[CD]),mm (by omega)]
    obtain⟨b,b1,b2⟩:=ya h hn e k (g+1) (by omega) (by omega)
    refine⟨b,b1,λhb j hj Lm => ?_⟩
    by_cases ej:j=g
    ·subst ej;exact ES (h.wk j hg).3 CD
    ·exact b2 hb j (by omega) Lm
   ·rw[aj (by simp[CD])]
    exact⟨false,rfl,λhb=>by cases hb⟩
  ·rw[aj (by rw[h.wl];omega)]
   exact⟨true,rfl,λ_ j h1 h2=>by omega⟩
theorem zE(h:xq C p s S)(hn:C.N<=64)(hK:100<K)(v:ah) :∃b,jq K S M v=some b/\(b=true->v.aQ=11∨v.aQ=10/\∀j,j<C.N->s.pc j= .halted):=by
 unfold jq
 by_cases h1:v.aQ=11
 ·rw[au h1];exact⟨true,rfl,λ_=>.inl h1⟩
 ·rw[aj h1]
  by_cases h2:v.aQ=10
  ·rw[au h2]
   obtain⟨b,b1,b2⟩:=ya (K:=K) (M:=M) h hn C.N K 0 (by omega) (by omega)
   rw[agQ]at b1
   exact⟨b,b1,λhb=>.inr ⟨h2,λj hj=>b2 hb j (by omega) hj⟩⟩
  ·rw[aj h2];exact⟨false,rfl,λhb=>by cases hb⟩
def WZ(g i:Nat)(l:List ah):Option Am.Ev->List ah
 | none=>l
 | some e=>l++[⟨(g:Int),(i:Int),(e.kind:Int),e.an,e.x,e.v⟩]
def EY(C:Am.dH)(s:Am.St)(l:List ah):Prop:=∃l0 e,l=l0++[e]/\(e.aQ=11∨e.aQ=10/\∀j,j<C.N->s.pc j= .halted)
theorem tZ{I:Am.St->List ah->Nat->Prop}{sc:eW}(hK:2000000<K)(hp:sc.hM.length<=1048576)
 (hI:∀(s:Am.St) (S:af) (M:ae) (l:List ah) (g i:Nat) (d:Int),j0 C p s S M sz g->I s l g->i<C.N->g<sc.hM.length->cX (GX.ag sc.hM g) (C.N:Int)=some (i:Int)->I (Am.step C s i d).s (WZ g i l (Am.step C s i d).ev) (g+1)) :
 ∀(e k g:Nat) (s:Am.St) (S:af) (M:ae) (D:aA) (l:List ah),j0 C p s S M sz g->I s l g->l.length<=g->g+e=sc.hM.length->e<k->
 ∃M' l' s' g',gu K (C.N:Int) sc k M S D l (g:Int)=some (M',l')/\I s' l' g'/\l'.length<=g'/\g'<=sc.hM.length/\M'.log.length<=2000000000/\(g'=sc.hM.length∨EY C s' l')
 | e,k,g,s,S,M,D,l,b,FG,hl,he,hk=>by
  obtain⟨k,rfl⟩ :∃m,k=m+1:=⟨k-1,by omega⟩
  have n64:=b.ok.n64
  have n1:=b.ok.n1
  have Ln:=b.ar.lg
  have JA:=b.n
  rw[gu]
  by_cases hg:g<sc.hM.length
  ·obtain⟨e,rfl⟩ :∃m,e=m+1:=⟨e-1,by omega⟩
   obtain⟨i,hm,hm',hin⟩:=zC (x:=GX.ag sc.hM g) (n:=(C.N:Int)) (by omega) (by omega)
   have hi:i<C.N:=by omega
   have bw:=zD b (i:Int)
   obtain⟨S',M',e1,e2,e3,e4⟩:=tT (K:=K) (D:=D) bw hi (by omega)
   have b':=xW bw hi e2 e3 (by omega)
   have EZ:=hI s S M l g i (Uu D) b FG hi hg hm'
   have CE:=b'.ar.lg
   have hn:=b'.n
   rw[iQ_,au ⟨by omega,by omega⟩,Zi,hm,ai]
   unfold jX
   rw[ai,e1,aax]
   cases qX:(Am.step C s i (Uu D)).ev with
   | none =>
    rw[qX]at EZ
    rw[au (show(xw i none).aQ=0 from rfl),mm (by omega)]
    exact tZ hK hp hI e k (g+1) _ _ _ _ l b' EZ (by omega) (by omega) (by omega)
   | some x =>
    rw[qX]at EZ
    have hx0:x.kind≠0:=Am.Tr.k0 (Am.oy b.fi b.dt hi (Uu D)) x qX
    have hl':(l++[(⟨(g:Int),(i:Int),(x.kind:Int),x.an,x.x,x.v⟩:ah)]).length=l.length+1:=by simp
    rw[aj (show ¬(xw i (some x)).aQ=0 from λh=>hx0 (by have h:(x.kind:Int)=0:=h;omega)),iQ_]
    obtain⟨bo,b1,b2⟩:=zE (K:=K) (M:=M') b'.dh n64 (by omega) {xw i (some x)with At:=(g:Int)}
    rw[b1,ai]
    cases bo with
    | true =>
     rw[au rfl]
     exact⟨_,_,_,g+1,rfl,EZ,by rw[ad9];show l.length+1<=g+1;omega,by omega,by omega,.inr ⟨l,_,rfl,b2 rfl⟩⟩
    | false =>
     rw[aj (by decide),mm (by omega)]
     exact tZ hK hp hI e k (g+1) _ _ _ _ _ b' EZ (by rw[ad9];show l.length+1<=g+1;omega) (by omega) (by omega)
  ·rw[iO_]
   exact⟨M,l,s,g,rfl,FG,hl,by omega,by omega,.inl (by omega)⟩
end
theorem zF{p:ay}{args:List Int}{n e:Int}{dG:bY}{sc:eW}(hp:sc.hM.length<=1048576)(hd:sc.nH.length<=1048576)(r2:fV K p args n dG=some e)(he:e≠0):jP K p args n dG sc=some ([],[],e):=by
 unfold jP
 rw[iO_,iO_,bu,r2,ai,aj he]
theorem zG{p:ay}{args:List Int}{N F f m:Nat}{dG:bY}{sc:eW}(hp:sc.hM.length<=1048576)(hd:sc.nH.length<=1048576)(hK:4000000<K)
 (hv:Valid p) (ha:(args.length:Int)=(GX.ag p.aB 0).MW) (BN:1<=N) (Iy:N<=64) (hl:Ac dG.cO dG.bD dG.gK) (hF:dG.cO=F) (hf:dG.bD=f) (hm:dG.gK=m) (r2:fV K p args N dG=some 0)
 {I:Am.St->List ah->Nat->Prop} (h0:I (init (cfg p N F f m) args) [] 0)
 (hI:∀(s:Am.St) (S:af) (M:ae) (sz:Nat) (l:List ah) (g i:Nat) (d:Int),j0 (cfg p N F f m) p s S M sz g->I s l g->i<N->g<sc.hM.length->cX (GX.ag sc.hM g) (N:Int)=some (i:Int)->I (Am.step (cfg p N F f m) s i d).s (WZ g i l (Am.step (cfg p N F f m) s i d).ev) (g+1)) :
 ∃lg l' s' g',jP K p args N dG sc=some (l',lg,0)/\I s' l' g'/\l'.length<=g'/\g'<=sc.hM.length/\(g'=sc.hM.length∨EY (cfg p N F f m) s' l'):=by
 have f1:=hl.f1
 have f2:=hl.f2
 have a1:=hl.a1
 have a2:=hl.a2
 have m2:=hl.m2
 obtain⟨G,q1,q4,q5⟩:=B9 (K:=K) (N:=N) (F:=F) (dG:=dG) (f:=f) (m:=m) hl hF hf hm BN Iy (by omega)
 obtain⟨sz,hsz⟩ :∃sz:Nat,sz=4+10*F+N+N*(4+f+tq f m G):=⟨_,rfl⟩
 rw[<-hsz]at q4 q5
 have Jo:N*(4+f)<=N*(4+f+tq f m G):=Nat.mul_le_mul_left _ (by omega)
 unfold jP
 rw[iO_,iO_,bu,r2,ai,au rfl,q4,ai]
 unfold pU oK
 rw[au (show((sz:Nat):Int)>=0 by omega),afC (show((sz:Nat):Int)<=1048576 by omega),ai,au rfl,bJ]
 try dsimp only
 rw[au rfl]
 obtain⟨n1,n2⟩:=BC (K:=K) (sz:=sz) (a:=0) (w:=false) (N:=N) (F:=F) (W:=4+f) hv ha hl hF (by omega) (by omega) (by first | omega | (simp only;omega)) (by omega) (by omega) (by omega) r2
 obtain⟨cs,e1,e2,e3⟩:=n1 (by omega)
 try dsimp only at e1 e2
 rw[show(⟨((sz:Nat):Int),0,([]:List Int),([]:List az),0,false⟩:ae)=ar sz [] [] 0 false from rfl,e1,bf]
 try dsimp only
 have Lo:((f:Nat):Int)=dG.bD:=hf.symm
 have b:=xY (p:=p) (args:=args) (N:=N) (F:=F) (f:=f) (m:=m) (sz:=sz) (G:=G) (c:=cs) (l:=wl_ false [] (iP 0 N F dG.bD)) (w:=false) (x:=0) hv ha (by omega) (by omega) (by omega) (by omega) (by omega) (by omega) (by omega) q1 hsz q5 (by rw[Lo];exact e3) rfl
 rw[<-hm]at b
 rw[au rfl]
 unfold jh
 rw[ai,iQ_]
 have b':=vW b true
 rw[hm]at b'
 obtain⟨M',l',s',g',x1,x2,x3,x4,x5,x6⟩:=tZ (K:=K) (I:=I) (sc:=sc) (by omega) hp (λs S M l g i d hb hi CG hg Dp=>hI s S M sz l g i d hb hi CG hg Dp) sc.hM.length K 0 _ _ _ ⟨sc.nH⟩ [] b' h0 (aea _) (by omega) (by omega)
 rw[agQ]at x1
 have x1:gu K (N:Int) sc K _ _ _ [] 0=some (M',l'):=x1
 rw[hm,x1,bJ,B5 x5,ai]
 exact⟨_,l',s',g',rfl,x2,x3,x4,x6⟩
end
section
variable {K:Nat}
structure Small(c:aN):Prop where
 f:c.cG.length<=1048576
 k:∀i,i<c.cG.length->(ag c.cG i).Code.length<=1048576
 a:c.mc.length<=1048576
 p:c.Nm.length<=1048576
 d:c.gQ.length<=1048576
theorem JJ{c:aN}(h:Small c){n:Nat}(hn:n<c.cG.length):∀(d k i:Nat) (l:List bC),i+d=(ag c.cG n).Code.length->d<k->l.length=i->fM K c (n:Int) k l (i:Int)=some (l++(ag c.cG n).Code.drop i)
 | d,k,i,l,hd,hk,hl=>by
  obtain⟨k,rfl⟩ :∃m,k=m+1:=⟨k-1,by omega⟩
  have:=h.k n hn
  rw[fM,Zi]
  by_cases hi:i<(ag c.cG n).Code.length
  ·obtain⟨d,rfl⟩ :∃m,d=m+1:=⟨d-1,by omega⟩
   rw[iQ_,au ⟨by omega,by omega⟩,iQ_,Zi,mm (by omega),JJ h hn d k (i+1) _ (by omega) (by omega) (by simp[hl]),kD hi,aeA];rfl
  ·rw[iO_,afR (by omega),af0]
theorem JK{c:aN}(h:Small c)(hK:2000000<K):∀(d k i:Nat) (l:List ax),i+d=c.cG.length->d<k->l.length=i->fN K c k l (i:Int)=some (l++c.cG.drop i)
 | d,k,i,l,hd,hk,hl=>by
  obtain⟨k,rfl⟩ :∃m,k=m+1:=⟨k-1,by omega⟩
  have:=h.f
  rw[fN]
  by_cases hi:i<c.cG.length
  ·obtain⟨d,rfl⟩ :∃m,d=m+1:=⟨d-1,by omega⟩
   have:=h.k i hi
   have e:=JJ (K:=K) h hi (ag c.cG i).Code.length K 0 [] (by omega) (by omega) rfl
   rw[agQ,afU,afM]at e
   rw[iQ_,au ⟨by omega,by omega⟩,e,ai,iQ_,ai,Zi,mm (by omega),JK h hK d k (i+1) _ (by omega) (by omega) (by simp[hl]),kD hi,aeA];rfl
  ·rw[iO_,afR (by omega),af0]
theorem JL{c:aN}(h:Small c):∀(d k i:Nat) (l:List Int),i+d=c.mc.length->d<k->l.length=i->fO K c k l (i:Int)=some (l++c.mc.drop i)
 | d,k,i,l,hd,hk,hl=>by
  obtain⟨k,rfl⟩ :∃m,k=m+1:=⟨k-1,by omega⟩
  have:=h.a
  rw[fO]
  by_cases hi:i<c.mc.length
  ·obtain⟨d,rfl⟩ :∃m,d=m+1:=⟨d-1,by omega⟩
   rw[iQ_,au ⟨by omega,by omega⟩,iQ_,Zi,mm (by omega),JL h d k (i+1) _ (by omega) (by omega) (by simp[hl]),kD hi,aeA];rfl
  ·rw[iO_,afR (by omega),af0]
theorem JM{c:aN}(h:Small c):∀(d k i:Nat) (l:List Int),i+d=c.Nm.length->d<k->l.length=i->fP K c k l (i:Int)=some (l++c.Nm.drop i)
 | d,k,i,l,hd,hk,hl=>by
  obtain⟨k,rfl⟩ :∃m,k=m+1:=⟨k-1,by omega⟩
  have:=h.p
  rw[fP]
  by_cases hi:i<c.Nm.length
  ·obtain⟨d,rfl⟩ :∃m,d=m+1:=⟨d-1,by omega⟩
   rw[iQ_,au ⟨by omega,by omega⟩,iQ_,Zi,mm (by omega),JM h d k (i+1) _ (by omega) (by omega) (by simp[hl]),kD hi,aeA];rfl
  ·rw[iO_,afR (by omega),af0]
theorem JN{c:aN}(h:Small c)(f:List ax)(a p:List Int):∀(d k i:Nat) (l:List Int),i+d=c.gQ.length->d<k->l.length=i->fQ K c f a p k l (i:Int)=some {c with cG:=f,mc:=a,Nm:=p,gQ:=l++c.gQ.drop i}
 | d,k,i,l,hd,hk,hl=>by
  obtain⟨k,rfl⟩ :∃m,k=m+1:=⟨k-1,by omega⟩
  have:=h.d
  rw[fQ]
  by_cases hi:i<c.gQ.length
  ·obtain⟨d,rfl⟩ :∃m,d=m+1:=⟨d-1,by omega⟩
   rw[iQ_,au ⟨by omega,by omega⟩,iQ_,Zi,mm (by omega),JN h f a p d k (i+1) _ (by omega) (by omega) (by simp[hl]),kD hi,aeA];rfl
  ·rw[iO_,afR (by omega),af0]
theorem zH{c:aN}(h:Small c)(hK:2000000<K):jm K c=some c:=by
 have h1:=h.f
 have h2:=h.a
 have h3:=h.p
 have h4:=h.d
 have e1:=JK (K:=K) h hK c.cG.length K 0 [] (by omega) (by omega) rfl
 have e2:=JL (K:=K) h c.mc.length K 0 [] (by omega) (by omega) rfl
 have e3:=JM (K:=K) h c.Nm.length K 0 [] (by omega) (by omega) rfl
 have e4:=JN (K:=K) h c.cG c.mc c.Nm c.gQ.length K 0 [] (by omega) (by omega) rfl
 rw[agQ,afU,afM]at e1 e2 e3 e4
 unfold jm
 rw[e1,ai,e2,ai,e3,ai,e4]
end
section
variable {K:Nat}
def pP(e:ah):Am.Ev:=⟨e.aQ.toNat,e.Frame,e.X,e.V⟩
def vX(e:ah):Prop:=e.aQ=1/\e.Frame=0
instance (e:ah):Decidable (vX e):=by unfold vX;infer_instance
def vY(l:List ah):Prop:=∀e∈l,¬vX e
def kG:List ah->Prop
 | []=>True
 | e::l=>if vX e then e.Qm=0/\e.X=-1/\e.V=1 else kG l
theorem og{e:ah}:∀{l:List ah},kG l->(vY l->vX e->e.Qm=0/\e.X=-1/\e.V=1)->kG (l++[e])
 | [],_,h=>by
  show if vX e then _ else True
  split
  ·next h'=>exact h (λ_ hx=>by cases hx) h'
  ·trivial
 | x::l,h1,h2=>by
  have h1:if vX x then x.Qm=0/\x.X=-1/\x.V=1 else kG l:=h1
  show if vX x then _ else kG (l++[e])
  split
  ·next h'=>rw[au h']at h1;exact h1
  ·next h' =>
   rw[aj h']at h1
   exact og h1 (λhn hs=>h2 (λy hy=>by
    rcases List.mem_cons.1 hy with rfl | hy
    ·exact h'
    ·exact hn y hy) hs)
structure Pre(C:Am.dH)(ps:List Int)(s:Am.St)(l:List ah)(g:Nat):Prop where
 q:Am.Q0 (Am.wv s)
 nf:∀e∈l,e.aQ≠11
 pk:∀k,k<g->cX (GX.ag ps k) (C.N:Int)≠some 0
structure Tl(C:Am.dH)(ps:List Int)(s:Am.St)(l:List ah)(g:Nat):Prop where
 pre:vY l->Pre C ps s l g
 first:kG l
theorem vZ{g i:Nat}{l:List ah}{o:Option Am.Ev}{e:ah}(h:e∈WZ g i l o):e∈l∨∃x,o=some x/\e=⟨(g:Int),(i:Int),(x.kind:Int),x.an,x.x,x.v⟩:=by
 cases o with
 | none=>exact .inl h
 | some x =>
  rcases List.mem_append.1 (show e∈l++[_]from h)with h | h
  ·exact .inl h
  ·exact .inr ⟨x,rfl,List.mem_singleton.1 h⟩
theorem v5{g i:Nat}{l:List ah}{o:Option Am.Ev}{e:ah}(h:e∈l):e∈WZ g i l o:=by
 cases o with
 | none=>exact h
 | some x=>exact List.mem_append.2 (.inl h)
theorem yb{p:Am.Pc}(h:Am.sig p= .start) :∃x,p= .start x:=by
 cases p<;>first | exact⟨_,rfl⟩ | cases h
theorem Tl.step{C:Am.dH}{p:ay}{ps:List Int}{s:Am.St}{S:af}{M:ae}{sz g i:Nat}{l:List ah}{d:Int}(b:j0 C p s S M sz g)(t:Tl C ps s l g)(hi:i<C.N)(hm:cX (GX.ag ps g) (C.N:Int)=some (i:Int)):Tl C ps (Am.step C s i d).s (WZ g i l (Am.step C s i d).ev) (g+1):=by
 have tr:=Am.oy b.fi b.dt hi d
 have main:vY l->i=0->∃x,(Am.step C s i d).ev=some x/\x.kind=1/\x.an=0/\x.x=-1:=by
  intro hn h0
  subst h0
  obtain⟨q1,q2,q3,q4⟩:=(t.pre hn).q
  obtain⟨x,hx⟩:=yb (p:=s.pc 0) q1
  have q2:Am.jN (s.pc 0)=-1:=q2
  rw[hx]at q2
  have q2:x=-1:=q2
  have q3:s.hold 0=some 0:=q3
  subst q2
  refine⟨_,by unfold Am.step;rw[hx];rfl,rfl,?_,rfl⟩
  show(((s.hold 0).getD 0:Nat):Int)=0
  rw[q3];rfl
 have other:vY l->i≠0->Am.Q0 (Am.wv (Am.step C s i d).s)/\∀x,(Am.step C s i d).ev=some x->x.kind≠11/\x.kind≠1:=λhn h0=>(t.pre hn).q.step tr h0 hi b.fi
 constructor
 ·intro hn
  have hn':vY l:=λe he=>hn e (v5 he)
  by_cases h0:i=0
  ·obtain⟨x,x1,x2,x3,x4⟩:=main hn' h0
   exfalso
   rw[x1]at hn
   exact hn _ (List.mem_append.2 (.inr (List.mem_singleton.2 rfl))) ⟨by show(x.kind:Int)=1;rw[x2];rfl,x3⟩
  ·obtain⟨o1,o2⟩:=other hn' h0
   refine⟨o1,λe he => ?_,λk hk => ?_⟩
   ·rcases vZ he with he | ⟨x,hx,rfl⟩
    ·exact(t.pre hn').nf e he
    ·have:=(o2 x hx).1
     show(x.kind:Int)≠11
     omega
   ·by_cases ek:k=g
    ·subst ek;rw[hm];intro h
     have:(i:Int)=0:=Option.some.inj h
     omega
    ·exact(t.pre hn').pk k (by omega)
 ·cases qX:(Am.step C s i d).ev with
  | none=>exact t.first
  | some x =>
   refine og t.first λhn hs => ?_
   have hk:x.kind=1:=by have:(x.kind:Int)=1:=hs.1;omega
   by_cases h0:i=0
   ·obtain⟨y,y1,y2,y3,y4⟩:=main hn h0
    rw[qX]at y1
    cases y1
    exact⟨by show(i:Int)=0;omega,y4,tr.v1 hi b.fi x qX hk⟩
   ·exact absurd hk ((other hn h0).2 x qX).2
theorem yc{r:List ah}(hb:r.length<=100000000):∀(e k g:Nat),g+e=r.length->e<k->kG (r.drop g)->(∃x∈r.drop g,vX x)->fS K r k (g:Int)=some (r,true,true)
 | e,k,g,he,hk,h1,h2=>by
  obtain⟨k,rfl⟩ :∃m,k=m+1:=⟨k-1,by omega⟩
  rw[fS]
  by_cases hg:g<r.length
  ·obtain⟨e,rfl⟩ :∃m,e=m+1:=⟨e-1,by omega⟩
   rw[kD hg]at h1 h2
   have h1:if vX (GX.ag r g)then _ else kG (r.drop (g+1)):=h1
   rw[iQ_,au ⟨by omega,by omega⟩,Zi]
   by_cases hs:vX (GX.ag r g)
   ·rw[au hs]at h1
    obtain⟨a1,a2,a3⟩:=h1
    rw[au hs.1,ai,au (by rw[hs.2];rfl),au ⟨by omega,by omega⟩,au a1,au a2,a3];rfl
   ·rw[aj hs]at h1
    have h2 :∃x∈r.drop (g+1),vX x:=by
     obtain⟨x,hx,hx'⟩:=h2
     rcases List.mem_cons.1 hx with rfl | hx
     ·exact absurd hx' hs
     ·exact⟨x,hx,hx'⟩
    have ih:=yc hb e k (g+1) (by omega) (by omega) h1 h2
    by_cases Iz:(GX.ag r g).aQ=1
    ·rw[au Iz,ai,aj (by simp;exact λh=>hs ⟨Iz,h⟩),mm (by omega)];exact ih
    ·rw[aj Iz,ai,aj (by decide),mm (by omega)];exact ih
  ·obtain⟨x,hx,_⟩:=h2
   rw[afR (by omega)]at hx
   cases hx
theorem uZ{c:aN}(hp:c.Nm.length<=1048576){N:Nat}(hN:c.ez=N)(h1:1<=N)(Lp:N<=64):∀(e k g:Nat),g+e=c.Nm.length->e<k->∃b,fq K c k (g:Int)=some b/\(b=true->∃x,x<c.Nm.length/\cX (GX.ag c.Nm x) (N:Int)=some 0)
 | e,k,g,he,hk=>by
  obtain⟨k,rfl⟩ :∃m,k=m+1:=⟨k-1,by omega⟩
  rw[fq]
  by_cases hg:g<c.Nm.length
  ·obtain⟨e,rfl⟩ :∃m,e=m+1:=⟨e-1,by omega⟩
   obtain⟨i,hm,hin⟩:=uV (x:=GX.ag c.Nm g) (n:=(N:Int)) (by omega) (by omega)
   rw[iQ_,au ⟨by omega,by omega⟩,Zi,hN,hm,ai]
   by_cases h0:(i:Int)=0
   ·rw[au h0];exact⟨true,rfl,λ_=>⟨g,hg,by rw[hm,h0]⟩⟩
   ·rw[aj h0,mm (by omega)];exact uZ hp hN h1 Lp e k (g+1) (by omega) (by omega)
  ·rw[iO_];exact⟨false,rfl,λh=>by cases h⟩
theorem zI{C:Am.dH}{ps args:List Int}:Tl C ps (init C args) [] 0:=
 ⟨λ_=>⟨⟨rfl,rfl,rfl,rfl⟩,(λe h=>by cases h),(λk h=>absurd h (Nat.not_lt_zero _))⟩,CH⟩
theorem zJ{c:aN}(h:Small c)(hK:4000000<K){J:Am.dH->Am.St->List ah->Nat->Prop}(h0:∀(N F f m:Nat),Valid ⟨c.cG⟩->(cfg ⟨c.cG⟩ N F f m).OK->J (cfg ⟨c.cG⟩ N F f m) (init (cfg ⟨c.cG⟩ N F f m) c.mc) [] 0)
 (hJ:∀(C:Am.dH) (p:ay) (s:Am.St) (S:af) (M:ae) (sz:Nat) (l:List ah) (g i:Nat) (d:Int),j0 C p s S M sz g->J C s l g->i<C.N->J C (Am.step C s i d).s (WZ g i l (Am.step C s i d).ev) (g+1)) :
 (∃r,gT K c=some (r,false,true))∨∃r C s g,gT K c=some (r,true,true)/\J C s r g/\r.length<=1048576/\c.MU=C.F/\1<=C.F/\C.F<=4096/\g<=c.Nm.length/\Valid ⟨c.cG⟩/\(c.mc.length:Int)=(GX.ag c.cG 0).MW/\C.OK/\∃N F f m,C=cfg ⟨c.cG⟩ N F f m/\c.ez=N:=by
 unfold gT
 rw[zH h (by omega),ai]
 obtain⟨e,r1,r2,r3,r4⟩:=vq (K:=K) ⟨c.cG⟩ c.mc c.ez ⟨c.MU,c.j8,c.kU⟩ (by omega)
 have hp:=h.p
 have hd:=h.d
 have hr:hO K c=some e:=by
  unfold hO jQ
  rw[aj (by show ¬(((c.Nm.length:Nat):Int)>1048576);omega),agE (show ¬(((c.gQ.length:Nat):Int)>1048576) by omega),ai,aj (by decide),r1,ai]
 by_cases he:e=0
 ·subst he
  obtain⟨hv,ha,BN,Iy,hl⟩:=r4 rfl
  obtain⟨N,hN⟩ :∃N:Nat,c.ez=N:=⟨c.ez.toNat,by omega⟩
  have f1:=hl.f1
  have f2:=hl.f2
  have a1:=hl.a1
  have a2:=hl.a2
  have m2:=hl.m2
  simp only at f1 f2 a1 a2 m2
  obtain⟨F,hF⟩ :∃F:Nat,c.MU=F:=⟨c.MU.toNat,by omega⟩
  obtain⟨f,hf⟩ :∃f:Nat,c.j8=f:=⟨c.j8.toNat,by omega⟩
  obtain⟨m,hm⟩ :∃m:Nat,c.kU=m:=⟨c.kU.toNat,by omega⟩
  rw[hN]at r2 BN Iy
  have hC:=xo (p:=⟨c.cG⟩) (N:=N) (F:=F) (f:=f) (m:=m) hv (by omega) (by omega) (by omega) (by omega) (by omega) (by omega) (by omega)
  obtain⟨lg,l',s',g',x1,x2,x3,x4,x5⟩:=zG (K:=K) (p:=⟨c.cG⟩) (args:=c.mc) (N:=N) (F:=F) (f:=f) (m:=m) (dG:=⟨c.MU,c.j8,c.kU⟩) (sc:=⟨c.Nm,c.gQ⟩) hp hd hK hv ha (by omega) (by omega) hl hF hf hm r2
   (I:=λs l g=>J (cfg ⟨c.cG⟩ N F f m) s l g/\Tl (cfg ⟨c.cG⟩ N F f m) c.Nm s l g) ⟨h0 _ _ _ _ hv hC,zI⟩
   (λs S M sz l g i d b hi CG hg Dp=>⟨hJ _ _ s S M sz l g i d b hi.1 CG,hi.2.step b CG Dp⟩)
  rw[hN,x1,bf,hr,ai,au rfl,au rfl]
  unfold kg
  obtain⟨b,b1,b2⟩:=uZ (K:=K) (c:=c) hp hN (by omega) (by omega) c.Nm.length K 0 (by omega) (by omega)
  rw[agQ]at b1
  rw[b1,ai]
  have hp':g'<=c.Nm.length:=x4
  right
  refine⟨l',_,s',g',?_,x2.1,by omega,hF,by show 1<=F;omega,by show F<=4096;omega,hp',hv,ha,hC,_,_,_,_,rfl,by first | exact hN | rfl⟩
  cases b with
  | false=>rw[aj (by decide)]
  | true =>
   rw[au rfl]
   have ht:=yc (K:=K) (r:=l') (by omega) l'.length K 0 (by omega) (by omega) (by rw[afM];exact x2.2.first) (by
    rw[afM]
    by_cases hs :∃x∈l',vX x
    ·exact hs
    ·exfalso
     have hn:vY l':=λe he h=>hs ⟨e,he,h⟩
     have pr:=x2.2.pre hn
     rcases x5 with x5 | ⟨l0,e,rfl,x5⟩
     ·obtain⟨x,y1,y2⟩:=b2 rfl
      exact pr.pk x (by have x5:g'=c.Nm.length:=x5;omega) y2
     ·rcases x5 with x5 | ⟨_,x5⟩
      ·exact pr.nf e (List.mem_append.2 (.inr (List.mem_singleton.2 rfl))) x5
      ·have hh:=x5 0 (by show 0<N;omega)
       have q1:Am.sig (s'.pc 0)= .start:=pr.q.1
       rw[hh]at q1;cases q1)
   rw[agQ]at ht
   exact ht
 ·left
  rw[zF hp hd r2 he,bf,hr,ai,au rfl,aj he]
  exact⟨_,rfl⟩
end
section
variable {K:Nat}{C:Am.dH}
def E1(C:Am.dH)(e:ah):Prop:=(e.aQ=1∨e.aQ=2∨e.aQ=6->0<=e.Frame/\e.Frame<C.F)/\(e.aQ=2->0<=e.X/\e.X<C.F)/\0<=e.aQ
def JP(C:Am.dH)(o:Am.uW)(l:List ah):Am.uW:=l.foldl (λo e=>Am.sD C o (pP e)) o
def E2(C:Am.dH):Am.uW->List ah->Prop
 | _,[]=>True
 | o,e::l=>Am.tW C o (pP e)/\E1 C e/\E2 C (Am.sD C o (pP e)) l
theorem u0{e:ah}:∀{l:List ah} {o:Am.uW},E2 C o l->Am.tW C (JP C o l) (pP e)->E1 C e->E2 C o (l++[e])
 | [],o,_,h2,h3=>⟨h2,h3,CH⟩
 | x::l,o,h1,h2,h3=>⟨h1.1,h1.2.1,u0 h1.2.2 h2 h3⟩
def Ga:Am.uW:=⟨λf=>if f=0 then 1 else 0,λf=>if f=0 then 1 else 0,λ_=>0⟩
def JO(C:Am.dH)(s:Am.St)(l:List ah)(g:Nat):Prop:=Am.OI C (Am.wv s) (JP C Ga l)/\E2 C Ga l
theorem zK(C:Am.dH)(args:List Int):JO C (init C args) [] 0:=by
 refine⟨?_,CH⟩
 have hg:∀j,(Am.wv (init C args)).v.g j=if j=0 then .start else .none:=λj=>by
  show Am.sig (if j=0 then _ else _)=_
  split<;>rfl
 constructor
 ·intro f n h
  have h:Am.B6 (if f=0 then .held 0 else .free)=some n:=h
  show(if f=0 then 1 else 0)=n
  by_cases e:f=0
  ·rw[au e]at h;cases h
  ·rw[aj e]at h⊢;exact Option.some.inj h
 ·intro i f hi h
  have h:(if i=0 then some 0 else none)=some f:=h
  by_cases e:i=0
  ·rw[au e]at h;cases h;rw[hg,au e,au rfl];rfl
  ·rw[aj e]at h;cases h
 ·intro f hf _
  have hf:f<1:=hf
  obtain rfl:f=0:=by omega
  rfl
 ·intro f hf _
  have hf:f<1:=hf
  obtain rfl:f=0:=by omega
  rfl
 ·intro i c f hi h hk
  rw[hg]at hk
  split at hk<;>cases hk
 ·intro i c f hi h hk
  rw[hg]at hk
  split at hk<;>cases hk
 ·intro f hf;rfl
theorem zL{p:ay}{s:Am.St}{S:af}{M:ae}{sz g i:Nat}{l:List ah}{d:Int}(b:j0 C p s S M sz g)(j:JO C s l g)(hi:i<C.N):JO C (Am.step C s i d).s (WZ g i l (Am.step C s i d).ev) (g+1):=by
 have tr:=Am.oy b.fi b.dt hi d
 have q:=Am.OI.agS tr hi b.fi j.1
 cases qX:(Am.step C s i d).ev with
 | none=>exact⟨q.1 qX,j.2⟩
 | some x =>
  have q:=q.2 x qX
  have r:=tr.inr hi b.fi x qX
  refine⟨?_,u0 j.2 q.1 ⟨λh=>r.1 (by show x.kind=1∨x.kind=2∨x.kind=6;have h:(x.kind:Int)=1∨(x.kind:Int)=2∨(x.kind:Int)=6:=h;omega),λh=>r.2 (by have h:(x.kind:Int)=2:=h;omega),by show(0:Int)<=(x.kind:Int);omega⟩⟩
  show Am.OI C _ (List.foldl _ Ga (l++[_]))
  rw[List.foldl_append]
  exact q.2
structure Rl(C:Am.dH)(o:Am.uW)(a b c:List Int)(g:Nat):Prop where
 na:a.length=C.F
 nb:b.length=C.F
 nc:c.length=C.F
 st:∀f,f<C.F->GX.ag a f=(o.st f:Int)
 pd:∀f,f<C.F->GX.ag b f=o.gH f
 kd:∀f,f<C.F->GX.ag c f=(o.aR f:Int)
 kb:∀f,o.aR f<=g
theorem Rl.Au{o:Am.uW}{a b c:List Int}{g f n:Nat}(h:Rl C o a b c g)(hf:f<C.F):Rl C {o with st:=Am.bq o.st f n} (a.set f (n:Int)) b c (g+1):=
 ⟨by rw[acG];exact h.na,h.nb,h.nc,λk hk=>by
  rw[eX (by rw[h.na];exact hf)]
  show _=((Am.bq o.st f n k:Nat):Int)
  rw[Am.bM]
  by_cases e:k=f
  ·rw[au e,au e]
  ·rw[aj e,aj e];exact h.st k hk,h.pd,h.kd,λk=>Nat.le_succ_of_le (h.kb k)⟩
theorem yd{c:aN}{p:ay}{N F f m:Nat}(hC:C=cfg p N F f m){r:List ah}(hr:r.length<=1048576)(hF:c.MU=C.F)(h4:C.F<=4096):∀(e k g:Nat) (o:Am.uW) (a b cc:List Int),g+e=r.length->e<k->E2 C o (r.drop g)->Rl C o a b cc g->cP K c r k a b cc (g:Int)=some true
 | e,k,g,o,a,b,cc,he,hk,hA,hR=>by
  obtain⟨k,rfl⟩ :∃m,k=m+1:=⟨k-1,by omega⟩
  rw[cP]
  by_cases hg:g<r.length
  ·obtain⟨e,rfl⟩ :∃m,e=m+1:=⟨e-1,by omega⟩
   rw[kD hg]at hA
   obtain⟨hok,⟨i1,i2,i0⟩,v7⟩:=hA
   have ih:=yd hC hr hF h4 e k (g+1)
   rw[iQ_,au ⟨by omega,by omega⟩,Zi]
   generalize GX.ag r g=v at hok i1 i2 i0 v7
   have na:=hR.na;have nb:=hR.nb;have nc:=hR.nc
   have hlen:(((List.replicate c.MU.toNat (0:Int)).length:Nat):Int)=C.F:=by rw[aeb];omega
   by_cases h2:v.aQ=2
   ·obtain⟨f1,f2⟩:=i1 (.inr (.inl h2))
    obtain⟨x1,x2⟩:=i2 h2
    have E3:(pP v).kind=2:=by show v.aQ.toNat=2;omega
    unfold Am.tW at hok
    unfold Am.sD at v7
    rw[au E3]at hok v7
    obtain⟨o1,o2,o3,o4⟩:=hok
    have o1:o.st v.Frame.toNat=0:=o1
    have o2:o.st v.X.toNat=2:=o2
    have o4:v.Frame.toNat≠v.X.toNat:=o4
    have o3:v.V=wi (wi (wi (o.gH v.X.toNat*1000003)+(o.aR v.X.toNat:Int))+1):=by
     have o3:v.V=C.pd (o.gH v.X.toNat) (o.aR v.X.toNat):=o3
     rw[o3,hC];rfl
    have fa:v.Frame.toNat<C.F:=by omega
    have xa:v.X.toNat<C.F:=by omega
    have kb:=hR.kb v.X.toNat
    have w1:wi ((0:Int)+1)=1:=rfl
    rw[au h2,ai,aj (by decide),iO_,aj (by rw[hlen];omega),au ⟨f1,by rw[na];exact f2⟩,hR.st _ fa,o1,au (show((0:Nat):Int)=0 from rfl),aj (show ¬(0:Int)=1 by decide),bu,au ⟨f1,by rw[na];exact f2⟩,au (show(0:Int)=0 from rfl),w1,
     aj (by omega),aj (by rw[hlen];omega),au ⟨x1,by rw[acG,na];exact x2⟩,eX (by rw[na];exact fa),aj (show ¬v.X.toNat=v.Frame.toNat from λh=>o4 h.symm),hR.st _ xa,o2,au (show((2:Nat):Int)=2 from rfl),bu,
     au ⟨x1,by rw[nb];exact x2⟩,au ⟨x1,by rw[nc];exact x2⟩,au ⟨f1,by rw[nb];exact f2⟩,au ⟨f1,by rw[acG,nb];exact f2⟩,hR.pd _ xa,hR.kd _ xa,au o3,mm (by omega),mm (by omega)]
    refine ih _ _ _ _ (by omega) (by omega) v7 ?_
    refine⟨by rw[acG];exact na,by rw[acG];exact nb,by rw[acG];exact nc,λy hy => ?_,λy hy => ?_,λy hy => ?_,λy => ?_⟩
    ·rw[eX (by rw[na];exact fa)]
     show _=((Am.bq o.st v.Frame.toNat 1 y:Nat):Int)
     rw[Am.bM]
     by_cases ey:y=v.Frame.toNat
     ·rw[au ey,au ey];rfl
     ·rw[aj ey,aj ey];exact hR.st y hy
    ·rw[eX (by rw[nb];exact fa)]
     show _=Am.bq o.gH v.Frame.toNat (C.pd (o.gH v.X.toNat) (o.aR v.X.toNat)) y
     rw[Am.bM]
     by_cases ey:y=v.Frame.toNat
     ·rw[au ey,au ey,hC];rfl
     ·rw[aj ey,aj ey];exact hR.pd y hy
    ·rw[eX (by rw[nc];exact xa)]
     show _=((Am.bq o.aR v.X.toNat (o.aR v.X.toNat+1) y:Nat):Int)
     rw[Am.bM]
     by_cases ey:y=v.X.toNat
     ·rw[au ey,au ey]
     ·rw[aj ey,aj ey];exact hR.kd y hy
    ·show Am.bq o.aR v.X.toNat (o.aR v.X.toNat+1) y<=g+1
     rw[Am.bM]
     split
     ·omega
     ·have:=hR.kb y;omega
   ·have E3:¬(pP v).kind=2:=by show ¬v.aQ.toNat=2;omega
    rw[aj h2]
    by_cases h1:v.aQ=1
    ·obtain⟨f1,f2⟩:=i1 (.inl h1)
     have Bi:(pP v).kind=1:=by show v.aQ.toNat=1;omega
     unfold Am.tW at hok
     unfold Am.sD at v7
     rw[aj E3,au Bi]at hok v7
     have o1:o.st v.Frame.toNat=1:=hok.1
     have o2:v.V=1:=hok.2
     have fa:v.Frame.toNat<C.F:=by omega
     have w1:wi ((1:Int)+1)=2:=rfl
     rw[au h1,ai,aj (by decide),iO_,aj (by rw[hlen];omega),au ⟨f1,by rw[na];exact f2⟩,hR.st _ fa,o1,au (show((1:Nat):Int)=1 from rfl),au (show(1:Int)=1 from rfl),au o2,bu,au ⟨f1,by rw[na];exact f2⟩,aj (show ¬(1:Int)=0 by decide),w1,mm (by omega)]
     exact ih _ _ _ _ (by omega) (by omega) v7 (hR.Au fa)
    ·have Bi:¬(pP v).kind=1:=by show ¬v.aQ.toNat=1;omega
     rw[aj h1]
     by_cases h6:v.aQ=6
     ·obtain⟨f1,f2⟩:=i1 (.inr (.inr h6))
      have IA:(pP v).kind=6:=by show v.aQ.toNat=6;omega
      unfold Am.tW at hok
      unfold Am.sD at v7
      rw[aj E3,aj Bi,au IA]at hok v7
      have o1:o.st v.Frame.toNat=2:=hok
      have fa:v.Frame.toNat<C.F:=by omega
      have w1:wi ((2:Int)+1)=3:=rfl
      rw[au h6,ai,aj (by decide),iO_,aj (by rw[hlen];omega),au ⟨f1,by rw[na];exact f2⟩,hR.st _ fa,o1,au (show((2:Nat):Int)=2 from rfl),aj (show ¬(2:Int)=1 by decide),bu,au ⟨f1,by rw[na];exact f2⟩,aj (show ¬(2:Int)=0 by decide),w1,mm (by omega)]
      exact ih _ _ _ _ (by omega) (by omega) v7 (hR.Au fa)
     ·have IA:¬(pP v).kind=6:=by show ¬v.aQ.toNat=6;omega
      unfold Am.sD at v7
      rw[aj E3,aj Bi,aj IA]at v7
      rw[aj h6,ai,au (by decide),mm (by omega)]
      exact ih _ _ _ _ (by omega) (by omega) v7 ⟨hR.na,hR.nb,hR.nc,hR.st,hR.pd,hR.kd,λy=>Nat.le_succ_of_le (hR.kb y)⟩
  ·rw[iO_]
theorem v8{c:aN}(h:Small c)(hK:4000000<K):Pg K c=some true:=by
 unfold Pg
 rcases zJ (K:=K) h hK (J:=JO) (λN F f m _ _=>zK _ _) (λC p s S M sz l g i d b j hi=>zL b j hi)with ⟨r,e⟩ | ⟨r,C,s,g,e,j,hr,hF,h1,h4,L6,hv,ha,L7,N,F,f,m,hC,hN⟩
 ·rw[e,bf,au rfl,aj (by decide),qc]
 ·rw[e,bf,au rfl,au rfl,bu,au ⟨by omega,by omega⟩,au ⟨by decide,by rw[aeb];omega⟩]
  have hn:c.MU.toNat=C.F:=by omega
  rw[hn]
  have:=yd (K:=K) (c:=c) hC hr hF h4 r.length K 0 Ga ((List.replicate C.F (0:Int)).set 0 1) ((List.replicate C.F (0:Int)).set 0 1) (List.replicate C.F (0:Int)) (by omega) (by omega) (by rw[afM];exact j.2)
   ⟨by rw[acG,aeb],by rw[acG,aeb],by rw[aeb],λy hy=>by
    rw[eX (by rw[aeb];omega)]
    show _=(((if y=0 then 1 else 0:Nat)):Int)
    by_cases ey:y=0
    ·rw[au ey,au ey];rfl
    ·rw[aj ey,aj ey,Sd hy];rfl,λy hy=>by
    rw[eX (by rw[aeb];omega)]
    show _=(if y=0 then(1:Int)else 0)
    by_cases ey:y=0
    ·rw[au ey,au ey]
    ·rw[aj ey,aj ey,Sd hy],λy hy=>by rw[Sd hy];rfl,λy=>agP _⟩
  rw[agQ]at this
  exact this
end
end Mo
end
end Go.Proofs.YtpikpffbcjpmcaaGreatDoor
