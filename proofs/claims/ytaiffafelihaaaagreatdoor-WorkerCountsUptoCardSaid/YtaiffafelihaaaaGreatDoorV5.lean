/- A part of the proof of what V6 states. Conditions: none. -/
import Derived.Test.YtaiffafelihaaaaGreatDoorV4
set_option linter.unusedVariables false
set_option linter.unusedSimpArgs false
set_option linter.unusedSectionVars false
set_option maxRecDepth 100000
set_option maxHeartbeats 4000000
set_option autoImplicit true
set_option relaxedAutoImplicit true
namespace Go.Proofs.YtaiffafelihaaaaGreatDoor
section
namespace Am
def sg(C:jt):Nat->Nat
 | 0=>0
 | g+1=>sg C g+tG C g
theorem HI{C:jt}:∀{g:Nat},tG C g<C.most->(∀k,k<g->tG C k<C.most)->sg C g<=tG C g
 | 0,_,_=>xM _
 | g+1,h,hk=>by
  have h1:=hk g I;have ih:=HI h1 (λk hk'=>hk k I);simp only[tG]at h⊢;simp only[sg];omega
theorem AP{f g:Nat->Nat}{i:Nat}:∀{n:Nat},i<n->(∀j,j≠i->g j=f j)->fU g n+f i=fU f n+g i
 | n+1,hi,h=>by
  simp only[fU];by_cases hn:i=n
  ·subst hn;rw[pP (f:=g) (g:=f) (λj hj=>h j I)];omega
  ·have:=AP (n:=n) I h;rw[h n I];omega
def NS(C:jt)(i j:Nat):Nat:=(i+C.N-j)%C.N
def yt(C:jt)(i:Nat):Pc->Nat
 | .fork _=>C.N+11
 | .zP _=>C.N+10
 | .yc .. => C.N+9
 | .q9 .. => C.N+8
 | .rf .. => C.N+7
 | .grow .. => C.N+6
 | .mS .. => C.N+5
 | .kP .. => C.N+4
 | .j8 .. => C.N+4
 | .mT .. => C.N+4
 | .jV .. => C.N+3
 | .n7 .. => C.N+2
 | .DQ=>C.N+1
 | .sW j=>NS C i j+1
 | .vm _=>1
 | .nP=>1
 | _=>0
def gp:Pc->Nat
 | .kP _ _ t _ n=>2*(n-t).toNat
 | .j8 _ _ t _ n _=>2*(n-t).toNat+1
 | .mT _ b t _=>2*(b-t).toNat
 | _=>0
def zg(p:Pc)(B:Int):Int:=
 match p with
 | .AB b=>b+1
 | .tP b _=>b+1
 | .pS b _ _=>b+1
 | .sP b _ _=>b+1
 | .pM t=>t
 | .qa t _ _=>t+1
 | .fork _ | .zP _ | .yc .. | .q9 .. | .rf .. | .grow .. | .mS .. | .kP .. | .j8 .. | .mT .. | .jV .. | .n7 .. => B+1
 | _=>B
def LI(p:Pc):Prop:=
 match p with
 | .q9 _ _ t=>0<=t
 | .rf _ _ t=>0<=t
 | .grow _ _ t _=>0<=t
 | .mS _ _ t _=>0<=t
 | .kP _ _ t _ _=>0<=t
 | .j8 _ _ t _ _ _=>0<=t
 | .mT _ _ t _=>0<=t
 | _=>True
def wt(C:jt)(i:Nat)(p:Pc):Prop:=
 match p with
 | .sW j=>j<C.N/\j≠i
 | _=>True
def F4(s:St):Nat:=fU (λf=>(s.mem (.mark f)).toNat) s.nf
structure CI(C:jt)(s:St)(pu:Nat->Nat)(H afW:Nat):Prop where
 h:H+fU (λj=>yt C j (s.pc j)) C.N<=2*afW+F4 s+fU (λj=>(C.N+11)*pu j+(2*sg C (s.cur j)+gp (s.pc j))) C.N
 pn:fU pu C.N+1=s.nf
 b:∀j,j<C.N->zg (s.pc j) (s.mem (.bot j))<=pu j
 c:∀j,j<C.N->1<=s.cur j->tG C (s.cur j-1)<=pu j
 t:∀j,j<C.N->LI (s.pc j)
 w:∀j,j<C.N->wt C j (s.pc j)
section
variable {C:jt}{s:St}{i:Nat}{pu:Nat->Nat}{H afW:Nat}
theorem CI.up(h:CI C s pu H afW)(hi:i<C.N){s':St}{p:Pc}(c k dH dI dS:Nat)(h1:s'.pc=bJ s.pc i p)(h2:s'.cur=bJ s.cur i c)(h3:s'.nf=s.nf+k)(hS:F4 s+dS<=F4 s')
 (hB:∀j,j≠i->s'.mem (.bot j)=s.mem (.bot j))
 (hr:yt C i p+dH+2*sg C (s.cur i)+gp (s.pc i)<=yt C i (s.pc i)+2*dI+dS+(C.N+11)*k+2*sg C c+gp p)
 (hb:zg p (s'.mem (.bot i))<=((pu i+k:Nat):Int)) (hc:1<=c->tG C (c-1)<=pu i+k) (ht:LI p) (hw:wt C i p):CI C s' (bJ pu i (pu i+k)) (H+dH) (afW+dI):=by
 have pi:s'.pc i=p:=by rw[h1,aF]
 have pj:∀j,j≠i->s'.pc j=s.pc j:=λj hj=>by rw[h1,aA hj]
 have ci:s'.cur i=c:=by rw[h2,aF]
 have cj:∀j,j≠i->s'.cur j=s.cur j:=λj hj=>by rw[h2,aA hj]
 have qi:bJ pu i (pu i+k) i=pu i+k:=aF _ _ _;have qj:∀j,j≠i->bJ pu i (pu i+k) j=pu j:=λj hj=>aA hj;constructor
 ·have e1:=AP (f:=λj=>yt C j (s.pc j)) (g:=λj=>yt C j (s'.pc j)) hi (λj hj=>by show yt C j (s'.pc j)=_;rw[pj j hj]);have e2:=AP (f:=λj=>(C.N+11)*pu j+(2*sg C (s.cur j)+gp (s.pc j))) (g:=λj=>(C.N+11)*bJ pu i (pu i+k) j+(2*sg C (s'.cur j)+gp (s'.pc j))) hi (λj hj=>by
   show(C.N+11)*bJ pu i (pu i+k) j+(2*sg C (s'.cur j)+gp (s'.pc j))=_;rw[pj j hj,cj j hj,qj j hj])
  simp only[pi,ci,qi]at e1 e2;have e3:=h.h;rw[Nat.mul_add]at e2;omega
 ·have:=nW (f:=pu) (g:=bJ pu i (pu i+k)) hi qj qi;have:=h.pn;omega
 ·intro j hj;by_cases e:j=i
  ·subst e;rw[pi,qi];exact hb
  ·rw[pj j e,qj j e,hB j e];exact h.b j hj
 ·intro j hj;by_cases e:j=i
  ·subst e;rw[ci,qi];exact hc
  ·rw[cj j e,qj j e];exact h.c j hj
 ·intro j hj;by_cases e:j=i
  ·subst e;rw[pi];exact ht
  ·rw[pj j e];exact h.t j hj
 ·intro j hj;by_cases e:j=i
  ·subst e;rw[pi];exact hw
  ·rw[pj j e];exact h.w j hj
theorem CI.acY(h:CI C s pu H afW)(hz:SZ C s)(hd:DT C s):∀j,j<C.N->2*sg C (s.cur j)+gp (s.pc j)<=4*pu j:=by
 intro j hj;have hc:=h.c j hj;have base:sg C (s.cur j)<=2*pu j:=by
  cases e:s.cur j with
  | zero=>exact xM _
  | succ g =>
   rw[e]at hc;have h1:tG C g<C.most:=hz.gm j hj g (by unfold gen;omega);have h2:=HI h1 (λk hk=>hz.gm j hj k (by unfold gen;omega));have h3:=hc I;simp only[Nat.add_sub_cancel]at h3;simp only[sg];omega
 have hD:=(hd.1 j hj).ph;have hb:=h.b j hj;have ht:=h.t j hj;have hcap:s.cc j=tG C (s.cur j):=hz.cap j hj _ (ja _);have key:∀b t cc:Int,DR C s j b t cc->0<=t->s.mem (.bot j)+1<=pu j->sg C (s.cur j)<=tG C (s.cur j)/\((tG C (s.cur j):Nat):Int)=b-t/\tG C (s.cur j)+1<=pu j:=λb t cc g h0 hp=>by
  obtain⟨g1,g2,g3,g4,g5,g6,g7⟩:=g;have g1:s.mem (.bot j)=b:=g1;refine⟨HI I (λk hk=>hz.gm j hj k (by unfold gen;omega)),I,I⟩
 unfold pT at hD;cases hp:s.pc j<;>rw[hp]at hD hb ht<;>simp only[gp,w5]<;>first | omega | skip
 ·simp only at hD;obtain⟨k1,k2,k3⟩:=key _ _ _ hD.1 ht hb;have:=hD.2.2;omega
 ·simp only at hD;obtain⟨k1,k2,k3⟩:=key _ _ _ hD.1 ht hb;have:=hD.2.2;omega
 ·simp only at hD;obtain⟨k1,k2,k3⟩:=key _ _ _ hD.1 ht hb;omega
theorem LJ{s':St}(hm:∀f,s'.mem (.mark f)=s.mem (.mark f))(hn:s.nf<=s'.nf):F4 s<=F4 s':=by
 unfold F4;rw[pP (f:=λf=>(s'.mem (.mark f)).toNat) (g:=λf=>(s.mem (.mark f)).toNat) (λj _=>by show(s'.mem (.mark j)).toNat=_;rw[hm])];obtain⟨k,hk⟩:=Nat.le.dest hn;rw[<-hk];clear hk hn
 induction k with
 | zero=>exact ja _
 | succ k ih=>exact Bi ih (Nat.le_add_right _ _)
theorem AQ{α β:Type}[DecidableEq α](f:α->β)(a:α):bJ f a (f a)=f:=by
 funext x;rw[cA];split
 ·next e=>rw[e]
 ·rfl
theorem CI.one(h:CI C s pu H afW)(hi:i<C.N){s':St}{p:Pc}(dH:Nat)(h1:s'.pc=bJ s.pc i p)(h2:s'.cur=s.cur)(h3:s'.nf=s.nf)(hm:∀f,s'.mem (.mark f)=s.mem (.mark f))(hB:∀j,j≠i->s'.mem (.bot j)=s.mem (.bot j))
 (hr:yt C i p+dH+gp (s.pc i)<=yt C i (s.pc i)+gp p) (hb:zg p (s'.mem (.bot i))<=pu i) (ht:LI p) (hw:wt C i p):CI C s' pu (H+dH) afW:=by
 have:=h.up hi (s.cur i) 0 dH 0 0 h1 (by rw[h2,AQ]) h3 (by have:=LJ (s:=s) hm I;omega) hB I (by simpa using hb) (λhc=>by have:=h.c i hi hc;omega) ht hw;rw[w5,AQ]at this;exact this
def tF.mb:tF->Bool
 | .mark _ | .bot _=>true
 | _=>false
theorem pY{a:tF}{v:Int}(ha:a.mb=false):∀x:tF,x.mb=true->(s.wr a v).mem x=s.mem x:=λx hx=>kq (by rintro rfl;rw[ha]at hx;cases hx)
theorem CI.q0(h:CI C s pu H afW)(hi:i<C.N){s':St}{p:Pc}(dH:Nat)(h1:s'.pc=bJ s.pc i p)(h2:s'.cur=s.cur)(h3:s'.nf=s.nf)(hm:∀x:tF,x.mb=true->s'.mem x=s.mem x)
 (hr:yt C i p+dH+gp (s.pc i)<=yt C i (s.pc i)+gp p) (hb:zg p (s.mem (.bot i))<=pu i) (ht:LI p) (hw:wt C i p):CI C s' pu (H+dH) afW:=
 h.one hi dH h1 h2 h3 (λf=>hm _ rfl) (λj _=>hm _ rfl) hr (by rw[hm (.bot i) rfl];exact hb) ht hw
theorem CI.q(h:CI C s pu H afW)(hi:i<C.N){s':St}{p O:Pc}(hp:s.pc i=O)(dH:Nat)(h1:s'.pc=bJ s.pc i p)(hb:zg p (s.mem (.bot i))<=pu i)(hm:∀x:tF,x.mb=true->s'.mem x=s.mem x:=by exact λ_ _=>rfl)(ht:LI p:=by trivial)(hw:wt C i p:=by trivial)(h2:s'.cur=s.cur:=by rfl)(h3:s'.nf=s.nf:=by rfl)
 (hr:yt C i p+dH+gp O<=yt C i O+gp p:=by simp only[yt,gp];omega):CI C s' pu (H+dH) afW:=
 h.one hi dH h1 h2 h3 (λf=>hm _ rfl) (λj _=>hm _ rfl) (by rw[hp];exact hr) (by rw[hm (.bot i) rfl];exact hb) ht hw
theorem CI.wb(h:CI C s pu H afW)(hi:i<C.N){s':St}{p:Pc}{v:Int}(dH:Nat)(h1:s'.pc=bJ s.pc i p)(h2:s'.cur=s.cur)(h3:s'.nf=s.nf)(hm:s'.mem=(s.wr (.bot i) v).mem)
 (hr:yt C i p+dH+gp (s.pc i)<=yt C i (s.pc i)+gp p) (hb:zg p v<=pu i) (ht:LI p) (hw:wt C i p):CI C s' pu (H+dH) afW:=
 h.one hi dH h1 h2 h3 (λf=>by rw[hm];exact kq pQ) (λj hj=>by rw[hm];exact kq (by intro e;injection e with e;exact hj e)) hr (by rw[hm];show zg p (bJ s.mem (.bot i) v (.bot i))<=_;rw[aF];exact hb) ht hw
theorem Vn(hi:i<C.N)(j:Nat):Gw C j<C.N:=BF _ I
theorem Vo{j:Nat}(hi:i<C.N)(hj:j<C.N)(h:j≠i)(hn:Gw C j≠i):NS C i (Gw C j)+1=NS C i j:=by
 unfold Gw at hn⊢;unfold NS;by_cases e:j+1=C.N
 ·rw[e,Nat.mod_self]at hn⊢;rw[Nat.sub_zero,JW,uX hi,show i+C.N-j=i+1 by omega,uX I]
 ·have:(j+1)%C.N=j+1:=uX I;rw[this]at hn⊢;rcases AV i j with h' | h'
  ·rw[uX I,uX I];omega
  ·rw[show i+C.N-(j+1)=i-(j+1)+C.N by omega,show i+C.N-j=i-j+C.N by omega,JW,JW,uX I,uX I];omega
theorem PK(hi:i<C.N)(h1:1<C.N):NS C i (Gw C i)+1=C.N/\Gw C i≠i:=by
 unfold Gw NS;by_cases e:i+1=C.N
 ·rw[e,Nat.mod_self];rw[Nat.sub_zero,JW,uX hi];omega
 ·rw[uX (show i+1<C.N by omega),show i+C.N-(i+1)=C.N-1 by omega,uX I];omega
theorem Vp{j:Nat}(hi:i<C.N)(hj:j<C.N)(h:j≠i):1<=NS C i j:=by
 unfold NS;rcases AV i j with h' | h'
 ·rw[uX I];omega
 ·rw[show i+C.N-j=i-j+C.N by omega,JW,uX I];omega
theorem CI.yZ(h:CI C s pu H afW)(hi:i<C.N){s' s0:St}(hp:s0.pc=s.pc)(h2:s'.cur=s.cur)(h3:s'.nf=s.nf)(e:s'=Am.yZ s0 C i)(hm:∀x:tF,x.mb=true->s'.mem x=s.mem x)(hr:gp (s.pc i)=0)(hb:s.mem (.bot i)<=pu i):CI C s' pu H afW:=by
 subst e;have:(Am.yZ s0 C i).pc=bJ s.pc i (if C.N=1 then .flag else .jQ):=by show bJ s0.pc i _=_;rw[hp]
 split at this
 ·exact h.q0 (p:=.flag) hi 0 this h2 h3 hm (by rw[hr];simp only[yt,gp];omega) hb trivial trivial
 ·exact h.q0 (p:=.jQ) hi 0 this h2 h3 hm (by rw[hr];simp only[yt,gp];omega) hb trivial trivial
theorem CI.tel(h:CI C s pu H afW)(hi:i<C.N){s0:St}{j:Nat}{a:Option Acc}(hp:s0.pc=s.pc)(h2:s0.cur=s.cur)(h3:s0.nf=s.nf)(hm:∀x:tF,x.mb=true->s0.mem x=s.mem x)(hr:gp (s.pc i)=0)(hb:s.mem (.bot i)<=pu i):CI C (lU s0 C i j a).s pu H afW:=by
 unfold lU;split
 ·exact h.q0 (p:=.halted) hi 0 (by show bJ s0.pc i _=_;rw[hp]) h2 h3 hm (by rw[hr];simp only[yt,gp];omega) hb trivial trivial
 ·exact h.q0 (p:=.tell j) hi 0 (by show bJ s0.pc i _=_;rw[hp]) h2 h3 hm (by rw[hr];simp only[yt,gp];omega) hb trivial trivial
theorem CI.lok(h:CI C s pu H afW)(hi:i<C.N){j:Nat}{a:Option Acc}(hr:gp (s.pc i)=0)(hb:s.mem (.bot i)<=pu i):CI C (looking s C i j a).s pu H afW:=by
 unfold looking;split
 ·exact h.q0 (p:=.parked) hi 0 rfl rfl rfl (λ_ _=>rfl) (by rw[hr];simp only[yt,gp];omega) hb trivial trivial
 ·exact h.q0 (p:=.Dp j) hi 0 rfl rfl rfl (λ_ _=>rfl) (by rw[hr];simp only[yt,gp];omega) hb trivial trivial
theorem CI.awa(h:CI C s pu H afW)(hi:i<C.N){s0:St}{b:Bool}{a:Option Acc}(hp:s0.pc=s.pc)(h2:s0.cur=s.cur)(h3:s0.nf=s.nf)(hm:∀x:tF,x.mb=true->s0.mem x=s.mem x)(hr:gp (s.pc i)=0)(hb:s.mem (.bot i)<=pu i):CI C (yp s0 C i b a).s pu H afW:=by
 unfold yp;split
 ·exact h.q0 (p:=.halted) hi 0 (by show bJ s0.pc i _=_;rw[hp]) h2 h3 hm (by rw[hr];simp only[yt,gp];omega) hb trivial trivial
 ·exact h.yZ hi (s0:=s0.tQ i 0) hp h2 h3 rfl hm hr hb
theorem CI.Yw(h:CI C s pu H afW)(hi:i<C.N){s0:St}{v:Int}(hp:s0.pc=s.pc)(h2:s0.cur=s.cur)(h3:s0.nf=s.nf)(hm:s0.mem=(s.wr (.bot i) v).mem)(hr:gp (s.pc i)=0)(hb:v<=pu i):CI C (Am.yZ s0 C i) pu H afW:=by
 have:(Am.yZ s0 C i).pc=bJ s.pc i (if C.N=1 then .flag else .jQ):=by show bJ s0.pc i _=_;rw[hp]
 split at this
 ·exact h.wb (p:=.flag) (v:=v) hi 0 this h2 h3 hm (by rw[hr];simp only[yt,gp];omega) hb trivial trivial
 ·exact h.wb (p:=.jQ) (v:=v) hi 0 this h2 h3 hm (by rw[hr];simp only[yt,gp];omega) hb trivial trivial
theorem CI.side(h:CI C s pu H afW)(hz:SZ C s)(hd:DT C s)(hf:(view s).FI C.N C.F)(hi:i<C.N)(h0:s.pc i≠.full)(h1:s.pc i≠.run)(d:Int):CI C (aC C s i d).s pu (H+if busy (sig (s.pc i))=true then 1 else 0) afW:=by
 have hb:=h.b i hi;have ht:=h.t i hi;have hw:=h.w i hi;have hD:=(hd.1 i hi).ph;have hT:=(hd.1 i hi).t0;have hcap:s.cc i=tG C (s.cur i):=hz.cap i hi _ (ja _);unfold pT at hD;have hN:1<=C.N:=by omega
 cases hp:s.pc i<;>rw[hp]at hb ht hw hD h0 h1<;>simp only[sig,busy,if_true,G5,if_false,w5,zg,LI,wt]at hb ht hw hD⊢<;> unfold Am.aC<;>rw[hp]<;>simp only
 case halted=>exact h
 case full=>exact absurd rfl h0
 case run=>exact absurd rfl h1
 case start x =>
  obtain⟨f,hh⟩:=n9 hf hi (by rw[hp];rfl);have hn:f<s.nf:=tH hf hi hh;have h0:s.mem (.mark f)=0:=hf.y9 i f hi (by show sig (s.pc i)=_;rw[hp];rfl) hh;have ZZ:(s.hold i).getD 0=f:=by rw[hh];rfl
  rw[ZZ,h0];have:=h.up hi (s':=(s.wr (.mark f) (0+1)).to i .run) (p:=.run) (s.cur i) 0 1 0 1 rfl (by rw[AQ];rfl) rfl (by
   unfold F4;have:=nW (f:=λf=>(s.mem (.mark f)).toNat) (g:=λg=>(((s.wr (.mark f) (0+1)).to i .run).mem (.mark g)).toNat) (i:=f) (k:=1) (n:=s.nf) hn (λj hj=>by
    show((s.wr (.mark f) (0+1)).mem (.mark j)).toNat=_;rw[kq (by intro e;injection e with e;exact hj e)]) (by
    show(bJ s.mem (.mark f) (0+1) (.mark f)).toNat=(s.mem (.mark f)).toNat+1;rw[aF,h0];rfl)
   show _+1<=fU _ s.nf;rw[this];exact ja _) (λj hj=>by show(s.wr (.mark f) (0+1)).mem (.bot j)=_;exact kq pQ) (by rw[hp];simp only[yt,gp];omega) (by
   show zg .run ((s.wr (.mark f) (0+1)).mem (.bot i))<=_;rw[kq pQ];exact hb) (λhc=>by have:=h.c i hi hc;omega) trivial trivial
  rw[w5,w5,AQ]at this;exact this
 case fork c =>
  exact h.q hi hp 1 rfl hb (λx hx=>pY (a:=(.join _)) rfl x hx)
 case nP =>
  exact h.q hi hp 1 rfl hb (λx hx=>pY (a:=(.join _)) rfl x hx)
 case out p c =>
  split
  ·exact h.q hi hp 0 rfl hb (λx hx=>pY (a:=(.join p)) rfl x hx)
  ·exact h.q hi hp 0 rfl hb (λx hx=>pY (a:=(.join p)) rfl x hx)
 case take p c =>
  exact h.q hi hp 0 rfl hb (λx hx=>pY (a:=(.join p)) rfl x hx)
 case done =>
  exact h.tel hi rfl rfl rfl (λx hx=>pY (a:=.E5) rfl x hx) (by rw[hp];rfl) hb
 case tell j =>
  split
  ·exact h.q hi hp 0 rfl hb (λx hx=>pY (a:=(.flag j)) rfl x hx)
  ·exact h.tel hi rfl rfl rfl (λ_ _=>rfl) (by rw[hp];rfl) hb
 case xA j =>
  exact h.tel hi rfl rfl rfl (λx hx=>pY (a:=.tW) rfl x hx) (by rw[hp];rfl) hb
 case zP c =>
  exact h.q hi hp 1 rfl hb
 case yc c b =>
  exact h.q hi hp 1 rfl hb (ht:=hT)
 case q9 c b t =>
  exact h.q hi hp 1 rfl hb (ht:=ht)
 case rf c b t =>
  split
  ·exact h.q hi hp 1 rfl hb
  ·split
   ·exact h.q hi hp 1 rfl (by simp only[zg];omega)
   ·exact h.q hi hp 1 rfl hb (ht:=ht)
 case grow c b t cc =>
  exact h.q hi hp 1 rfl hb (λx hx=>by cases x<;>first | rfl | cases hx) (ht:=ht)
 case mS c b t cc =>
  exact h.q hi hp 1 rfl hb (λx hx=>pY (a:=(.cap i _)) rfl x hx) (ht:=ht)
 case kP c b t cc n =>
  exact h.q hi hp 1 rfl hb (ht:=ht)
 case j8 c b t cc n x =>
  obtain⟨g1,g2,g3,g4,g5⟩:=hD;by_cases e:n+1<b
  ·rw[aM e];exact h.q hi hp 1 rfl hb (λx hx=>pY (a:=(.el i _ _)) rfl x hx) (ht:=ht)
  ·rw[bZ e];exact h.q hi hp 1 rfl hb (λx hx=>pY (a:=(.el i _ _)) rfl x hx) (ht:=ht)
 case mT c b t cc =>
  obtain⟨g1,g2⟩:=hD;obtain⟨q1,q2,q3,q4,q5,q6,q7⟩:=g1;have q1:s.mem (.bot i)=b:=q1;have:=h.up hi (s':={s.wr (.buf i) (s.base i (s.cur i+1))with cur:=bJ s.cur i (s.cur i+1)}.to i (.jV c b (iY C cc))) (p:=.jV c b (iY C cc)) (s.cur i+1) 0 1 0 0 rfl rfl rfl (by
   rw[w5];exact LJ (s:=s) (λf=>by show(s.wr (.buf i) (s.base i (s.cur i+1))).mem (.mark f)=s.mem (.mark f);exact kq pQ) (ja _)) (λj hj=>by show(s.wr (.buf i) (s.base i (s.cur i+1))).mem (.bot j)=s.mem (.bot j);exact kq pQ) (by
   rw[hp];simp only[yt,gp,sg];omega) (by
   show zg (.jV c b (iY C cc)) ((s.wr (.buf i) (s.base i (s.cur i+1))).mem (.bot i))<=_;rw[kq pQ];exact hb) (λ_=>by rw[Nat.add_sub_cancel];omega) trivial trivial
  simp only[w5,AQ]at this;exact this
 case jV c b cc =>
  exact h.q hi hp 1 rfl hb (λx hx=>pY (a:=(.el i _ _)) rfl x hx)
 case n7 c b =>
  obtain⟨g1,g2⟩:=hD;have g1:s.mem (.bot i)=b:=g1;exact h.wb (p:=.DQ) (v:=b+1) hi 1 rfl rfl rfl rfl (by rw[hp];simp only[yt,gp];omega) (by simp only[zg];omega) trivial trivial
 case DQ =>
  by_cases e:0<s.mem .tW/\1<C.N
  ·rw[aM e];obtain⟨d1,d2⟩:=PK hi e.2;exact h.q hi hp 1 rfl hb (hw:=⟨Vn hi i,d2⟩)
  ·rw[bZ e];exact h.q hi hp 1 rfl hb
 case sW j =>
  have dp:=Vp hi hw.1 hw.2;split
  ·exact h.q hi hp 1 rfl hb (λx hx=>pY (a:=(.flag j)) rfl x hx)
  ·by_cases e:Gw C j=i
   ·rw[aM e];exact h.q hi hp 1 rfl hb
   ·rw[bZ e];have dn:=Vo hi hw.1 hw.2 e;exact h.q hi hp 1 rfl hb (hw:=⟨Vn hi j,e⟩)
 case vm j =>
  exact h.q hi hp 1 rfl hb (λx hx=>pY (a:=.tW) rfl x hx)
 case Bw =>
  exact h.q hi hp 0 rfl hb
 case wV b =>
  exact h.q hi hp 0 rfl hb
 case rJ b =>
  obtain⟨g1,g2⟩:=hD;have g1:s.mem (.bot i)=b+1:=g1;exact h.wb (p:=.AB b) (v:=b) hi 0 rfl rfl rfl rfl (by rw[hp];simp only[yt,gp];omega) (by simp only[zg];omega) trivial trivial
 case AB b =>
  obtain⟨g1,g2,g3⟩:=hD;have g2:s.mem (.top i)+s.L i=b+1:=g2;have g4:0<=s.L i:=Int.natCast_nonneg _;split
  ·exact h.q hi hp 0 rfl hb
  ·split
   ·exact h.q hi hp 0 rfl hb
   ·exact h.q hi hp 0 rfl (by simp only[zg];omega)
 case pM t =>
  exact h.Yw hi (v:=t) rfl rfl rfl rfl (by rw[hp];rfl) hb
 case tP b t =>
  exact h.q hi hp 0 rfl hb
 case pS b t cc =>
  obtain⟨⟨g1,g2⟩,g3⟩:=hD;have g1:s.mem (.bot i)=b:=g1;split
  ·exact h.q hi hp 0 rfl (by simp only[zg];omega)
  ·exact h.q hi hp 0 rfl hb
 case sP b t x =>
  obtain⟨g1,g2,g3⟩:=hD;split
  ·exact h.q hi hp 0 rfl (by simp only[zg];omega) (λx hx=>pY (a:=(.top i)) rfl x hx)
  ·exact h.q hi hp 0 rfl (by simp only[zg];omega)
 case qa t x Al =>
  split
  ·exact h.wb (p:=.start (-1)) (v:=t+1) hi 0 rfl rfl rfl rfl (by rw[hp];simp only[yt,gp];omega) hb trivial trivial
  ·exact h.Yw hi (v:=t+1) rfl rfl rfl rfl (by rw[hp];rfl) hb
 case jQ =>
  exact h.q hi hp 0 rfl hb
 case vU v t =>
  split
  ·exact h.q hi hp 0 rfl hb
  ·exact h.q hi hp 0 rfl hb
 case rK v t =>
  exact h.q hi hp 0 rfl hb
 case qB v t g =>
  exact h.q hi hp 0 rfl hb
 case n8 v t g cc =>
  exact h.q hi hp 0 rfl hb
 case ny v t x =>
  split
  ·exact h.q hi hp 0 rfl hb (λx hx=>pY (a:=(.top v)) rfl x hx)
  ·exact h.q hi hp 0 rfl hb
 case EL =>
  split
  ·exact h.q hi hp 0 rfl hb
  ·split
   ·exact h.q hi hp 0 rfl hb
   ·exact h.q hi hp 0 rfl hb
 case flag =>
  exact h.q hi hp 0 rfl hb (λx hx=>pY (a:=(.flag i)) rfl x hx)
 case sleep =>
  exact h.q hi hp 0 rfl hb (λx hx=>pY (a:=.tW) rfl x hx)
 case vn =>
  split
  ·exact h.q hi hp 0 rfl hb
  ·exact h.lok hi (by rw[hp];rfl) hb
 case Dp j =>
  exact h.q hi hp 0 rfl hb
 case Dq j t =>
  split
  ·exact h.q hi hp 0 rfl hb
  ·exact h.lok hi (by rw[hp];rfl) hb
 case parked =>
  split
  ·exact h
  ·exact h.yZ hi (s0:=s.tQ i 0) rfl rfl rfl rfl (λ_ _=>rfl) (by rw[hp];rfl) hb
 case back b =>
  split
  ·exact h.q hi hp 0 rfl hb (λx hx=>pY (a:=(.flag i)) rfl x hx)
  ·exact h.awa hi rfl rfl rfl (λ_ _=>rfl) (by rw[hp];rfl) hb
 case v8 b =>
  exact h.awa hi rfl rfl rfl (λx hx=>pY (a:=.tW) rfl x hx) (by rw[hp];rfl) hb
theorem CI.i1(h:CI C s pu H afW)(hi:i<C.N)(hp:s.pc i= .run){s':St}(p:Pc)(h1:s'.pc=bJ s.pc i p)(h2:s'.cur=s.cur)(h3:s'.nf=s.nf)(hm:∀x:tF,x.mb=true->s'.mem x=s.mem x)
 (hr:yt C i p<=1) (hb:zg p (s.mem (.bot i))<=pu i) (ht:LI p) (hw:wt C i p):CI C s' pu (H+1) (afW+1):=by
 have:=h.up hi (s.cur i) 0 1 1 0 h1 (by rw[h2,AQ]) h3 (by have:=LJ (s:=s) (s':=s') (λf=>hm _ rfl) I;omega) (λj _=>hm _ rfl) (by rw[hp,show yt C i .run=0 from rfl,show gp .run=0 from rfl];omega) (by rw[hm (.bot i) rfl];simpa using hb) (λhc=>by have:=h.c i hi hc;omega) ht hw;rw[w5,AQ]at this;exact this
theorem CI.ins(h:CI C s pu H afW)(hi:i<C.N)(hp:s.pc i= .run) :∃pu',CI C (instr C s i).s pu' (H+1) (afW+1):=by
 have hb:=h.b i hi;rw[hp]at hb;have hb:s.mem (.bot i)<=pu i:=hb;have hr:s.pc=bJ s.pc i .run:=by rw[<-hp,AQ]
 unfold Am.instr;simp only;split
 ·exact⟨pu,h.i1 hi hp .run hr rfl rfl (λ_ _=>rfl) (by simp[yt]) hb trivial trivial⟩
 ·exact⟨pu,h.i1 hi hp .run hr rfl rfl (λ_ _=>rfl) (by simp[yt]) hb trivial trivial⟩
 ·exact⟨pu,h.i1 hi hp .run hr rfl rfl (λ_ _=>rfl) (by simp[yt]) hb trivial trivial⟩
 ·exact⟨pu,h.i1 hi hp .run hr rfl rfl (λ_ _=>rfl) (by simp[yt]) hb trivial trivial⟩
 ·exact⟨pu,h.i1 hi hp .run hr rfl rfl (λ_ _=>rfl) (by simp[yt]) hb trivial trivial⟩
 ·exact⟨pu,h.i1 hi hp .run hr rfl rfl (λ_ _=>rfl) (by simp[yt]) hb trivial trivial⟩
 ·exact⟨pu,h.i1 hi hp .run hr rfl rfl (λ_ _=>rfl) (by simp[yt]) hb trivial trivial⟩
 ·rename_i sl g c hc;split
  ·exact⟨pu,h.i1 hi hp .full rfl rfl rfl (λx hx=>pY (a:=.next) rfl x hx) (by simp[yt]) hb trivial trivial⟩
  ·refine⟨_,h.up hi (p:=.fork s.nf) (s.cur i) 1 1 1 0 rfl (by rw[AQ];rfl) rfl ?_ (λj _=>pY (a:=.next) (v:=s.mem .next+1) (s:=s) rfl (.bot j) rfl) (by rw[hp];simp only[yt,gp];omega) ?_ (λhc=>by have:=h.c i hi hc;omega) trivial trivial⟩
   ·rw[w5];exact LJ (s:=s) (λf=>pY (a:=.next) (v:=s.mem .next+1) (s:=s) rfl (.mark f) rfl) (Nat.le_succ _)
   ·show zg (.fork s.nf) ((s.wr .next (s.mem .next+1)).mem (.bot i))<=_;rw[pY (a:=.next) rfl (.bot i) rfl];simp only[zg];omega
 ·split
  ·exact⟨pu,h.i1 hi hp .Bw rfl rfl rfl (λx hx=>pY (a:=.join _) rfl x hx) (by simp[yt]) hb trivial trivial⟩
  ·exact⟨pu,h.i1 hi hp .nP rfl rfl rfl (λx hx=>pY (a:=.join _) rfl x hx) (by simp[yt]) hb trivial trivial⟩
 ·split
  ·exact⟨pu,h.i1 hi hp .done rfl rfl rfl (λx hx=>pY (a:=.result) rfl x hx) (by simp[yt]) hb trivial trivial⟩
  ·exact⟨pu,h.i1 hi hp (.out _ _) rfl rfl rfl (λx hx=>pY (a:=.slot _ _) rfl x hx) (by simp[yt]) hb trivial trivial⟩
theorem CI.aC(h:CI C s pu H afW)(hz:SZ C s)(hd:DT C s)(hf:(view s).FI C.N C.F)(hi:i<C.N)(h0:s.pc i≠.full)(d:Int) :
 ∃pu',CI C (aC C s i d).s pu' (H+if busy (sig (s.pc i))=true then 1 else 0) (afW+if s.pc i= .run then 1 else 0):=by
 by_cases e:s.pc i= .run
 ·obtain⟨pu',h'⟩:=h.ins hi e;refine⟨pu',?_⟩;rw[aM e];have:busy (sig (s.pc i))=true:=by rw[e];rfl
  rw[aM this];unfold Am.aC;rw[e];exact h'
 ·rw[bZ e];exact⟨pu,h.side hz hd hf hi h0 e d⟩
theorem CI.all(h:CI C s pu H afW)(hz:SZ C s)(hd:DT C s)(hm:∀f,s.mem (.mark f)<=1):H<=2*afW+(C.N+16)*s.nf:=by
 have h1:=h.h;have h2:F4 s<=s.nf*1:=Lo (λj _=>by have:=hm j;omega);have h3:∀n,n<=C.N->fU (λj=>(C.N+11)*pu j+(2*sg C (s.cur j)+gp (s.pc j))) n<=(C.N+15)*fU pu n:=by
  intro n
  induction n with
  | zero=>intro _;exact xM _
  | succ n ih =>
   intro hn;have:=ih I;have:=h.acY hz hd n I;simp only[fU];rw[Nat.mul_add];have e:(C.N+15)*pu n=(C.N+11)*pu n+4*pu n:=by rw[<-uB]
   omega
 have h4:=h3 C.N (ja _);have h5:=h.pn;have h6:(C.N+15)*fU pu C.N<=(C.N+15)*s.nf:=Nat.mul_le_mul_left _ I;have h7:(C.N+16)*s.nf=(C.N+15)*s.nf+s.nf:=by rw[show C.N+16=C.N+15+1 by omega,uB,Nat.one_mul]
 omega
end
section
variable {C:jt}{s:St}{i:Nat}{H afW:Nat}
theorem D1{s':St}(hm:∀f,s'.mem (.mark f)=s.mem (.mark f))(hn:s'.nf=s.nf):F4 s'=F4 s:=by
 unfold F4;rw[hn];exact pP (λj _=>by show(s'.mem (.mark j)).toNat=_;rw[hm])
theorem Vq(h0:s.pc i≠.run)(h1:∀x,s.pc i≠.start x)(d:Int):F4 (aC C s i d).s=F4 s:=by
 cases hp:s.pc i<;>unfold Am.aC<;>rw[hp]<;>simp only
 case run=>exact absurd hp h0
 case start x=>exact absurd hp (h1 x)
 case grow c b t cc=>exact D1 (λf=>rfl) rfl
 case mT c b t cc=>exact D1 (λf=>by show(s.wr (.buf i) (s.base i (s.cur i+1))).mem (.mark f)=s.mem (.mark f);exact kq pQ) rfl
 all_goals (try unfold lU)
 all_goals (try unfold looking)
 all_goals (try unfold yp)
 all_goals (try split)
 all_goals (try unfold yZ)
 all_goals (try split)
 all_goals (first | rfl | exact D1 (λf=>rfl) rfl | exact D1 (λf=>kq pQ) rfl)
theorem Si(hf:(view s).FI C.N C.F)(hi:i<C.N){x:Int}(hp:s.pc i= .start x)(d:Int):F4 (aC C s i d).s=F4 s+1:=by
 obtain⟨f,hh⟩:=n9 hf hi (by rw[hp];rfl);have hn:f<s.nf:=tH hf hi hh;have h0:s.mem (.mark f)=0:=hf.y9 i f hi (by show sig (s.pc i)=_;rw[hp];rfl) hh;have ZZ:(s.hold i).getD 0=f:=by rw[hh];rfl
 unfold Am.aC;rw[hp];simp only;rw[ZZ,h0];unfold F4;exact nW (f:=λf=>(s.mem (.mark f)).toNat) (g:=λg=>(((s.wr (.mark f) (0+1)).to i .run).mem (.mark g)).toNat) (i:=f) (k:=1) (n:=s.nf) hn (λj hj=>by
  show((s.wr (.mark f) (0+1)).mem (.mark j)).toNat=_;rw[kq (by intro e;injection e with e;exact hj e)]) (by
  show(bJ s.mem (.mark f) (0+1) (.mark f)).toNat=(s.mem (.mark f)).toNat+1;rw[aF,h0];rfl)
theorem XE(hf:(view s).FI C.N C.F):F4 (instr C s i).s=F4 s:=by
 unfold Am.instr;simp only;split
 case h_8 sl g c hc =>
  split
  ·exact D1 (λf=>pY (a:=.next) (v:=s.mem .next+1) (s:=s) rfl (.mark f) rfl) rfl
  ·have h0:s.mem (.mark s.nf)=0:=hf.zR s.nf (by
    have:=hf.free s.nf (ja _);show early (s.loc s.nf)=true;have:s.loc s.nf= .free:=this;rw[this];rfl)
   show fU _ (s.nf+1)=_;simp only[fU];have e:∀f,(s.wr .next (s.mem .next+1)).mem (.mark f)=s.mem (.mark f):=λf=>pY (a:=.next) rfl (.mark f) rfl;show fU (λf=>((s.wr .next (s.mem .next+1)).mem (.mark f)).toNat) s.nf+((s.wr .next (s.mem .next+1)).mem (.mark s.nf)).toNat=F4 s;rw[e,h0,pP (g:=λf=>(s.mem (.mark f)).toNat) (λj _=>by show((s.wr .next (s.mem .next+1)).mem (.mark j)).toNat=_;rw[e])]
   rfl
 all_goals (try split)
 all_goals (first | rfl | exact D1 (λf=>rfl) rfl | exact D1 (λf=>kq pQ) rfl)
theorem XF(h:afW+F4 s<=H)(hf:(view s).FI C.N C.F)(hi:i<C.N)(d:Int):(afW+if s.pc i= .run then 1 else 0)+F4 (aC C s i d).s<=H+if busy (sig (s.pc i))=true then 1 else 0:=by
 by_cases e:s.pc i= .run
 ·have:busy (sig (s.pc i))=true:=by rw[e];rfl
  rw[aM e,aM this];have:F4 (aC C s i d).s=F4 s:=by unfold Am.aC;rw[e];exact XE hf
  omega
 ·rw[bZ e];by_cases e1 :∃x,s.pc i= .start x
  ·obtain⟨x,e1⟩:=e1;have:busy (sig (s.pc i))=true:=by rw[e1];rfl
   rw[aM this,Si hf hi e1 d];omega
  ·rw[Vq e (λx hx=>e1 ⟨x,hx⟩) d];omega
end
section
variable {C:jt}
theorem LK{g:Nat}{pd:Int}{x:TS}{a:Nat}(h:C.code g x.J= .ret a):Bh C g pd x=none:=by unfold Bh;simp only[h]
theorem FN{g:Nat}{pd:Int}{x:TS}{s f c:Nat}(h:C.code g x.J= .spawn s f c):Bh C g pd x=none:=by unfold Bh;simp only[h]
theorem Pre.first{g:Nat}{pd:Int}{d:Nat}{x z:TS}{n t:Nat}(h:Pre C g pd d x z n t) :
 (x=z/\n=0/\t=0)∨(∃y n',Am.Bh C g pd x=some y/\Pre C g pd d y z n' t/\n=n'+1)∨
 (∃s f c y n1 t1 a n' t',C.code g x.J= .spawn s f c/\d<4096/\Pre C f (C.pd pd x.bt) (d+1) (XB (arg C x.bw f c)) y n1 t1/\C.code f y.J= .ret a/\
  Pre C g pd d {x with J:=x.J+1,sl:=bJ x.sl s (y.bw a),bt:=x.bt+1} z n' t'/\n=n'+1+(n1+1)/\t=t'+(t1+1)):=by
 induction h with
 | nil=>exact .inl ⟨rfl,rfl,rfl⟩
 | Bh h e ih =>
  rename_i y z n t;rcases ih with ⟨i1,i2,i3⟩ | ⟨y',n',i1,i2,i3⟩ | ⟨s,f,c,y',n1,t1,a,n',t',i1,i2,i3,i4,i5,i6,i7⟩
  ·subst i1;exact .inr (.inl ⟨z,0,e,by rw[i3];exact Pre.nil _ _ _ _,I⟩)
  ·exact .inr (.inl ⟨y',n'+1,i1,Pre.Bh i2 e,I⟩)
  ·exact .inr (.inr ⟨s,f,c,y',n1,t1,a,n'+1,t',i1,i2,i3,i4,Pre.Bh i5 e,I,i7⟩)
 | spawn h e hd h1 e1 ih Tz =>
  rename_i y z n t s f c n1 t1 a;rcases ih with ⟨i1,i2,i3⟩ | ⟨y',n',i1,i2,i3⟩ | ⟨s',f',c',y',n1',t1',a',n',t',i1,i2,i3,i4,i5,i6,i7⟩
  ·subst i1;exact .inr (.inr ⟨s,f,c,z,n1,t1,a,0,0,e,hd,h1,e1,Pre.nil _ _ _ _,I,I⟩)
  ·exact .inr (.inl ⟨y',n'+1+(n1+1),i1,Pre.spawn i2 e hd h1 e1,I⟩)
  ·exact .inr (.inr ⟨s',f',c',y',n1',t1',a',n'+1+(n1+1),t'+(t1+1),i1,i2,i3,i4,Pre.spawn i5 e hd h1 e1,I,I⟩)
theorem Pre.cmp{g:Nat}{pd:Int}{d:Nat}{x y:TS}{n t:Nat}(h:Pre C g pd d x y n t):∀{z:TS} {N T a:Nat},Pre C g pd d x z N T->C.code g z.J= .ret a->∃N' T',Pre C g pd d y z N' T'/\N=n+N'/\T=t+T':=by
 induction h with
 | nil=>intro z N T a q _;exact⟨N,T,q,I,I⟩
 | Bh h e ih =>
  intro z N T a q hz;obtain⟨N',T',q',e1,e2⟩:=ih q hz;rcases q'.first with ⟨i1,i2,i3⟩ | ⟨y',n',i1,i2,i3⟩ | ⟨s,f,c,y',n1,t1,a',n',t',i1,i2,i3,i4,i5,i6,i7⟩
  ·subst i1;rw[LK hz]at e;cases e
  ·rw[i1]at e;cases e;exact⟨n',T',i2,I,e2⟩
  ·rw[FN i1]at e;cases e
 | spawn h e hd h1 e1 ih Tz =>
  intro z N T a q hz;obtain⟨N',T',q',q1,q2⟩:=ih q hz;rcases q'.first with ⟨i1,i2,i3⟩ | ⟨y',n',i1,i2,i3⟩ | ⟨s',f',c',y',n1',t1',a',n',t',i1,i2,i3,i4,i5,i6,i7⟩
  ·subst i1;rw[hz]at e;cases e
  ·rw[FN e]at i1;cases i1
  ·rw[e]at i1;cases i1;obtain⟨M,U,r,r1,r2⟩:=Tz i3 i4;rcases r.first with ⟨j1,j2,j3⟩ | ⟨y2,n2,j1,j2,j3⟩ | ⟨s2,f2,c2,y2,n2,t2,a2,n3,t3,j1,j2⟩
   ·subst j1;rw[e1]at i4;cases i4;exact⟨n',t',i5,I,I⟩
   ·rw[LK e1]at j1;cases j1
   ·rw[e1]at j1;cases j1
theorem Dn.one{D:LY}{r r':Int×Nat×Nat}(h:Dn C D r)(h':Dn C D r'):r=r':=by
 obtain⟨z,a,n,t,Y,p2,rfl⟩:=h;obtain⟨z',a',n',t',q1,q2,rfl⟩:=h';obtain⟨M,U,r,r1,r2⟩:=Y.cmp q1 q2;rcases r.first with ⟨j1,j2,j3⟩ | ⟨y2,n2,j1,j2,j3⟩ | ⟨s2,f2,c2,y2,n2,t2,a2,n3,t3,j1,j2⟩
 ·subst j1;rw[p2]at q2;cases q2;rw[r1,r2,j2,j3]
 ·rw[LK p2]at j1;cases j1
 ·rw[p2]at j1;cases j1
theorem Dn.bW{D:LY}{r:Int×Nat×Nat}(h:Dn C D r){y:TS}{n t s f c:Nat}(p:Pre C D.fn D.k8 D.dp (XB D.a0) y n t)(e:C.code D.fn y.J= .spawn s f c) :
 ∃r',Dn C ⟨f,C.pd D.k8 y.bt,D.dp+1,arg C y.bw f c⟩ r':=by
 obtain⟨z,a,N,T,q1,q2,rfl⟩:=h;obtain⟨M,U,r,r1,r2⟩:=p.cmp q1 q2;rcases r.first with ⟨j1,j2,j3⟩ | ⟨y2,n2,j1,j2,j3⟩ | ⟨s2,f2,c2,y2,n2,t2,a2,n3,t3,j1,j2,j3,j4,j5⟩
 ·subst j1;rw[q2]at e;cases e
 ·rw[FN e]at j1;cases j1
 ·rw[e]at j1;cases j1;exact⟨_,y2,a2,n2,t2,j3,j4,rfl⟩
theorem Dn.le{D:LY}{v:Int}{afU T:Nat}(h:Dn C D (v,afU,T)){y:TS}{n t:Nat}(p:Pre C D.fn D.k8 D.dp (XB D.a0) y n t):n+1<=afU/\t+1<=T:=by
 obtain⟨z,a,N,T',q1,q2,e⟩:=h;injection e with e1 e2
 injection e2 with e2 e3
 obtain⟨M,U,r,r1,r2⟩:=p.cmp q1 q2;omega
end
def lv(s:St)(f:Nat):Nat:=if live (s.loc f)=true then 1 else 0
structure WS(C:jt)(s:St)(γ:SG)(afW:Nat):Prop where
 w:fU γ.wk s.nf+(1-lv s 0)=afW
 t:fU γ.tk s.nf+fU (lv s) s.nf+(1-lv s 0)=s.nf
 z:∀f,f<s.nf->f≠0->live (s.loc f)=false->γ.wk f=0/\γ.tk f=0
 y:∀f x c,γ.pn f x=some c->live (s.loc f)=true
 e:∀f,f<s.nf->live (s.loc f)=true->∃r,Dn C (γ.ds f) r
def WN(C:jt)(s s':St)(γ γ':SG)(k:Nat):Prop:=∀afW,WS C s γ afW->WS C s' γ' (afW+k)
section
variable {C:jt}{φ:NQ C}{s:St}{i:Nat}{σ:Nat->Nat->Nat}{D0:LY}{γ:SG}{g:Nat}
theorem GZ{s':St}(hl:∀f,live (s'.loc f)=live (s.loc f)):lv s'=lv s:=funext λf=>by unfold lv;rw[hl]
theorem WN.same{s':St}(hn:s'.nf=s.nf)(hl:∀f,live (s'.loc f)=live (s.loc f)):WN C s s' γ γ 0:=λafW h=>⟨by rw[hn,GZ hl];exact h.w,by rw[hn,GZ hl];exact h.t,λf hf h0 hd=>h.z f (hn▸ hf) h0 (by rw[<-hl];exact hd),λf x c e=>by rw[hl];exact h.y f x c e,λf hf hlf=>h.e f (hn▸ hf) (by rw[<-hl];exact hlf)⟩
theorem WN.inc{s':St}{f:Nat}(hf:f<s.nf)(hv:live (s.loc f)=true)(hn:s'.nf=s.nf)(hl:∀f,live (s'.loc f)=live (s.loc f)):WN C s s' γ {γ with wk:=bJ γ.wk f (γ.wk f+1)} 1:=λafW h=>by
 refine⟨?_,by rw[hn,GZ hl];exact h.t,λk hk h0 hd => ?_,λk x c e=>by rw[hl];exact h.y k x c e,λk hk hlk=>h.e k (hn▸ hk) (by rw[<-hl];exact hlk)⟩
 rotate_left
 ·rw[hl]at hd;obtain⟨a,b⟩:=h.z k (hn▸ hk) h0 hd;exact⟨by show bJ γ.wk f _ k=0;rw[aA (λe=>by subst e;rw[hv]at hd;cases hd)];exact a,b⟩
 rw[hn,GZ hl];have:=nW (f:=γ.wk) (g:=bJ γ.wk f (γ.wk f+1)) (k:=1) hf (λj hj=>aA hj) (aF _ _ _);have:=h.w;show fU (bJ γ.wk f (γ.wk f+1)) s.nf+_=_;omega
theorem WN.spawn{s':St}{f sl g0 c0:Nat}(hc:C.code (s.fr f).fn (s.fr f).J= .spawn sl g0 c0)(D7:ze C s f)(h:SI C D0 s γ g)(hf:f<s.nf)(hv:live (s.loc f)=true)(hn:s'.nf=s.nf+1)(hl:s'.loc=bJ s.loc s.nf (.bW i)):WN C s s' γ {pn:=bJ γ.pn f (bJ (γ.pn f) sl (some s.nf)),ds:=bJ γ.ds s.nf ⟨g0,C.pd (s.fr f).k8 (s.fr f).bt,(γ.ds f).dp+1,arg C (s.fr f).bw g0 c0⟩,wk:=bJ γ.wk f (γ.wk f+1),tk:=γ.tk} 1:=λafW w=>by
 obtain⟨z1,z2,z3,z4⟩:=h.z s.nf (ja _);have e0:lv s' 0=lv s 0:=by unfold lv;rw[hl,aA I]
 have e1:fU (lv s') s.nf=fU (lv s) s.nf:=pP (λj hj=>by unfold lv;rw[hl,aA I]);have e2:lv s' s.nf=1:=by unfold lv;rw[hl,aF];rfl
 have e3:=nW (f:=γ.wk) (g:=bJ γ.wk f (γ.wk f+1)) (k:=1) hf (λj hj=>aA hj) (aF _ _ _);have e4:bJ γ.wk f (γ.wk f+1) s.nf=0:=by rw[aA I];exact z2
 have a:=w.w;have b:=w.t;refine⟨?_,?_,λk hk h0 hd => ?_,λk x c e => ?_,λk hk hlk => ?_⟩
 ·rw[hn,e0];show fU (bJ γ.wk f (γ.wk f+1)) s.nf+bJ γ.wk f (γ.wk f+1) s.nf+_=_;omega
 ·rw[hn,e0];show fU γ.tk s.nf+γ.tk s.nf+(fU (lv s') s.nf+lv s' s.nf)+_=_;omega
 ·have hk':k≠s.nf:=λe=>by rw[hl,e,aF]at hd;cases hd
  rw[hl,aA hk']at hd;obtain⟨a,b⟩:=w.z k I h0 hd;exact⟨by show bJ γ.wk f _ k=0;rw[aA (λe=>by subst e;rw[hv]at hd;cases hd)];exact a,b⟩
 ·have e:bJ γ.pn f (bJ (γ.pn f) sl (some s.nf)) k x=some c:=e;rw[hl];by_cases ek:k=f
  ·subst ek;rw[aA I];exact hv
  ·rw[aA ek]at e;have:=w.y k x c e;rw[aA (λe'=>by subst e';rw[z4]at e;cases e)];exact this
 ·by_cases ek:k=s.nf
  ·subst ek;show∃r,Dn C (bJ γ.ds s.nf _ s.nf) r;rw[aF];have ch:∀c,∃r,∀x,γ.pn f x=some c->Dn C (γ.ds c) r:=λc=>by
    by_cases e :∃x,γ.pn f x=some c
    ·obtain⟨x,e⟩:=e;obtain⟨c1,c2,c3,c4,c5⟩:=h.pn f x c e;obtain⟨r,hr⟩:=w.e c c2 c5;exact⟨r,λ_ _=>hr⟩
    ·exact⟨(0,0,0),λx hx=>absurd ⟨x,hx⟩ e⟩
   obtain⟨R,hR⟩:=Classical.axiomOfChoice ch;have A:=h.A f hf hv D7 R (λx c e=>hR c x e);obtain⟨r,hr⟩:=w.e f hf hv;have hD:=h.D f hf;have:=hr.bW A (by rw[hD.1];exact hc);rw[hD.2.1]at this;exact this
  ·have hk':k<s.nf:=by omega
   show∃r,Dn C (bJ γ.ds s.nf _ k) r;rw[aA ek];exact w.e k hk' (by rw[hl,aA ek]at hlk;exact hlk)
theorem WN.ret{s':St}{f p q:Nat}{l:Loc}(hk:∀x,γ.pn f x=none)(Ps:γ.pn p q=some f)(h0:f≠0)(hf:f<s.nf)(hp:p<s.nf)(hne:p≠f)(hv:live (s.loc f)=true)(hn:s'.nf=s.nf)(hl:s'.loc=bJ s.loc f l)(hd:live l=false) :
 WN C s s' γ {pn:=bJ γ.pn p (bJ (γ.pn p) q none),ds:=γ.ds,wk:=bJ (bJ γ.wk p (γ.wk p+(γ.wk f+1))) f 0,tk:=bJ (bJ γ.tk p (γ.tk p+(γ.tk f+1))) f 0} 1:=λafW w=>by
 have e0:lv s' 0=lv s 0:=by unfold lv;rw[hl,aA (Ne.symm h0)]
 have e1:=AP (f:=lv s) (g:=lv s') hf (λj hj=>by unfold lv;rw[hl,aA hj]);have e2:lv s f=1:=by unfold lv;rw[hv];rfl
 have e3:lv s' f=0:=by unfold lv;rw[hl,aF,hd];rfl
 have two:∀q:Nat->Nat,fU (bJ (bJ q p (q p+(q f+1))) f 0) s.nf=fU q s.nf+1:=λq=>by
  have a:=nW (f:=q) (g:=bJ q p (q p+(q f+1))) (k:=q f+1) hp (λj hj=>aA hj) (aF _ _ _);have b:=AP (f:=bJ q p (q p+(q f+1))) (g:=bJ (bJ q p (q p+(q f+1))) f 0) hf (λj hj=>aA hj);rw[aF,aA (Ne.symm hne)]at b;omega
 have a:=w.w;have b:=w.t;refine⟨?_,?_,λk hk' Ww hdd => ?_,λk x c e => ?_,λk hk' hlk=>w.e k (hn▸ hk') (by rw[hl]at hlk;by_cases ek:k=f;(· subst ek;exact hv);rw[aA ek]at hlk;exact hlk)⟩
 ·rw[hn,e0];show fU (bJ (bJ γ.wk p _) f 0) s.nf+_=_;rw[two];omega
 ·rw[hn,e0];show fU (bJ (bJ γ.tk p _) f 0) s.nf+_+_=_;rw[two];omega
 ·by_cases ek:k=f
  ·subst ek;exact⟨aF _ _ _,aF _ _ _⟩
  ·rw[hl,aA ek]at hdd;obtain⟨a,b⟩:=w.z k (hn▸ hk') Ww hdd;have kp:k≠p:=λe=>by subst e;rw[w.y _ _ _ Ps]at hdd;cases hdd
   exact⟨by show bJ (bJ γ.wk p _) f 0 k=0;rw[aA ek,aA kp];exact a,by show bJ (bJ γ.tk p _) f 0 k=0;rw[aA ek,aA kp];exact b⟩
 ·have e:bJ γ.pn p (bJ (γ.pn p) q none) k x=some c:=e;have old :∃x c,γ.pn k x=some c:=by
   by_cases ek:k=p
   ·subst ek;exact⟨_,_,Ps⟩
   ·rw[aA ek]at e;exact⟨_,_,e⟩
  obtain⟨x',c',e'⟩:=old;rw[hl,aA (λe2=>by subst e2;rw[hk]at e';cases e')];exact w.y _ _ _ e'
theorem WN.root{s':St}{l:Loc}(hk:∀x,γ.pn 0 x=none)(hf:0<s.nf)(hv:live (s.loc 0)=true)(hn:s'.nf=s.nf)(hl:s'.loc=bJ s.loc 0 l)(hd:live l=false):WN C s s' γ γ 1:=λafW w=>by
 have e1:=AP (f:=lv s) (g:=lv s') hf (λj hj=>by unfold lv;rw[hl,aA hj]);have e2:lv s 0=1:=by unfold lv;rw[hv];rfl
 have e3:lv s' 0=0:=by unfold lv;rw[hl,aF,hd];rfl
 have a:=w.w;have b:=w.t;exact⟨by rw[hn,e3];omega,by rw[hn,e3];omega,λk hk' h0 hdd=>w.z k (hn▸ hk') h0 (by rw[hl,aA h0]at hdd;exact hdd),λk x c e=>by rw[hl,aA (λe2=>by subst e2;rw[hk]at e;cases e)];exact w.y k x c e,λk hk' hlk=>w.e k (hn▸ hk') (by rw[hl]at hlk;by_cases ek:k=0;(· subst ek;exact hv);rw[aA ek]at hlk;exact hlk)⟩
theorem SI.JM{s':St}(h:SI C D0 s γ g)(h1:s'.fr=s.fr)(h2:s'.nf=s.nf)(hm:∀f x,s'.mem (.slot f x)=s.mem (.slot f x))(hl:∀f,live (s'.loc f)=live (s.loc f))
 (hp:∀j,s.pc j= .full->s'.pc j= .full/\s'.hold j=s.hold j):SI C D0 s' γ (g+1)/\WN C s s' γ γ 0:=⟨h.of h1 h2 hm hl hp,WN.same h2 hl⟩
theorem SI.aao(hC:C.OK)(h:SI C D0 s γ g)(hs:SL C φ s σ)(hr:FR C s)(hf:(view s).FI C.N C.F)(hi:i<C.N)(hp:s.pc i= .run) :
 (∃γ',SI C D0 (Am.instr C s i).s γ' (g+1)/\((Am.instr C s i).s.pc i≠.full->WN C s (Am.instr C s i).s γ γ' 1))/\Rt C D0 g (Am.instr C s i).ev:=by
 obtain⟨f,hh⟩:=n9 hf hi (by rw[hp];rfl);obtain⟨hl,hn⟩:=nA hf hi hh;obtain⟨a1,a2,a3⟩:=hr f hn;have a3:=a3 hl;have ok:=hC.ins _ a1 _ a3;have D7:ze C s f:=λj hj e e'=>by
  have:=tj hf hj hi e' hh;subst this;rw[hp]at e;cases e
 have hw:s.loc f≠.waiting:=by rcases hf.hold i f hi hh with a | a<;>(have:=a.2;change s.loc f=_ at this;rw[this];simp)
 have PG:s.pc i≠.full:=by rw[hp];simp
 have same:∀j,s.pc j= .full->s.pc j= .full/\s.hold j=s.hold j:=λj hj=>⟨hj,rfl⟩;have NR:∀{k:Nat} {a b c:Int},k≠6->Rt C D0 g (ev k a b c):=λhk e he=>by cases he;exact λh=>absurd h hk
 have vV:Rt C D0 g none:=λe he=>by cases he
 have held:s.loc f= .held i:=by
  rcases hf.hold i f hi hh with a | a
  ·have:sig (s.pc i)= .one:=a.1;rw[hp]at this;cases this
  ·exact a.2
 unfold Kf at ok;unfold Am.instr;simp only[hh,nQ];split<;>rename_i hc<;>rw[hc]at ok<;>simp only at ok
 ·exact⟨⟨_,h.data hn hl rfl rfl (λ_ _=>rfl) (λ_=>rfl) same ⟨rfl,rfl,rfl,rfl⟩ (λvs=>by unfold Bh;simp only[hc]),λ_=>WN.inc hn hl rfl (λ_=>rfl)⟩,vV⟩
 ·exact⟨⟨_,h.data hn hl rfl rfl (λ_ _=>rfl) (λ_=>rfl) same ⟨rfl,rfl,rfl,rfl⟩ (λvs=>by unfold Bh;simp only[hc]),λ_=>WN.inc hn hl rfl (λ_=>rfl)⟩,vV⟩
 ·exact⟨⟨_,h.data hn hl rfl rfl (λ_ _=>rfl) (λ_=>rfl) same ⟨rfl,rfl,rfl,rfl⟩ (λvs=>by unfold Bh;simp only[hc]),λ_=>WN.inc hn hl rfl (λ_=>rfl)⟩,vV⟩
 ·exact⟨⟨_,h.data hn hl rfl rfl (λ_ _=>rfl) (λ_=>rfl) same ⟨rfl,rfl,rfl,rfl⟩ (λvs=>by unfold Bh;simp only[hc]),λ_=>WN.inc hn hl rfl (λ_=>rfl)⟩,vV⟩
 ·exact⟨⟨_,h.data hn hl rfl rfl (λ_ _=>rfl) (λ_=>rfl) same (by split<;>exact⟨rfl,rfl,rfl,rfl⟩) (λvs=>by unfold Bh;simp only[hc];split<;>rfl),λ_=>WN.inc hn hl rfl (λ_=>rfl)⟩,vV⟩
 ·exact⟨⟨_,h.data hn hl rfl rfl (λ_ _=>rfl) (λ_=>rfl) same ⟨rfl,rfl,rfl,rfl⟩ (λvs=>by unfold Bh;simp only[hc]),λ_=>WN.inc hn hl rfl (λ_=>rfl)⟩,vV⟩
 ·rename_i a sl;have Ps:γ.pn f sl=none:=by
   obtain⟨l1,l2,l3⟩:=φ.ld _ _ _ _ a1 a3 hc;cases e:γ.pn f sl with
   | none=>rfl
   | some k=>exact absurd ((Ve h hs hf hw e)▸ hs.a f hn hl sl l1) l3
  exact⟨⟨_,h.data hn hl rfl rfl (λ_ _=>rfl) (λ_=>rfl) same ⟨rfl,rfl,rfl,rfl⟩ (λvs=>by
   unfold Bh;simp only[hc];have:PF (γ.pn f) (IW s f) vs sl=s.mem (.slot f sl):=by unfold PF;rw[Ps];rfl
   rw[this]),λ_=>WN.inc hn hl rfl (λ_=>rfl)⟩,vV⟩
 ·rename_i sl g0 c;split
  ·exact⟨⟨_,h.Km (f:=f) (y:={s.fr f with J:=(s.fr f).J+1}) hi PG hh (aF _ _ _) rfl rfl (λ_ _=>rfl) rfl (ku (p:=.full) PG rfl (.inl rfl)) ⟨rfl,rfl,rfl,rfl⟩,λe=>absurd (aF _ _ _) e⟩,NR dO⟩
  ·rename_i hx;have hF:=hC.f4;have hnx:=hf.nx;have hnx:s.mem .next=s.nf∨(s.nf=C.F/\(C.F:Int)<=s.mem .next):=hnx;have hnF:s.nf<=C.F:=hf.xC;have h48:s.nf<4096:=by rcases hnx with e | e<;>omega
   refine⟨⟨_,h.spawn (f:=f) (y:={s.fr f with J:=(s.fr f).J+1,bt:=(s.fr f).bt+1}) (c0:=kD C (s.fr f) f sl g0 c) hs hr hf hi hh hp hc h48 ?_ rfl rfl (λ_ _=>rfl) (ku (p:=.fork s.nf) PG rfl (.inl rfl)) rfl rfl ok.1,λ_=>WN.spawn hc D7 h hn hl rfl rfl⟩,vV⟩;show bJ (bJ (bJ s.fr f _) f _) s.nf _=_;rw[LH]
 ·split
  ·exact⟨⟨_,h.data hn hl rfl rfl (λ_ _=>rfl) (sj (s:=s) (f:=f) (by rw[held];rfl)) (ku (p:=.Bw) PG rfl (.inr ⟨none,rfl⟩)) ⟨rfl,rfl,rfl,rfl⟩ (λvs=>by unfold Bh;simp only[hc]),λ_=>WN.inc hn hl rfl (sj (s:=s) (f:=f) (by rw[held];rfl))⟩,NR dO⟩
  ·exact⟨⟨_,h.data hn hl rfl rfl (λ_ _=>rfl) (sj (s:=s) (f:=f) (by rw[held];rfl)) (ku (p:=.nP) PG rfl (.inl rfl)) ⟨rfl,rfl,rfl,rfl⟩ (λvs=>by unfold Bh;simp only[hc]),λ_=>WN.inc hn hl rfl (sj (s:=s) (f:=f) (by rw[held];rfl))⟩,vV⟩
 ·rename_i a;have hk:=hs.E1 hr hf hi hh hc;have hkn:=FM h hf hk (λj c hj e e'=>by
   have q:=(hf.fk j c hj (by show sig (s.pc j)=_;rw[e];rfl)).2.2.1;have q:s.hold j=some (s.fr c).par:=q;rw[e']at q;have:=tj hf hj hi q hh;subst this;rw[hp]at e;cases e)
  split
  ·next e0 =>
   subst e0;have hd:=h.done hn hl D7 hkn hc;rw[h.d0]at hd;have hwk:γ.wk 0<=g:=Bi (GY hn) h.w;refine⟨⟨γ,?_,λ_=>WN.root hkn hn hl rfl rfl rfl⟩,λe he _ _ => ?_⟩
   rotate_left
   ·cases he;exact⟨_,_,hd,I⟩
   ·have hno:∀x,γ.pn 0 x=none:=hkn;refine⟨λk hk' hlk hnk => ?_,λk hk' => ?_,h.d0,λk x c e => ?_,λc h0 EE hlc => ?_,λk hk' => ?_,by have:=h.w;exact Nat.le_succ_of_le this⟩
    ·have ek:k≠0:=λe=>by subst e;have hlk:live (bJ s.loc 0 (.fin i) 0)=true:=hlk;rw[aF]at hlk;cases hlk
     have hlk:live (bJ s.loc 0 (.fin i) k)=true:=hlk;rw[aA ek]at hlk;have hA:=h.A k hk' hlk (xK (ku (p:=.done) PG rfl (.inr ⟨none,rfl⟩)) hnk);intro vs hv;show Pre C _ _ _ _ ⟨(bJ s.fr 0 _ k).J,(bJ s.fr 0 _ k).bw,_,(bJ s.fr 0 _ k).bt⟩ _ _;rw[aA ek];exact hA vs hv
    ·show(γ.ds k).fn=(bJ s.fr 0 _ k).fn/\(γ.ds k).k8=(bJ s.fr 0 _ k).k8/\_;have:=h.D k hk';rw[cA];split
     ·next e=>subst e;exact this
     ·exact this
    ·obtain⟨b1,b2,b3,b4,b5⟩:=h.pn k x c e;show c≠0/\c<s.nf/\(bJ s.fr 0 _ c).par=k/\(bJ s.fr 0 _ c).slot=x/\live (bJ s.loc 0 _ c)=true;rw[aA b1,aA b1];exact⟨b1,b2,b3,b4,b5⟩
    ·have hlc:live (bJ s.loc 0 (.fin i) c)=true:=hlc;rw[aA h0]at hlc;show γ.pn (bJ s.fr 0 _ c).par (bJ s.fr 0 _ c).slot=some c;rw[aA h0];exact h.np c h0 EE hlc
    ·exact h.z k hk'
  ·next e0 =>
   refine⟨⟨_,h.ret (i:=i) (f:=f) (a:=a) (y:={s.fr f with J:=(s.fr f).J+1}) hr hf hn e0 hl D7 hkn hc rfl rfl rfl (λk x => ?_) (ku (p:=.out (s.fr f).par f) PG rfl (.inr ⟨none,rfl⟩)) rfl,λ_=>WN.ret hkn (h.np f e0 hn hl) e0 hn (hf.pr f hn) (λe=>by have:=h.np f e0 hn hl;rw[e,hkn]at this;cases this) hl rfl rfl rfl⟩,λe he h1 h2 => ?_⟩
   ·show bJ s.mem (.slot (s.fr f).par (s.fr f).slot) ((s.fr f).bw a) (.slot k x)=_;rw[cA];simp only[tF.slot.injEq]
   ·cases he;exact absurd h2 (by show ¬(f:Int)=0;omega)
theorem SI.acZ(hC:C.OK)(h:SI C D0 s γ g)(hs:SL C φ s σ)(hr:FR C s)(hf:(view s).FI C.N C.F)(hd:DT C s)(hi:i<C.N)(h1:s.pc i≠.run)(d:Int) :
 (∃γ',SI C D0 (Am.aC C s i d).s γ' (g+1)/\WN C s (Am.aC C s i d).s γ γ' 0)/\Rt C D0 g (Am.aC C s i d).ev:=by
 have NR:∀{k:Nat} {a b c:Int},k≠6->Rt C D0 g (ev k a b c):=λhk e he=>by cases he;exact λh=>absurd h hk
 have vV:Rt C D0 g none:=λe he=>by cases he
 cases hp:s.pc i with
 | run=>exact absurd hp h1
 | halted=>unfold Am.aC;rw[hp];exact⟨⟨γ,h.JM rfl rfl (λ_ _=>rfl) (λ_=>rfl) (λj hj=>⟨hj,rfl⟩)⟩,vV⟩
 | full=>unfold Am.aC;rw[hp];exact⟨⟨γ,h.JM rfl rfl (λ_ _=>rfl) (λ_=>rfl) (λj hj=>⟨hj,rfl⟩)⟩,vV⟩
 | nP =>
  obtain⟨f,hh⟩:=n9 hf hi (by rw[hp];rfl);unfold Am.aC;rw[hp];simp only[hh,nQ];exact⟨⟨γ,h.JM rfl rfl (λ_ _=>rfl) (sj (s:=s) (f:=f) (by rw[(nA hf hi hh).1];rfl)) (ku (i:=i) (p:=.run) (by rw[hp];simp) rfl (.inl rfl))⟩,NR dO⟩
 | out p c =>
  have hg:(view s).g i= .out p c:=by show sig (s.pc i)=_;rw[hp];rfl
  have hc:s.loc c= .fin i:=(hf.out i p c hi hg).2.1;unfold Am.aC;rw[hp];simp only;split
  ·rename_i hn;have hw:s.loc p= .waiting:=(hf.ie hi hg hn).1;refine⟨⟨γ,h.JM rfl rfl (λ_ _=>rfl) (λk => ?_) (ku (i:=i) (p:=.take p c) (by rw[hp];simp) rfl (.inl rfl))⟩,vV⟩;show live (bJ (bJ s.loc c .gone) p (.sQ i) k)=live (s.loc k);rw[cA];split
   ·next e=>subst e;rw[hw];rfl
   ·exact sj (s:=s) (f:=c) (by rw[hc];rfl) k
  ·exact⟨⟨γ,h.JM rfl rfl (λ_ _=>rfl) (sj (s:=s) (f:=c) (by rw[hc];rfl)) (ku (i:=i) (p:=.Bw) (by rw[hp];simp) rfl (.inl rfl))⟩,vV⟩
 | take p c =>
  have hg:(view s).g i= .take p c:=by show sig (s.pc i)=_;rw[hp];rfl
  unfold Am.aC;rw[hp];simp only;exact⟨⟨γ,h.JM rfl rfl (λ_ _=>rfl) (sj (s:=s) (f:=p) (by rw[show s.loc p= .sQ i from hf.tk i p c hi hg];rfl)) (ku (i:=i) (p:=.run) (by rw[hp];simp) rfl (.inr ⟨some p,rfl⟩))⟩,NR dO⟩
 | n7 c b =>
  have hg:(view s).g i= .push c:=by show sig (s.pc i)=_;rw[hp];rfl
  unfold Am.aC;rw[hp];simp only;exact⟨⟨γ,h.JM rfl rfl (λ_ _=>rfl) (sj (s:=s) (f:=c) (by rw[show s.loc c= .bW i from(hf.ps i c hi hg).2.1];rfl)) (ku (i:=i) (p:=.DQ) (by rw[hp];simp) rfl (.inl rfl))⟩,NR dO⟩
 | AB b =>
  have P:=(hd.1 i hi).ph;unfold pT at P;rw[hp]at P;simp only at P;unfold Am.aC;rw[hp];simp only;split
  ·rename_i hlt;have hne:s.q i≠[]:=by
    intro e;simp only[St.L,St.T,e,xL]at P;omega
   have hm:(s.q i).getLastD 0∈s.q i:=by
    rw[JU,List.getLast?_eq_some_getLast hne];exact List.getLast_mem hne
   have e:s.loc ((s.q i).getLastD 0)= .Lc i:=(hf.q i _ hi hm).2;exact⟨⟨γ,h.JM rfl rfl (λ_ _=>rfl) (sj (s:=s) (f:=(s.q i).getLastD 0) (by rw[e];rfl)) (ku (i:=i) (p:=.tP b (s.mem (.top i))) (by rw[hp];simp) rfl (.inl rfl))⟩,vV⟩
  ·split<;>exact⟨⟨γ,h.JM rfl rfl (λ_ _=>rfl) (λ_=>rfl) (ku (i:=i) (by rw[hp];simp) rfl (.inl rfl))⟩,vV⟩
 | pS b t cc =>
  have P:=(hd.1 i hi).ph;unfold pT at P;rw[hp]at P;simp only at P;unfold Am.aC;rw[hp];simp only;split
  ·rename_i hlt;obtain⟨x,hx,he⟩:=(P.1.2.2.2.1 hlt).2.2;rw[<-P.2]at he;rw[he];have e:s.loc x= .pop i:=(hf.pop i x hi hx).2;refine⟨⟨γ,h.JM rfl rfl (λ_ _=>rfl) (sj (s:=s) (f:=x) (l:=.held i) (by rw[e];rfl)) (ku (i:=i) (p:=.start (-1)) (by rw[hp];simp) rfl (.inr ⟨some x,rfl⟩))⟩,vV⟩
  ·exact⟨⟨γ,h.JM rfl rfl (λ_ _=>rfl) (λ_=>rfl) (ku (i:=i) (by rw[hp];simp) rfl (.inl rfl))⟩,vV⟩
 | sP b t x =>
  have P:=(hd.1 i hi).ph;unfold pT at P;rw[hp]at P;simp only at P;unfold Am.aC;rw[hp];simp only;split
  ·rename_i ht;have hq:=(P.2.2.2.2.1 ht).1;have e:s.loc x.toNat= .Lc i:=(hf.q i _ hi (by show x.toNat∈s.q i;rw[hq];simp)).2;exact⟨⟨γ,h.JM rfl rfl (λ_ _=>rfl) (sj (s:=s) (f:=x.toNat) (by rw[e];rfl)) (ku (i:=i) (p:=.qa t x true) (by rw[hp];simp) rfl (.inl rfl))⟩,vV⟩
  ·exact⟨⟨γ,h.JM rfl rfl (λ_ _=>rfl) (λ_=>rfl) (ku (i:=i) (by rw[hp];simp) rfl (.inl rfl))⟩,vV⟩
 | qa t x Al =>
  have P:=(hd.1 i hi).ph;unfold pT at P;rw[hp]at P;simp only at P;unfold Am.aC;rw[hp];simp only;split
  ·rename_i hw;have e:s.loc x.toNat= .pop i:=(hf.pop i _ hi (P.2.2.2 hw).1).2;exact⟨⟨γ,h.JM rfl rfl (λ_ _=>rfl) (sj (s:=s) (f:=x.toNat) (l:=.held i) (by rw[e];rfl)) (ku (i:=i) (p:=.start (-1)) (by rw[hp];simp) rfl (.inr ⟨some x.toNat,rfl⟩))⟩,vV⟩
  ·exact⟨⟨γ,h.JM rfl rfl (λ_ _=>rfl) (λ_=>rfl) (ku (i:=i) (p:=if C.N=1 then .flag else .jQ) (by rw[hp];simp) rfl (.inl rfl))⟩,vV⟩
 | ny v t x =>
  have HT:=hd.2 i hi;unfold Th at HT;rw[hp]at HT;simp only at HT;unfold Am.aC;rw[hp];simp only;split
  ·rename_i ht;obtain⟨y,l,hq,hx⟩:=HT.2.2.2 ht.symm;have e:s.loc x.toNat= .Lc v:=(hf.q v _ HT.1 (by show x.toNat∈s.q v;rw[hq,hx];simp)).2;exact⟨⟨γ,h.JM rfl rfl (λ_ _=>rfl) (sj (s:=s) (f:=x.toNat) (l:=.held i) (by rw[e];rfl)) (ku (i:=i) (p:=.start v) (by rw[hp];simp) rfl (.inr ⟨some x.toNat,rfl⟩))⟩,NR dO⟩
  ·exact⟨⟨γ,h.JM rfl rfl (λ_ _=>rfl) (λ_=>rfl) (ku (i:=i) (by rw[hp];simp) rfl (.inl rfl))⟩,vV⟩
 | parked =>
  unfold Am.aC;rw[hp];simp only;split
  ·exact⟨⟨γ,h.JM rfl rfl (λ_ _=>rfl) (λ_=>rfl) (λj hj=>⟨hj,rfl⟩)⟩,vV⟩
  ·exact⟨⟨γ,h.JM rfl rfl (λ_ _=>rfl) (λ_=>rfl) (ku (i:=i) (p:=if C.N=1 then .flag else .jQ) (by rw[hp];simp) rfl (.inl rfl))⟩,vV⟩
 | grow c b t cc =>
  unfold Am.aC;rw[hp];simp only;exact⟨⟨γ,h.JM rfl rfl (λ_ _=>rfl) (λ_=>rfl) (ku (i:=i) (p:=.mS c b t cc) (by rw[hp];simp) rfl (.inl rfl))⟩,vV⟩
 | _ =>
  unfold Am.aC;rw[hp];simp only[lU,looking,yp,yZ]
  repeat' split
  all_goals exact⟨⟨γ,h.JM rfl rfl (λ_ _=>rfl) (λ_=>rfl) (ku (i:=i) (by rw[hp];simp) rfl (.inl rfl))⟩,by first | exact vV | exact NR dO⟩
end
theorem zY{f g:Nat->Nat}:∀{n:Nat},(∀j,j<n->f j<=g j)->fU f n<=fU g n
 | 0,_=>ja _
 | n+1,h=>by simp only[fU];have:=zY (n:=n) (λj hj=>h j I);have:=h n I;omega
theorem zZ{f g:Nat->Nat}:∀{n:Nat},fU (λj=>f j+g j) n=fU f n+fU g n
 | 0=>rfl
 | n+1=>by simp only[fU];rw[zZ];omega
theorem FO{g:Nat->Nat->Nat}{m:Nat}:∀{n:Nat},fU (λi=>fU (g i) m) n=fU (λj=>fU (λi=>g i j) n) m
 | 0=>by
  show 0=fU (λj=>0) m;exact(sK (λ_ _=>rfl)).symm
 | n+1=>by
  show fU (λi=>fU (g i) m) n+fU (g n) m=fU (λj=>fU (λi=>g i j) n+g n j) m;rw[zZ,FO]
def Dz(w:Nat->Nat):Option Nat->Nat
 | some c=>w c
 | none=>0
theorem NT{w:Nat->Nat}{o:Option Nat}:∀{n:Nat},fU (λc=>if o=some c then w c else 0) n<=Dz w o/\((∀c,c<n->o≠some c)->fU (λc=>if o=some c then w c else 0) n=0)
 | 0=>⟨xM _,λ_=>rfl⟩
 | n+1=>by
  obtain⟨a,b⟩:=NT (w:=w) (o:=o) (n:=n);constructor
  ·simp only[fU];by_cases e:o=some n
   ·rw[aM e,b (λc hc e'=>by rw[e]at e';injection e' with e';omega),e];simp only[Dz];omega
   ·rw[bZ e];omega
  ·intro h;simp only[fU];rw[bZ (h n I),b (λc hc=>h c I)]
theorem AU{f:Nat->Nat}{i n:Nat}(h:i<n):f i<=fU f n:=GY h
section
variable {C:jt}{s:St}{D0:LY}{γ:SG}{g afW:Nat}
theorem Vr(h:SI C D0 s γ g)(hr:FR C s)(SU:∀c,c<s.nf->(s.fr c).par<s.nf)(w:Nat->Nat) :
 fU (λc=>if c≠0/\live (s.loc c)=true then w c else 0) s.nf<=fU (λf=>fU (λx=>Dz w (γ.pn f x)) 8) s.nf:=by
 have e1:fU (λc=>if c≠0/\live (s.loc c)=true then w c else 0) s.nf<=fU (λc=>fU (λf=>fU (λx=>if γ.pn f x=some c then w c else 0) 8) s.nf) s.nf:=by
  refine zY λc hc => ?_;by_cases e:c≠0/\live (s.loc c)=true
  ·rw[aM e];have hp:=h.np c e.1 hc e.2;have h8:=pn8 h hr hp;have a:=AU (f:=λx=>if γ.pn (s.fr c).par x=some c then w c else 0) h8;have b:=AU (f:=λf=>fU (λx=>if γ.pn f x=some c then w c else 0) 8) (SU c hc);simp only[hp,if_true]at a;exact Bi a b
  ·rw[bZ e];exact xM _
 refine Bi e1 ?_;rw[FO];refine zY λf hf => ?_;rw[FO];exact zY λx hx=>NT.1
theorem Vs(h:SI C D0 s γ g)(ws:WS C s γ afW)(hr:FR C s)(SU:∀c,c<s.nf->(s.fr c).par<s.nf)(h1:0<s.nf)(hv:live (s.loc 0)=true):∀(q w:Nat->Nat),(∀f,f<s.nf->f≠0->live (s.loc f)=false->q f=0)->(∀f,f<s.nf->live (s.loc f)=true->q f+fU (λx=>Dz w (γ.pn f x)) 8+1<=w f)->fU q s.nf+fU (lv s) s.nf<=w 0:=λq w z o=>by
 have p:=Vr h hr SU w;have a:fU (λf=>q f+lv s f+fU (λx=>Dz w (γ.pn f x)) 8) s.nf<=fU (λf=>(if f=0 then w 0 else 0)+(if f≠0/\live (s.loc f)=true then w f else 0)) s.nf:=zY λf hf=>by
  by_cases e:live (s.loc f)=true
  ·have:=o f hf e;have l1:lv s f=1:=by unfold lv;rw[aM e]
   by_cases f0:f=0
   ·subst f0;rw[aM rfl,bZ (λh=>h.1 rfl)];omega
   ·rw[bZ f0,aM ⟨f0,e⟩];omega
  ·have f0:f≠0:=λe'=>by subst e';exact e hv
   have l0:lv s f=0:=by unfold lv;rw[bZ e]
   have z0:=z f hf f0 (by cases hh:live (s.loc f)<;>first | rfl | exact absurd hh e);have:fU (λx=>Dz w (γ.pn f x)) 8=0:=sK (λx _=>by
    cases hp:γ.pn f x with
    | none=>rfl
    | some c=>exact absurd (ws.y f x c hp) e)
   rw[z0,l0,this];exact xM _
 rw[zZ,zZ,zZ]at a;have z1:fU (λf=>if f=0 then w 0 else 0) s.nf=w 0:=by
  have:=nW (f:=λ_=>0) (g:=λf=>if f=0 then w 0 else 0) (i:=0) (k:=w 0) h1 (λj hj=>by show(if j=0 then w 0 else 0)=0;rw[bZ hj]) (by show(if 0=0 then w 0 else 0)=0+w 0;rw[aM rfl];omega);rw[this,sK (λ_ _=>rfl)];omega
 omega
theorem ac0(h:SI C D0 s γ g)(ws:WS C s γ afW)(hr:FR C s)(SU:∀c,c<s.nf->(s.fr c).par<s.nf)(h1:0<s.nf)(hv:live (s.loc 0)=true)(D7:∀f,f<s.nf->ze C s f)
 {v:Int} {afU T:Nat} (hD:Dn C D0 (v,afU,T)):afW+fU (lv s) s.nf<=afU/\s.nf<=T:=by
 have E:=ws.e;have ch:∀f,∃r,f<s.nf->live (s.loc f)=true->Dn C (γ.ds f) r:=λf=>by
  by_cases e:f<s.nf/\live (s.loc f)=true
  ·obtain⟨r,hr⟩:=E f e.1 e.2;exact⟨r,λ_ _=>hr⟩
  ·exact⟨(0,0,0),λa b=>absurd ⟨a,b⟩ e⟩
 obtain⟨R,hR⟩:=Classical.axiomOfChoice ch;have h0:R 0=(v,afU,T):=by
  have:=hR 0 h1 hv;rw[h.d0]at this;exact Dn.one this hD
 have one:∀f,f<s.nf->live (s.loc f)=true->γ.wk f+fU (λx=>Dz (λc=>(R c).2.1) (γ.pn f x)) 8+1<=(R f).2.1/\γ.tk f+fU (λx=>Dz (λc=>(R c).2.2) (γ.pn f x)) 8+1<=(R f).2.2:=λf hf hl=>by
  have a:=h.A f hf hl (D7 f hf) R (λx c e=>by
   obtain⟨c1,c2,c3,c4,c5⟩:=h.pn f x c e;exact hR c c2 c5)
  have d:=hR f hf hl;have:=Dn.le (v:=(R f).1) (afU:=(R f).2.1) (T:=(R f).2.2) d a;have e1:fU (wn (γ.pn f) R) 8=fU (λx=>Dz (λc=>(R c).2.1) (γ.pn f x)) 8:=pP (λx _=>by unfold wn Dz;cases γ.pn f x<;>rfl);have e2:fU (tn (γ.pn f) R) 8=fU (λx=>Dz (λc=>(R c).2.2) (γ.pn f x)) 8:=pP (λx _=>by unfold tn Dz;cases γ.pn f x<;>rfl);rw[<-e1,<-e2];exact this
 have sum:=Vs h ws hr SU h1 hv;have lv0:lv s 0=1:=by unfold lv;rw[aM hv]
 have a:=sum γ.wk (λc=>(R c).2.1) (λf hf f0 hd=>(ws.z f hf f0 hd).1) (λf hf hl=>(one f hf hl).1);have b:=sum γ.tk (λc=>(R c).2.2) (λf hf f0 hd=>(ws.z f hf f0 hd).2) (λf hf hl=>(one f hf hl).2);rw[h0]at a b;simp only at a b;have c:=ws.w;have d:=ws.t;omega
end
def MK(N:Nat)(v:V):Prop:=(∀f,v.mark f=0∨v.mark f=1)/\∀f,f<v.nf->early (v.loc f)=false->v.mark f=1∨∃i,i<N/\v.g i= .start/\v.hold i=some f
section
variable {C:jt}{w w':afU}{i:Nat}{e:Option Ev}
theorem MK.aC(t:Tr C i w e w')(hi:i<C.N)(h:w.v.FI C.N C.F)(m:MK C.N w.v):MK C.N w'.v:=by
 obtain⟨m1,m2⟩:=m;have z1:=h.y9 i;have z2:=h.free;have z3:=h.hold i;have z4:∀f j,w.v.hold i=some f->j<C.N->w.v.hold j=some f->j=i:=λf j h1 hj h2=>tj h hj hi h2 h1;have z5:∀f,w.v.hold i=some f->f<w.v.nf:=λf h1=>tH h hi h1;have z6:=h.hold;have z7:=h.out i;have z8:=h.tk i;have z9:=h.used;have nx:∀f,f<w.v.nf->early (w.v.loc f)=false->(∀j,j<C.N->w.v.g j= .start->w.v.hold j≠some f)->w.v.mark f=1:=λf a b c=>by
  rcases m2 f a b with h | ⟨j,hj,h1,h2⟩
  ·exact h
  ·exact absurd h2 (c j hj h1)
 have keep:∀{g':Nat->WT} {Yx:Nat->Option Nat} {k:Nat},(∀j,j≠i->g' j=w.v.g j)->(∀j,j≠i->Yx j=w.v.hold j)->w.v.g i≠.start->k<w.v.nf->early (w.v.loc k)=false->w.v.mark k=1∨∃j,j<C.N/\g' j= .start/\Yx j=some k:=λa b c d e=>by
  rcases m2 _ d e with h | ⟨j,hj,h1,h2⟩
  ·exact .inl h
  ·have:j≠i:=λe=>c (e▸ h1);exact .inr ⟨j,hj,by rw[a j this];exact h1,by rw[b j this];exact h2⟩
 have gen:∀f,w.v.g i= .run->w.v.hold i=some f->∀(l:Loc) (g':WT) (o:Option Nat) (k:Nat),k<w.v.nf->early (bJ w.v.loc f l k)=false->w.v.mark k=1∨∃j,j<C.N/\bJ w.v.g i g' j= .start/\bJ w.v.hold i o j=some k:=λf hg hf l g' o k hk he=>by
  by_cases e:k=f
  ·subst e;refine .inl (nx k hk ?_ (λj hj h1 h2 => ?_))
   ·rcases z3 k hi hf with a | a<;>rw[a.2]<;>rfl
   ·have:=z4 k j hf hj h2;subst this;rw[hg]at h1;cases h1
  ·rw[aA e]at he;exact keep (λj hj=>aA hj) (λj hj=>aA hj) (by rw[hg];simp) hk he
 cases t
 all_goals (constructor)
 all_goals (try grind)
 case wait.right f hg hf hk=>exact λk a b=>gen f hg hf _ _ _ k a b
 case It.right v hg hf=>exact λk a b=>gen 0 hg hf _ _ _ k a b
 case ret.right f v hg hf h0=>exact λk a b=>gen f hg hf _ _ _ k a b
 case JJ.right p c hg hn =>
  intro k a b;have b:early (bJ (bJ w.v.loc c .gone) p (.sQ i) k)=false:=b;have ow:=(h.ie hi hg hn).1;by_cases e:k=p
  ·subst e;exact .inl (nx k a (by rw[ow];rfl) (λj hj h1 h2=>by rcases z6 j k hj h2 with q | q<;>(rw[ow]at q;cases q.2)))
  ·rw[aA e]at b;by_cases e2:k=c
   ·subst e2;have oc:=(z7 p k hi hg).2.1;exact .inl (nx k a (by rw[oc];rfl) (λj hj h1 h2=>by rcases z6 j k hj h2 with q | q<;>(rw[oc]at q;cases q.2)))
   ·rw[aA e2]at b;exact keep (λj hj=>aA hj) (λj hj=>rfl) (by rw[hg];simp) a b
 case take.right p c hg =>
  intro k a b;have b:early (bJ w.v.loc p (.held i) k)=false:=b;have ot:=z8 p c hi hg;by_cases e:k=p
  ·subst e;exact .inl (nx k a (by rw[ot];rfl) (λj hj h1 h2=>by rcases z6 j k hj h2 with q | q<;>(rw[ot]at q;cases q.2)))
  ·rw[aA e]at b;exact keep (λj hj=>aA hj) (λj hj=>aA hj) (by rw[hg];simp) a b
 case got.right x hg hx =>
  intro k a b;have b:early (bJ w.v.loc x (.held i) k)=false:=b;by_cases e:k=x
  ·subst e;exact .inr ⟨i,hi,aF _ _ _,aF _ _ _⟩
  ·rw[aA e]at b;exact keep (λj hj=>aA hj) (λj hj=>aA hj) (by rw[hg];simp) a b
 case EM.right v x l hk J0 hg hx =>
  intro k a b;have b:early (bJ w.v.loc x (.held i) k)=false:=b;by_cases e:k=x
  ·subst e;exact .inr ⟨i,hi,aF _ _ _,aF _ _ _⟩
  ·rw[aA e]at b;exact keep (λj hj=>aA hj) (λj hj=>aA hj) (by rw[hg];simp) a b
end
def CJ(C:jt)(D0:LY)(s:St)(H afW g:Nat):Prop:=∃(φ:NQ C) (σ:Nat->Nat->Nat) (γ:SG) (pu:Nat->Nat),SL C φ s σ/\SI C D0 s γ g/\WS C s γ afW/\CI C s pu H afW/\afW+F4 s<=H/\MK C.N (wv s).v
section
variable {C:jt}{s:St}{i:Nat}{D0:LY}{H afW g:Nat}
theorem XG(hC:C.OK)(j:CJ C D0 s H afW g)(hr:FR C s)(hf:(view s).FI C.N C.F)(hd:DT C s)(hz:SZ C s)(hi:i<C.N)(d:Int)(h0:s.pc i≠.full)(h1:(Am.aC C s i d).s.pc i≠.full) :
 CJ C D0 (Am.aC C s i d).s (H+if busy (sig (s.pc i))=true then 1 else 0) (afW+if s.pc i= .run then 1 else 0) (g+1)/\Rt C D0 g (Am.aC C s i d).ev:=by
 obtain⟨φ,σ,γ,pu,sl,si,ws,ci,li,mk⟩:=j;obtain⟨σ',sl'⟩:=sl.aC hC hr hf hd hi d;obtain⟨pu',ci'⟩:=ci.aC hz hd hf hi h0 d;have li':=XF li hf hi d;have mk':=mk.aC (EN hf hd hi d) hi hf;by_cases e:s.pc i= .run
 ·have es:Am.aC C s i d=Am.instr C s i:=by unfold Am.aC;rw[e]
  obtain⟨⟨γ',si',ws'⟩,rt⟩:=SI.aao hC si sl hr hf hi e;rw[es]at h1;refine⟨⟨φ,σ',γ',pu',sl',by rw[es];exact si',?_,ci',li',mk'⟩,by rw[es];exact rt⟩;rw[aM e,es];exact ws' h1 afW ws
 ·obtain⟨⟨γ',si',ws'⟩,rt⟩:=SI.acZ hC si sl hr hf hd hi e d;refine⟨⟨φ,σ',γ',pu',sl',si',?_,ci',li',mk'⟩,rt⟩;rw[bZ e];exact ws' afW ws
theorem Yy(j:CJ C D0 s H afW g)(hr:FR C s)(hf:(view s).FI C.N C.F)(hd:DT C s)(hz:SZ C s)(hn:∀j,j<C.N->s.pc j≠.full)(hv:live (s.loc 0)=true){v:Int}{afU T:Nat}(hD:Dn C D0 (v,afU,T)) :
 H<=2*afW+(C.N+16)*T/\afW+1<=afU/\s.nf<=T:=by
 obtain⟨φ,σ,γ,pu,sl,si,ws,ci,li,mk⟩:=j;have h1:0<s.nf:=hf.zQ;obtain⟨a,b⟩:=ac0 si ws hr hf.pr h1 hv (λf _ j hj e=>absurd e (hn j hj)) hD;have c:=ci.all hz hd (λf=>by
  have:=mk.1 f;change s.mem (.mark f)=0∨s.mem (.mark f)=1 at this;omega)
 have l1:1<=fU (lv s) s.nf:=by
  have:=AU (f:=lv s) h1;have e:lv s 0=1:=by unfold lv;rw[aM hv]
  omega
 have m:(C.N+16)*s.nf<=(C.N+16)*T:=Nat.mul_le_mul_left _ b;exact⟨I,I,b⟩
end
section
variable {C:jt}{s:St}{i:Nat}{D0:LY}{H afW g:Nat}
theorem aap(j:CJ C D0 s H afW g)(hr:FR C s)(hf:(view s).FI C.N C.F)(hd:DT C s)(hi:i<C.N)(hp:s.pc i= .run)(hh:s.hold i=some 0){a:Nat}(hc:C.code (s.fr 0).fn (s.fr 0).J= .ret a)(hn:∀j,j<C.N->s.pc j≠.full)
 {v:Int} {afU T:Nat} (hD:Dn C D0 (v,afU,T)):afW+1=afU/\s.nf=T/\v=(s.fr 0).bw a/\∀f,f<s.nf->live (s.loc f)=true->f=0:=by
 obtain⟨φ,σ,γ,pu,sl,h,ws,ci,li,mk⟩:=j;obtain⟨hl,GB⟩:=nA hf hi hh;have D7:∀f,ze C s f:=λf j hj e=>absurd e (hn j hj);have hk:=sl.E1 hr hf hi hh hc;have hkn:=FM h hf hk (λj c hj e e'=>by
  have q:=(hf.fk j c hj (by show sig (s.pc j)=_;rw[e];rfl)).2.2.1;have q:s.hold j=some (s.fr c).par:=q;rw[e']at q;have:=tj hf hj hi q hh;subst this;rw[hp]at e;cases e)
 have hd':=h.done GB hl (D7 0) hkn hc;rw[h.d0]at hd';have e:=Dn.one hD hd';injection e with e1 e2
 injection e2 with e2 e3
 obtain⟨t1,t2⟩:=ac0 h ws hr hf.pr GB hl (λf _=>D7 f) hD;have l0:lv s 0=1:=by unfold lv;rw[aM hl]
 have w1:=ws.w;have w2:=ws.t;have s1:=AU (f:=γ.wk) GB;have s2:=AU (f:=γ.tk) GB;have s3:=AU (f:=lv s) GB;refine⟨I,I,e1,λf hf' hlf => ?_⟩;by_cases f0:f=0
 ·exact f0
 ·have q:=AP (f:=lv s) (g:=bJ (lv s) 0 0) GB (λj hj=>aA hj);rw[aF]at q;have r:=AU (f:=bJ (lv s) 0 0) hf';rw[aA f0]at r;have lf:lv s f=1:=by unfold lv;rw[aM hlf]
  omega
end
section
variable {C:jt}{w w':afU}{i:Nat}{e:Option Ev}
theorem XH(t:Tr C i w e w')(hi:i<C.N)(h:w.v.FI C.N C.F)(hd0:∀f,f<w.v.nf->live (w.v.loc f)=false):busy (w.v.g i)=false/\w'.v.nf=w.v.nf/\∀f,f<w.v.nf->live (w'.v.loc f)=false:=by
 have hd:∀f,w.v.loc f= .free∨live (w.v.loc f)=false:=λf=>by
  rcases AV f w.v.nf with q | q
  ·exact .inr (hd0 f q)
  ·exact .inl (h.free f q)
 have hb:busy (w.v.g i)=false:=by
  cases hb:busy (w.v.g i)with
  | false=>rfl
  | true =>
   exfalso
   obtain⟨f,hf⟩:=Option.ne_none_iff_exists'.1 (h.hs i hi hb);have:=hd f;rcases h.hold i f hi hf with a | a<;>(rw[a.2]at this;rcases this with q | q<;>cases q)
 refine⟨hb,?_⟩;cases t
 case JJ p c hg hn =>
  have:=hd p;rw[(h.ie hi hg hn).1]at this;rcases this with q | q<;>cases q
 case take p c hg =>
  have:=hd p;rw[h.tk i p c hi hg]at this;rcases this with q | q<;>cases q
 case got x hg hx =>
  have:=hd x;rw[(h.pop i x hi hx).2]at this;rcases this with q | q<;>cases q
 case EM k x l hk J0 hg hx =>
  have:=hd x;rw[(h.q k x hk (by rw[hx];exact List.mem_cons.2 (.inl rfl))).2]at this;rcases this with q | q<;>cases q
 case nH x l hg hq =>
  have:=hd x;rw[(h.q i x hi (by rw[hq];simp)).2]at this;rcases this with q | q<;>cases q
 case Np x hg hq =>
  have:=hd x;rw[(h.q i x hi (by rw[hq];simp)).2]at this;rcases this with q | q<;>cases q
 case Lm p c hg hn =>
  refine⟨rfl,λf hf => ?_⟩;show live (bJ w.v.loc c .gone f)=false;rw[cA];split
  ·rfl
  ·exact hd0 f hf
 all_goals first
  | exact⟨rfl,hd0⟩
  | (rename_i hg;rw[hg]at hb;cases hb;done)
  | (rename_i hg _;rw[hg]at hb;cases hb;done)
  | (rename_i hg _ _;rw[hg]at hb;cases hb;done)
  | skip
end
section
variable {C:jt}{w w':afU}{i:Nat}{e:Option Ev}
theorem Tr.fl(t:Tr C i w e w')(h0:w.v.g i≠.full):(w'.v.g i= .full->∃x,e=some x/\x.kind=11):=by
 intro h;cases t
 case full c hg=>exact⟨_,rfl,rfl⟩
 case AE hg hn=>exact⟨_,rfl,rfl⟩
 all_goals (exfalso;first | exact h0 h | (simp only[aF]at h;cases h;done))
theorem Tr.root(t:Tr C i w e w')(hi:i<C.N)(h:w.v.FI C.N C.F)(hl:live (w.v.loc 0)=true):live (w'.v.loc 0)=true∨∃v,e=ev 6 0 (-1) v/\w.v.g i= .run/\w.v.hold i=some 0:=by
 have z1:=h.out i;have z2:=h.zQ;cases t
 case It v hg hf=>exact .inr ⟨v,rfl,hg,hf⟩
 case ret f v hg hf h0 =>
  refine .inl ?_;show live (bJ w.v.loc f _ 0)=true;rw[aA (Ne.symm h0)];exact hl
 case Lm p c hg hn =>
  have c0:=(z1 p c hi hg).1;refine .inl ?_;show live (bJ w.v.loc c _ 0)=true;rw[aA (Ne.symm c0)];exact hl
 case JJ p c hg hn =>
  have c0:=(z1 p c hi hg).1;refine .inl ?_;show live (bJ (bJ w.v.loc c _) p _ 0)=true;rw[cA];split
  ·rfl
  ·rw[aA (Ne.symm c0)];exact hl
 all_goals (refine .inl ?_;first | exact hl | (show live (bJ _ _ _ 0)=true;rw[cA];split<;>first | rfl | exact hl))
theorem IG{p:Pc}(h:sig p= .full):p= .full:=by cases p<;>first | rfl | cases h
theorem Kn:∀n,fU (λ_=>1) n=n
 | 0=>rfl
 | n+1=>by show fU (λ_=>1) n+1=n+1;rw[Kn n]
end
section
variable {C:jt}{s:St}{i:Nat}{D0:LY}{H afW g afU T:Nat}{d:Int}
theorem Sj(hf:(view s).FI C.N C.F)(hi:i<C.N)(h0:s.pc i≠.full):busy (sig (s.pc i))=true↔s.hold i≠none:=by
 have a:busy (sig (s.pc i))=true->s.hold i≠none:=hf.hs i hi;have b:rest (sig (s.pc i))=true->s.hold i=none:=hf.hr i hi;refine⟨a,λh => ?_⟩;cases e:sig (s.pc i)<;>rw[e]at b<;>first | rfl | exact absurd (b rfl) h | exact absurd (IG e) h0
theorem ev6{x:Ev}(h:(aC C s i d).ev=some x)(h6:x.kind=6):s.pc i= .run/\∃a,C.code (s.fr ((s.hold i).getD 0)).fn (s.fr ((s.hold i).getD 0)).J= .ret a/\x.v=(s.fr ((s.hold i).getD 0)).bw a/\x.ax=(s.hold i).getD 0:=by
 have hrun:s.pc i= .run:=by
  cases hp:s.pc i
  case run=>rfl
  all_goals (exfalso;unfold Am.aC at h;rw[hp]at h;simp only[lU,looking,yp]at h;repeat' split at h)
  all_goals (first | (cases h;done) | (cases h;simp at h6;done))
 refine⟨hrun,?_⟩;have h:(instr C s i).ev=some x:=by unfold Am.aC at h;rw[hrun]at h;exact h
 unfold instr at h;simp only at h;split at h
 all_goals (first | (cases h;done) | skip)
 ·split at h
  ·cases h;simp at h6
  ·cases h
 ·split at h
  ·cases h;simp at h6
  ·cases h
 ·rename_i a hc;refine⟨a,hc,?_⟩;split at h
  ·rename_i e;cases h;exact⟨rfl,by rw[e];rfl⟩
  ·cases h;exact⟨rfl,rfl⟩
theorem NU(d:Int):(aC C s i d).s.val=s.val∨∃x,(aC C s i d).ev=some x/\x.kind=6/\x.ax=0:=by
 cases hp:s.pc i<;>unfold Am.aC<;>rw[hp]<;>simp only
 case run =>
  unfold instr;simp only;split
  all_goals (try split)
  all_goals (first | exact .inl rfl | exact .inr ⟨_,rfl,rfl,rfl⟩)
 all_goals (try unfold lU)
 all_goals (try unfold looking)
 all_goals (try unfold yp)
 all_goals (try split)
 all_goals (try split)
 all_goals first | exact .inl rfl | exact .inl trivial
theorem NV{a:Nat}(hp:s.pc i= .run)(hh:s.hold i=some 0)(hc:C.code (s.fr 0).fn (s.fr 0).J= .ret a):(aC C s i d).s.loc=bJ s.loc 0 (.fin i)/\(aC C s i d).s.nf=s.nf/\(aC C s i d).s.pc=bJ s.pc i .done/\(aC C s i d).s.val=some ((s.fr 0).bw a)/\(aC C s i d).ev=ev 6 0 (-1) ((s.fr 0).bw a):=by
 unfold Am.aC;rw[hp];unfold instr;simp only[hh,nQ,hc];exact⟨rfl,rfl,rfl,rfl,rfl⟩
def PL(C:jt)(s:St):Prop:=∀j,j<C.N->s.pc j≠.full
def KA(C:jt)(D0:LY)(afU T:Nat)(s:St)(H g:Nat):Prop:=
 PL C s/\((live (s.loc 0)=true/\s.val=none/\∃afW,CJ C D0 s H afW g)∨((∀f,f<s.nf->live (s.loc f)=false)/\afU+T<=H/\H<=2*afU+(C.N+16)*T))
def KF(C:jt)(afU T:Nat)(s:St)(H:Nat):Prop:=(s.val≠none->afU+T<=H)/\H<=2*afU+(C.N+24)*T
theorem aaq(k:KA C D0 afU T s H g)(hr:FR C s)(hf:(view s).FI C.N C.F)(hd:DT C s)(hz:SZ C s){v:Int}(hD:Dn C D0 (v,afU,T)):KF C afU T s H:=by
 have m:(C.N+16)*T<=(C.N+24)*T:=rQ _ I;obtain⟨hn,⟨hl,hv,afW,j⟩ | ⟨h1,h2,h3⟩⟩:=k
 ·obtain⟨c1,c2,c3⟩:=Yy j hr hf hd hz hn hl hD;exact⟨λh=>absurd hv h,I⟩
 ·exact⟨λ_=>h2,I⟩
theorem NW(tr:Tr C i (wv s) (aC C s i d).ev (wv (aC C s i d).s))(D7:PL C s)(hi:i<C.N)(h11:∀x,(aC C s i d).ev=some x->x.kind≠11):PL C (aC C s i d).s:=λj hj e=>by
 by_cases ej:j=i
 ·subst ej;obtain⟨x,x1,x2⟩:=tr.fl (λh=>D7 j hj (IG h)) (show sig ((aC C s j d).s.pc j)= .full by rw[e];rfl);exact h11 x x1 x2
 ·have o:sig ((aC C s i d).s.pc j)=sig (s.pc j):=(tr.TZ ej).1;rw[e]at o;exact D7 j hj (IG o.symm)
theorem Q6(hC:C.OK)(k:KA C D0 afU T s H g)(hr:FR C s)(hf:(view s).FI C.N C.F)(hd:DT C s)(hz:SZ C s)(hi:i<C.N){v:Int}(hD:Dn C D0 (v,afU,T)){H':Nat}(hH:(s.hold i=none/\H'=H)∨(s.hold i≠none/\H'=H+1))
 (Oa:SZ C (aC C s i d).s) (hd':DT C (aC C s i d).s) (hf':(view (aC C s i d).s).FI C.N C.F) :
 ((∀x,(aC C s i d).ev=some x->x.kind≠11)->KA C D0 afU T (aC C s i d).s H' (g+1))/\∀x,(aC C s i d).ev=some x->x.kind=11->KF C afU T (aC C s i d).s H':=by
 obtain⟨D7,k⟩:=k;have tr:=EN hf hd hi d;have h0:=D7 i hi;have hb:=Sj hf hi h0;have eH:H'=H+if busy (sig (s.pc i))=true then 1 else 0:=by
  rcases hH with ⟨a,b⟩ | ⟨a,b⟩
  ·rw[bZ (λh=>hb.1 h a)];exact b
  ·rw[aM (hb.2 a)];exact b
 have nf':=NW tr D7 hi;rcases k with ⟨hl,hv,afW,j⟩ | ⟨ac1,b1,b2⟩
 ·obtain⟨c1,c2,c3⟩:=Yy j hr hf hd hz D7 hl hD;constructor
  ·intro h11;have hn':=nf' h11;have cs:=(XG hC j hr hf hd hz hi d h0 (hn' i hi)).1;rw[<-eH]at cs;by_cases hl':live ((aC C s i d).s.loc 0)=true
   ·refine⟨hn',.inl ⟨hl',?_,_,cs⟩⟩;rcases NU (C:=C) (s:=s) (i:=i) d with e | ⟨x,x1,x2,x3⟩
    ·rw[e];exact hv
    ·exfalso
     obtain⟨hp,a,hc,_,hx⟩:=ev6 x1 x2;have h00:(s.hold i).getD 0=0:=by rw[hx]at x3;omega
     have hh:s.hold i=some 0:=by
      obtain⟨f,hh⟩:=n9 hf hi (by rw[hp];rfl);rw[hh]at h00⊢;exact nu some h00
     rw[h00]at hc;obtain⟨r1,_⟩:=NV (d:=d) hp hh hc;rw[r1,aF]at hl';cases hl'
   ·rcases tr.root hi hf hl with a | ⟨v',e',g',h'⟩
    ·exact absurd a hl'
    ·have hh:s.hold i=some 0:=h';obtain⟨hp,a,hc,hx,_⟩:=ev6 e' rfl;rw[hh,nQ]at hc hx;obtain⟨r1,r2,r3,r4⟩:=aap j hr hf hd hi hp hh hc D7 hD;obtain⟨q1,q2,q3,q4,q5⟩:=NV (d:=d) hp hh hc;have dead:∀f,f<(aC C s i d).s.nf->live ((aC C s i d).s.loc f)=false:=λf hf=>by
      rw[q1,cA];split
      ·rfl
      ·next f0 =>
       cases hh:live (s.loc f)with
       | false=>rfl
       | true=>exact absurd (r4 f (q2▸ hf) hh) f0
     obtain⟨φ,σ,γ,pu,sl,si,ws,ci,li,mk⟩:=cs;rw[aM hp,r1]at ci li;have hm:F4 (aC C s i d).s=T:=by
      unfold F4;rw[pP (g:=λ_=>1) (λf hf2 => ?_),Kn,q2,r2];have hlf:=dead f hf2;have he:early ((aC C s i d).s.loc f)=false:=by
       have:=hf'.used f hf2;have:(aC C s i d).s.loc f≠.free:=this;cases e:(aC C s i d).s.loc f<;>rw[e]at hlf this<;>first | rfl | exact absurd rfl this | cases hlf
      rcases mk.2 f hf2 he with m | ⟨k,k1,k2,k3⟩
      ·have m:(aC C s i d).s.mem (.mark f)=1:=m;show((aC C s i d).s.mem (.mark f)).toNat=1;rw[m];rfl
      ·exfalso
       have k4:=hf'.hold k f k1 k3;have hlf:live ((view (aC C s i d).s).loc f)=false:=hlf;rcases k4 with k4 | k4<;>(rw[k4.2]at hlf;cases hlf)
     have cl:=ci.all Oa hd' (λf=>by
      have:=mk.1 f;change (aC C s i d).s.mem (.mark f)=0∨(aC C s i d).s.mem (.mark f)=1 at this;omega)
     rw[q2,r2]at cl;exact⟨hn',.inr ⟨dead,I,cl⟩⟩
  ·intro x x1 x2;have m:(C.N+16)*T<=(C.N+24)*T:=rQ _ I;refine⟨λh => ?_,by rcases hH with ⟨_,b⟩ | ⟨_,b⟩<;>omega⟩
   exfalso
   rcases NU (C:=C) (s:=s) (i:=i) d with e | ⟨y,y1,y2,y3⟩
   ·rw[e]at h;exact h hv
   ·rw[x1]at y1;cases y1;omega
 ·obtain⟨t1,t2,t3⟩:=XH tr hi hf ac1;have t1:busy (sig (s.pc i))=false:=t1;rw[dD t1]at eH;subst eH;constructor
  ·exact λh11=>⟨nf' h11,.inr ⟨λf hf=>t3 f (by have t2:(aC C s i d).s.nf=s.nf:=t2;show f<s.nf;omega),b1,b2⟩⟩
  ·exact λx x1 x2=>absurd x2 ((tr.idle t1).2 x x1).1
end
end Am
end
section
namespace Mo
open Go SL GX
section
variable {K:Nat}{p:aH}{N F f m:Nat}
def F5(args:List Int):Am.LY:=⟨0,1,1,λr=>if(0:Nat)=0 then GX.J args r else 0⟩
theorem Vt{args:List Int}(hv:Valid p)(IV:X2 p)(aar:∀x∈args,Jb x)(hK:4200000<K)(hc :∃x,jU K p=some x/\x.wQ=0)(ha:(args.length:Int)=(GX.J p.ah 0).aS) :
 ∃r e,rO K p args 65536=some (r,e)/\(e=0->∃(v:Int) (n t:Nat),Am.Dn (cfg p N F f m) (F5 args) (v,n,t)/\r.V=v/\r.j0=n/\r.yH=t/\n<=65536/\t<=n):=by
 obtain⟨x,c1,c2⟩:=hc;have hR:oE K p args 65536=some 0:=by
  unfold oE;have:=hv.n1;rw[c1,aq,aM c2,aM ⟨I,I⟩,aM ha,eu,eu]
 have hp8:=(hv.GO 0 hv.n1).p8;have e1:∀r,r<16->(if r<args.length then GX.J args r else 0)=(F5 args).a0 r:=λr hr=>by
  show _=(if(0:Nat)=0 then GX.J args r else 0);rw[aM rfl];split
  ·rfl
  ·next hh=>unfold GX.J;rw[List.getD_eq_getElem?_getD,List.getElem?_eq_none I];rfl
 have e2:∀r,r<16->uu ((F5 args).a0 r):=λr hr=>by
  show uu (if(0:Nat)=0 then GX.J args r else 0);rw[aM rfl];by_cases hh:r<args.length
  ·have:=aar _ (tD hh);unfold Jb at this;unfold uu;omega
  ·unfold GX.J;rw[List.getD_eq_getElem?_getD,List.getElem?_eq_none I];show uu 0;unfold uu;omega
 have afV:Vj (⟨65536,0,([]:List fg),0⟩:bB) 0:=⟨rfl,by show(0:Int)<=65536;decide,by show(65536:Int)<=4194304;decide,by show((0:Nat):Int)+65536<=9000000;decide⟩;obtain⟨v,JL,S',hr,hsn⟩:=Q5 (N:=N) (F:=F) (f:=f) (m:=m) hv IV hK K 0 1 1 (F5 args).a0 (⟨-1,0,0,0,1,0,0⟩:fg) (⟨65536,0,([]:List fg),0⟩:bB) args hv.n1 rfl rfl (by unfold uu;omega) I e1 e2 afV (by show((0:Nat):Int)+1+65536<=9000000;decide) dO I;have r1:qH K (⟨65536,0,([]:List fg),0⟩:bB) p.ah (⟨-1,0,0,0,1,0,0⟩:fg) args 1=some (v,JL,S'):=hr;unfold rO tI;rw[hR,aq,aM rfl,r1,dc];by_cases h0:S'.wQ=0
 ·rw[aM h0,dc];refine⟨_,_,rfl,λ_ => ?_⟩;obtain⟨z,a,n,t,b1,b2,b3,b4,b5,b6,b7,b8⟩:=hsn h0;have b6:((n+1:Nat):Int)<=65536:=b6;have b5:S'.Left=65536-((n+1:Nat):Int):=b5;have b7:S'.bI.length=0+(t+1):=b7;have htn:=(PJ b1).1;refine⟨v,n+1,t+1,⟨z,a,n,t,b1,b2,by rw[b3]⟩,rfl,?_,?_,I,I⟩
  ·show wi (65536-S'.Left)=_;rw[b5,eO I];omega
  ·show((S'.bI.length:Nat):Int)=_;rw[b7];omega
 ·rw[bZ h0,dc];exact⟨_,_,rfl,λh=>absurd h h0⟩
theorem PM{c:gh}{a:List Int}{n:Int}{mz:eL}(e:jo K (⟨c.ig⟩:aH) a n mz=some 0) :∃x,jU K (⟨c.ig⟩:aH)=some x/\x.wQ=0:=by
 unfold jo at e;cases h2:jU K (⟨c.ig⟩:aH)with
 | none=>rw[h2]at e;cases e
 | some x =>
  refine⟨x,rfl,?_⟩;rw[h2,aq]at e;by_cases hx:x.wQ=0
  ·exact hx
  ·rw[bZ hx]at e;cases e
theorem XI{args:List Int}(hv:Valid p){v:Int}{afU T:Nat}(hN:1<=N)(hD:Am.Dn (cfg p N F f m) (F5 args) (v,afU,T)):Am.CJ (cfg p N F f m) (F5 args) (init (cfg p N F f m) args) 0 0 0:=by
 obtain⟨φ,_⟩:=XD (N:=N) (F:=F) (f:=f) (m:=m) hv;have hlv:Am.lv (init (cfg p N F f m) args) 0=1:=rfl;refine⟨φ,λ_ _=>1,⟨λ_ _=>none,λ_=>F5 args,λ_=>0,λ_=>0⟩,λ_=>0,⟨?_,?_,?_,?_,?_⟩,⟨?_,?_,rfl,?_,?_,?_,?_⟩,⟨?_,?_,?_,?_,?_⟩,⟨?_,?_,?_,?_,?_,?_⟩,ja _,?_,?_⟩
 ·intro f' hf _ c hc;exact φ.r0 0 hv.n1 c hc
 ·intro f' _ _ k hk;cases hk
 ·intro i c _ h;have h:(if i=0 then Am.Pc.start (-1)else .jQ)= .fork c:=h;split at h<;>cases h
 ·intro f' k hk;cases hk
 ·intro i c _ h;have h:(if i=0 then Am.Pc.start (-1)else .jQ)= .fork c:=h;split at h<;>cases h
 ·intro k hk _ _;have hk:k<1:=hk;have e:k=0:=by omega
  subst e;intro vs _;exact Am.Pre.nil _ _ _ _
 ·intro k hk;have hk:k<1:=hk;have e:k=0:=by omega
  subst e;exact⟨rfl,rfl,ja _⟩
 ·intro k x c h;cases h
 ·intro c h0 hc _;have hc:c<1:=hc;omega
 ·intro k _;exact⟨λ_=>rfl,rfl,rfl,λ_=>rfl⟩
 ·exact ja _
 ·rfl
 ·rfl
 ·intro k hk h0 _;have hk:k<1:=hk;omega
 ·intro k x c h;cases h
 ·intro k hk _;have hk:k<1:=hk;have e:k=0:=by omega
  subst e;exact⟨_,hD⟩
 ·rw[Am.sK (λj _=>by show Am.yt _ j (if j=0 then Am.Pc.start (-1)else .jQ)=0;split<;>rfl)];exact xM _
 ·show Am.fU (λ_=>0) N+1=1;rw[Am.sK (λ_ _=>rfl)]
 ·intro j _;show Am.zg (if j=0 then Am.Pc.start (-1)else .jQ) 0<=((0:Nat):Int);split<;>exact xN _
 ·intro j _ h;have h:1<=0:=h;omega
 ·intro j _;show Am.LI (if j=0 then Am.Pc.start (-1)else .jQ);split<;>trivial
 ·intro j _;show Am.wt _ j (if j=0 then Am.Pc.start (-1)else .jQ);split<;>trivial
 ·exact λk=>.inl rfl
 ·intro k hk _;have hk:k<1:=hk;have e:k=0:=by omega
  subst e;exact .inr ⟨0,hN,rfl,rfl⟩
end
section
variable {K:Nat}{C:Am.jt}{p:aH}{sz:Nat}
theorem LL{i:Nat}{o:Option Am.Ev}:(Ux i o).aP=11↔∃x,o=some x/\x.kind=11:=by
 cases o with
 | none=>exact⟨λh=>by have h:(0:Int)=11:=h;omega,λ⟨x,h,_⟩=>by cases h⟩
 | some x=>exact⟨λh=>⟨x,rfl,by have h:(x.kind:Int)=11:=h;omega⟩,λ⟨y,h,h2⟩=>by cases h;show(x.kind:Int)=11;omega⟩
def BG(C:Am.jt)(ps:List Int)(s:Am.St)(H g:Nat):Prop:=H<=g/\(H=0->Am.Q0 (Am.wv s)/\∀k,k<g->iF (GX.J ps k) (C.N:Int)≠some 0)
theorem FP{c:gh}{D0:Am.LY}{v:Int}{afU T:Nat}(hD:Am.Dn C D0 (v,afU,T))(hK:2000000<K)(hp:c.gH.length<=1048576):∀(e k g:Nat) (s:Am.St) (S:af) (M:ag) (D:aV) (H:Nat),zj C p s S M sz g->c.di=C.N->Am.KA C D0 afU T s H g->BG C c.gH s H g->g+e=c.gH.length->e<k->
 ∃(S':af) (M':ag) (H':Nat) (s':Am.St),fS K c k S M D (H:Int) (g:Int)=some (.inl (S',M',(H':Int)))/\Am.KF C afU T s' H'/\S'.left=s'.val.isSome/\(H'=0->∀k,k<c.gH.length->iF (GX.J c.gH k) (C.N:Int)≠some 0)
 | e,k,g,s,S,M,D,H,b,hN,ka,bg,he,hk=>by
  obtain⟨k,rfl⟩ :∃m,k=m+1:=⟨k-1,I⟩;have n64:=b.ok.n64;have n1:=b.ok.n1;have hHg:=bg.1;rw[fS];by_cases hg:g<c.gH.length
  ·obtain⟨e,rfl⟩ :∃m,e=m+1:=⟨e-1,I⟩;obtain⟨i,hm,hin⟩:=QU (x:=GX.J c.gH g) (n:=c.di) (by rw[hN];omega) (by rw[hN];omega);have hi:i<C.N:=by rw[hN]at hin;omega
   obtain⟨S',M',e1,e2,e3,e4⟩:=Pw (K:=K) (D:=D) b hi I;have b':=UY b hi e2 e3 I;have tr:=Am.EN b.fi b.dt hi (BU D);have hmN:iF (GX.J c.gH g) (C.N:Int)=some (i:Int):=by rw[<-hN];exact hm
   have i0:H=0->s.hold i=none->i≠0:=λh0 hh e=>by
    subst e;have q:s.hold 0=some 0:=(bg.2 h0).1.2.2.1;rw[q]at hh;cases hh
   rw[sR,aM ⟨I,I⟩,cL,hm,aq,NO b.jX hi,aq,e1,SS,aM rfl];cases hh:s.hold i with
   | none =>
    rw[bZ (by show ¬(-1:Int)>=0;decide)];obtain⟨k1,k2⟩:=Am.Q6 (H':=H) b.ok ka b.fr b.fi b.dt b.z hi (d:=BU D) hD (.inl ⟨hh,rfl⟩) b'.z b'.dt b'.fi;by_cases h11:(Ux i (Am.aC C s i (BU D)).ev).aP=11
    ·rw[aM h11];obtain⟨x,x1,x2⟩:=LL.1 h11;refine⟨_,_,H,_,rfl,k2 x x1 x2,b'.jX.left,λh0 => ?_⟩;exact absurd x2 (((bg.2 h0).1.aC tr (i0 h0 hh) hi b.fi).2 x x1).1
    ·rw[bZ h11,D5 I];refine FP hD hK hp e k (g+1) _ _ _ _ H b' hN (k1 λx x1 x2=>h11 (LL.2 ⟨x,x1,x2⟩)) ⟨I,λh0=>⟨((bg.2 h0).1.aC tr (i0 h0 hh) hi b.fi).1,λj hj => ?_⟩⟩ I I;by_cases ej:j=g
     ·subst ej;rw[hmN];intro h;have:(i:Int)=0:=Option.some.inj h;exact i0 h0 hh I
     ·exact(bg.2 h0).2 j I
   | some fr =>
    rw[aM (by show((fr:Nat):Int)>=0;omega),D5 (i:=H) I];obtain⟨k1,k2⟩:=Am.Q6 (H':=H+1) b.ok ka b.fr b.fi b.dt b.z hi (d:=BU D) hD (.inr ⟨by rw[hh];simp,rfl⟩) b'.z b'.dt b'.fi;by_cases h11:(Ux i (Am.aC C s i (BU D)).ev).aP=11
    ·rw[aM h11];obtain⟨x,x1,x2⟩:=LL.1 h11;exact⟨_,_,H+1,_,rfl,k2 x x1 x2,b'.jX.left,λh0=>I⟩
    ·rw[bZ h11,D5 I];exact FP hD hK hp e k (g+1) _ _ _ _ (H+1) b' hN (k1 λx x1 x2=>h11 (LL.2 ⟨x,x1,x2⟩)) ⟨I,λh0=>I⟩ I I
  ·rw[eu];refine⟨_,_,H,s,rfl,Am.aaq ka b.fr b.fi b.dt b.z hD,b.jX.left,λh0 j hj=>(bg.2 h0).2 j I⟩
theorem NX{c:gh}(h:c.qZ.length<=1048576)(hp:c.gH.length<=1048576)(IV:X2 ⟨c.ig⟩)(aar:∀x∈c.zD,Jb x)(hK:4200000<K):lq K c=some true:=by
 unfold lq;obtain⟨e,r1,r2,r3,r4⟩:=RH (K:=K) ⟨c.ig⟩ c.zD c.di ⟨c.gw,c.gG,c.jf⟩ I;by_cases he:e=0
 ·subst he;obtain⟨hv,ha,Vw,hn2,hl⟩:=r4 rfl;obtain⟨N,hN⟩ :∃N:Nat,c.di=N:=⟨c.di.toNat,I⟩;have f1:=hl.f1;have f2:=hl.f2;have a1:=hl.a1;have a2:=hl.a2;have m2:=hl.m2;simp only at f1 f2 a1 a2 m2;obtain⟨F,hF⟩ :∃F:Nat,c.gw=F:=⟨c.gw.toNat,I⟩;obtain⟨f,hf⟩ :∃f:Nat,c.gG=f:=⟨c.gG.toNat,I⟩;obtain⟨m,hm⟩ :∃m:Nat,c.jf=m:=⟨c.jf.toNat,I⟩;have ae0:=PM r1;rw[hN]at r1 r2 Vw hn2;obtain⟨afV,q1,q2,q3,q4,q5⟩:=QT (K:=K) (N:=N) (F:=F) (mz:=⟨c.gw,c.gG,c.jf⟩) (f:=f) (m:=m) hl hF hf hm I I I;obtain⟨sz,hsz⟩ :∃sz:Nat,sz=4+10*F+N+N*(4+f+tq f m afV):=⟨_,rfl⟩;rw[<-hsz]at q4 q5;have hNW:N*(4+f)<=N*(4+f+tq f m afV):=Nat.mul_le_mul_left _ I;rw[hN,q4,aq];unfold vO xU;rw[aM (show((sz:Nat):Int)>=0 by omega),tJ (show((sz:Nat):Int)<=1048576 by omega),aq,aM rfl,eF]
  dsimp only
  rw[r1,aq];obtain⟨n1,n2⟩:=ZO (K:=K) (sz:=sz) (a:=0) (w:=false) (N:=N) (F:=F) (afU:=4+f) hv ha hl hF I I (by first | omega | (simp only;omega)) I I I r2;obtain⟨cs,e1,e2,e3⟩:=n1 I
  dsimp only at e1 e2
  rw[show(⟨((sz:Nat):Int),0,([]:List Int),([]:List bl),0,false⟩:ag)=ar sz [] [] 0 false from rfl,e1,dc]
  dsimp only
  have hfe:((f:Nat):Int)=c.gG:=hf.symm;have b:=U1 (p:=⟨c.ig⟩) (args:=c.zD) (N:=N) (F:=F) (f:=f) (m:=m) (sz:=sz) (afV:=afV) (c:=cs) (l:=yg false [] (uq 0 N F c.gG)) (w:=false) (x:=0) hv ha I I I I I I I q1 hsz q5 (by rw[hfe];exact e3) rfl;rw[<-hm]at b;rw[aM rfl,aM rfl];obtain⟨r,er,y1,y2⟩:=Vt (K:=K) (p:=⟨c.ig⟩) (N:=N) (F:=F) (f:=f) (m:=m) (args:=c.zD) hv IV aar hK ae0 ha;rw[y1,eF];by_cases h0:er=0
  ·obtain⟨v,afU,T,hD,z1,z2,z3,z4,z5⟩:=y2 h0;have hka:Am.KA (cfg ⟨c.ig⟩ N F f m) (F5 c.zD) afU T (init (cfg ⟨c.ig⟩ N F f m) c.zD) 0 0:=⟨(λj _ h=>by
    have h:(if j=0 then Am.Pc.start (-1)else .jQ)= .full:=h;split at h<;>cases h),.inl ⟨rfl,rfl,0,XI hv I hD⟩⟩
   obtain⟨S',M',H',s',l1,l2,l3,l4⟩:=FP (K:=K) (c:=c) hD I hp c.gH.length K 0 _ _ _ ⟨c.qZ⟩ 0 b hN hka ⟨ja _,λ_=>⟨⟨rfl,rfl,rfl,rfl⟩,λk hk=>absurd hk (Nat.not_lt_zero _)⟩⟩ I I;rw[rj]at l1;rw[aM h0,sR,l1,V3];unfold rh;obtain⟨l5,l6⟩:=l2;have l6:H'<=2*afU+(N+24)*T:=l6;have hmul:(N+24)*T<=88*65536:=Nat.mul_le_mul I I;have ac2:((N:Int)+24)*(T:Int)=(((N+24)*T:Nat):Int):=by rw[Int.natCast_mul,Int.natCast_add];rfl
   rw[eF,l3,z2,z3];have last:(if(H':Int)>0 then some true else eA (pL K c) λr=>some !r)=some true:=by
    by_cases hH:(H':Int)>0
    ·rw[aM hH]
    ·rw[bZ hH];unfold pL;obtain⟨bb,b1,b2⟩:=QW (K:=K) (c:=c) hp hN I I c.gH.length K 0 I I;rw[rj]at b1;rw[b1,aq];cases bb with
     | false=>rfl
     | true =>
      obtain⟨x,x1,x2⟩:=b2 rfl;exact absurd x2 (l4 I x x1)
   rw[eO (x:=2*(afU:Int)) I,eO (x:=(N:Int)+24) I,ac2,eO (x:=(((N+24)*T:Nat):Int)) I,eO (x:=2*(afU:Int)+(((N+24)*T:Nat):Int)) I,eO (x:=(afU:Int)+(T:Int)) I,aM (show(H':Int)<=2*(afU:Int)+(((N+24)*T:Nat):Int) by omega),last];cases hval:s'.val with
   | none=>rw[bZ (by simp),fB]
   | some x =>
    have:=l5 (by rw[hval];simp);rw[aM (by simp),eu,fB]
  ·rw[bZ h0];have hh:=NO (M:=ar sz cs (yg false [] (uq 0 N F c.gG)) 0 false) b.jX (j:=0) (by show 0<N;omega);rw[rj]at hh;rw[hh,aq];rfl
 ·obtain⟨r,q1,q2,q3⟩:=U2 (K:=K) c.di ⟨c.gw,c.gG,c.jf⟩ I;rw[q1,aq];unfold vO xU;rw[aM (show r>=0 by omega),tJ (show r<=1048576 by omega),aq,aM rfl,eF]
  dsimp only
  rw[r1,aq,ZP r2 he,dc]
  dsimp only
  rw[aM rfl,bZ he]
end
end Mo
end
end Go.Proofs.YtaiffafelihaaaaGreatDoor
