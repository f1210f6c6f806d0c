/- A part of the proof of what Z6 states. Conditions: none. -/
import Derived.Test.YtaiffafelihaaaaGreatDoorZ4
set_option linter.unusedVariables false
set_option linter.unusedSimpArgs false
set_option linter.unusedSectionVars false
set_option maxRecDepth 100000
set_option maxHeartbeats 4000000
set_option autoImplicit true
set_option relaxedAutoImplicit true
namespace Go.Proofs.YtaiffafelihaaaaGreatDoor
open Proofs.Tryz
section
namespace Am
def sg(C:jv):Nat->Nat
 | 0=>0
 | g+1=>sg C g+uG C g
theorem IU{C:jv}:∀{g:Nat},uG C g<C.most->(∀k,k<g->uG C k<C.most)->sg C g<=uG C g
 | 0,_,_=>w7 _
 | g+1,h,hk=>by
  have h1:=hk g I;have ih:=IU h1 (λk hk'=>hk k I);simp only[uG]at h⊢;simp only[sg];omega
theorem zL{f g:Nat->Nat}{i:Nat}:∀{n:Nat},i<n->(∀j,j≠i->g j=f j)->fA g n+f i=fA f n+g i
 | n+1,hi,h=>by
  simp only[fA];by_cases hn:i=n
  ·subst hn;rw[oQ (f:=g) (g:=f) (λj hj=>h j I)];omega
  ·have:=zL (n:=n) I h;rw[h n I];omega
def OG(C:jv)(i j:Nat):Nat:=(i+C.N-j)%C.N
def zm(C:jv)(i:Nat):Pc->Nat
 | .fork _=>C.N+11
 | .ya _=>C.N+10
 | .wG .. => C.N+9
 | .oF .. => C.N+8
 | .oG .. => C.N+7
 | .grow .. => C.N+6
 | .lY .. => C.N+5
 | .js .. => C.N+4
 | .iZ .. => C.N+4
 | .lD .. => C.N+4
 | .ja .. => C.N+3
 | .nC .. => C.N+2
 | .Cs=>C.N+1
 | .vk j=>OG C i j+1
 | .yq _=>1
 | .nB=>1
 | _=>0
def gp:Pc->Nat
 | .js _ _ t _ n=>2*(n-t).toNat
 | .iZ _ _ t _ n _=>2*(n-t).toNat+1
 | .lD _ b t _=>2*(b-t).toNat
 | _=>0
def Ai(p:Pc)(B:Int):Int:=
 match p with
 | .zi b=>b+1
 | .sD b _=>b+1
 | .nD b _ _=>b+1
 | .qH b _ _=>b+1
 | .sC t=>t
 | .oP t _ _=>t+1
 | .fork _ | .ya _ | .wG .. | .oF .. | .oG .. | .grow .. | .lY .. | .js .. | .iZ .. | .lD .. | .ja .. | .nC .. => B+1
 | _=>B
def MG(p:Pc):Prop:=
 match p with
 | .oF _ _ t=>0<=t
 | .oG _ _ t=>0<=t
 | .grow _ _ t _=>0<=t
 | .lY _ _ t _=>0<=t
 | .js _ _ t _ _=>0<=t
 | .iZ _ _ t _ _ _=>0<=t
 | .lD _ _ t _=>0<=t
 | _=>True
def wt(C:jv)(i:Nat)(p:Pc):Prop:=
 match p with
 | .vk j=>j<C.N/\j≠i
 | _=>True
def Ig(s:St):Nat:=fA (λf=>(s.mem (.mark f)).toNat) s.nf
structure CI(C:jv)(s:St)(pu:Nat->Nat)(H agd:Nat):Prop where
 h:H+fA (λj=>zm C j (s.pc j)) C.N<=2*agd+Ig s+fA (λj=>(C.N+11)*pu j+(2*sg C (s.cur j)+gp (s.pc j))) C.N
 pn:fA pu C.N+1=s.nf
 b:∀j,j<C.N->Ai (s.pc j) (s.mem (.bot j))<=pu j
 c:∀j,j<C.N->1<=s.cur j->uG C (s.cur j-1)<=pu j
 t:∀j,j<C.N->MG (s.pc j)
 w:∀j,j<C.N->wt C j (s.pc j)
section
variable {C:jv}{s:St}{i:Nat}{pu:Nat->Nat}{H agd:Nat}
theorem CI.up(h:CI C s pu H agd)(hi:i<C.N){s':St}{p:Pc}(c k dH dI dS:Nat)(h1:s'.pc=ck s.pc i p)(h2:s'.cur=ck s.cur i c)(h3:s'.nf=s.nf+k)(hS:Ig s+dS<=Ig s')
 (hB:∀j,j≠i->s'.mem (.bot j)=s.mem (.bot j))
 (hr:zm C i p+dH+2*sg C (s.cur i)+gp (s.pc i)<=zm C i (s.pc i)+2*dI+dS+(C.N+11)*k+2*sg C c+gp p)
 (hb:Ai p (s'.mem (.bot i))<=((pu i+k:Nat):Int)) (hc:1<=c->uG C (c-1)<=pu i+k) (ht:MG p) (hw:wt C i p):CI C s' (ck pu i (pu i+k)) (H+dH) (agd+dI):=by
 have pi:s'.pc i=p:=by rw[h1,aC]
 have pj:∀j,j≠i->s'.pc j=s.pc j:=λj hj=>by rw[h1,aA hj]
 have ci:s'.cur i=c:=by rw[h2,aC]
 have cj:∀j,j≠i->s'.cur j=s.cur j:=λj hj=>by rw[h2,aA hj]
 have qi:ck pu i (pu i+k) i=pu i+k:=aC _ _ _;have qj:∀j,j≠i->ck pu i (pu i+k) j=pu j:=λj hj=>aA hj;constructor
 ·have e1:=zL (f:=λj=>zm C j (s.pc j)) (g:=λj=>zm C j (s'.pc j)) hi (λj hj=>by show zm C j (s'.pc j)=_;rw[pj j hj]);have e2:=zL (f:=λj=>(C.N+11)*pu j+(2*sg C (s.cur j)+gp (s.pc j))) (g:=λj=>(C.N+11)*ck pu i (pu i+k) j+(2*sg C (s'.cur j)+gp (s'.pc j))) hi (λj hj=>by
   show(C.N+11)*ck pu i (pu i+k) j+(2*sg C (s'.cur j)+gp (s'.pc j))=_;rw[pj j hj,cj j hj,qj j hj])
  simp only[pi,ci,qi]at e1 e2;have e3:=h.h;rw[Nat.mul_add]at e2;omega
 ·have:=nJ (f:=pu) (g:=ck pu i (pu i+k)) hi qj qi;have:=h.pn;omega
 ·intro j hj;by_cases e:j=i
  ·subst e;rw[pi,qi];exact hb
  ·rw[pj j e,qj j e,hB j e];exact h.b j hj
 ·intro j hj;by_cases e:j=i
  ·subst e;rw[ci,qi];exact hc
  ·rw[cj j e,qj j e];exact h.c j hj
 ·intro j hj;by_cases e:j=i
  ·subst e;rw[pi];exact ht
  ·rw[pj j e];exact h.t j hj
 ·intro j hj;by_cases e:j=i
  ·subst e;rw[pi];exact hw
  ·rw[pj j e];exact h.w j hj
theorem CI.adq(h:CI C s pu H agd)(hz:SZ C s)(hd:DT C s):∀j,j<C.N->2*sg C (s.cur j)+gp (s.pc j)<=4*pu j:=by
 intro j hj;have hc:=h.c j hj;have base:sg C (s.cur j)<=2*pu j:=by
  cases e:s.cur j with
  | zero=>exact w7 _
  | succ g =>
   rw[e]at hc;have h1:uG C g<C.most:=hz.gm j hj g (by unfold gen;omega);have h2:=IU h1 (λk hk=>hz.gm j hj k (by unfold gen;omega));have h3:=hc I;simp only[Nat.add_sub_cancel]at h3;simp only[sg];omega
 have hD:=(hd.1 j hj).ph;have hb:=h.b j hj;have ht:=h.t j hj;have hcap:s.cc j=uG C (s.cur j):=hz.cap j hj _ (gQ _);have key:∀b t cc:Int,EB C s j b t cc->0<=t->s.mem (.bot j)+1<=pu j->sg C (s.cur j)<=uG C (s.cur j)/\((uG C (s.cur j):Nat):Int)=b-t/\uG C (s.cur j)+1<=pu j:=λb t cc g h0 hp=>by
  obtain⟨g1,g2,g3,g4,g5,g6,g7⟩:=g;have g1:s.mem (.bot j)=b:=g1;refine⟨IU I (λk hk=>hz.gm j hj k (by unfold gen;omega)),I,I⟩
 unfold rJ at hD;cases hp:s.pc j<;>rw[hp]at hD hb ht<;>simp only[gp,w6]<;>first | omega | skip
 ·simp only at hD;obtain⟨k1,k2,k3⟩:=key _ _ _ hD.1 ht hb;have:=hD.2.2;omega
 ·simp only at hD;obtain⟨k1,k2,k3⟩:=key _ _ _ hD.1 ht hb;have:=hD.2.2;omega
 ·simp only at hD;obtain⟨k1,k2,k3⟩:=key _ _ _ hD.1 ht hb;omega
theorem MH{s':St}(hm:∀f,s'.mem (.mark f)=s.mem (.mark f))(hn:s.nf<=s'.nf):Ig s<=Ig s':=by
 unfold Ig;rw[oQ (f:=λf=>(s'.mem (.mark f)).toNat) (g:=λf=>(s.mem (.mark f)).toNat) (λj _=>by show(s'.mem (.mark j)).toNat=_;rw[hm])];obtain⟨k,hk⟩:=Nat.le.dest hn;rw[<-hk];clear hk hn
 induction k with
 | zero=>exact gQ _
 | succ k ih=>exact ET ih (Nat.le_add_right _ _)
theorem Aj{α β:Type}[DecidableEq α](f:α->β)(a:α):ck f a (f a)=f:=by
 funext x;rw[cG];split
 ·next e=>rw[e]
 ·rfl
theorem CI.one(h:CI C s pu H agd)(hi:i<C.N){s':St}{p:Pc}(dH:Nat)(h1:s'.pc=ck s.pc i p)(h2:s'.cur=s.cur)(h3:s'.nf=s.nf)(hm:∀f,s'.mem (.mark f)=s.mem (.mark f))(hB:∀j,j≠i->s'.mem (.bot j)=s.mem (.bot j))
 (hr:zm C i p+dH+gp (s.pc i)<=zm C i (s.pc i)+gp p) (hb:Ai p (s'.mem (.bot i))<=pu i) (ht:MG p) (hw:wt C i p):CI C s' pu (H+dH) agd:=by
 have:=h.up hi (s.cur i) 0 dH 0 0 h1 (by rw[h2,Aj]) h3 (by have:=MH (s:=s) hm I;omega) hB I (by simpa using hb) (λhc=>by have:=h.c i hi hc;omega) ht hw;rw[w6,Aj]at this;exact this
def uF.mb:uF->Bool
 | .mark _ | .bot _=>true
 | _=>false
theorem qD{a:uF}{v:Int}(ha:a.mb=false):∀x:uF,x.mb=true->(s.wr a v).mem x=s.mem x:=λx hx=>jX (by rintro rfl;rw[ha]at hx;cases hx)
theorem CI.q0(h:CI C s pu H agd)(hi:i<C.N){s':St}{p:Pc}(dH:Nat)(h1:s'.pc=ck s.pc i p)(h2:s'.cur=s.cur)(h3:s'.nf=s.nf)(hm:∀x:uF,x.mb=true->s'.mem x=s.mem x)
 (hr:zm C i p+dH+gp (s.pc i)<=zm C i (s.pc i)+gp p) (hb:Ai p (s.mem (.bot i))<=pu i) (ht:MG p) (hw:wt C i p):CI C s' pu (H+dH) agd:=
 h.one hi dH h1 h2 h3 (λf=>hm _ rfl) (λj _=>hm _ rfl) hr (by rw[hm (.bot i) rfl];exact hb) ht hw
theorem CI.q(h:CI C s pu H agd)(hi:i<C.N){s':St}{p O:Pc}(hp:s.pc i=O)(dH:Nat)(h1:s'.pc=ck s.pc i p)(hb:Ai p (s.mem (.bot i))<=pu i)(hm:∀x:uF,x.mb=true->s'.mem x=s.mem x:=by exact λ_ _=>rfl)(ht:MG p:=by trivial)(hw:wt C i p:=by trivial)(h2:s'.cur=s.cur:=by rfl)(h3:s'.nf=s.nf:=by rfl)
 (hr:zm C i p+dH+gp O<=zm C i O+gp p:=by simp only[zm,gp];omega):CI C s' pu (H+dH) agd:=
 h.one hi dH h1 h2 h3 (λf=>hm _ rfl) (λj _=>hm _ rfl) (by rw[hp];exact hr) (by rw[hm (.bot i) rfl];exact hb) ht hw
theorem CI.wb(h:CI C s pu H agd)(hi:i<C.N){s':St}{p:Pc}{v:Int}(dH:Nat)(h1:s'.pc=ck s.pc i p)(h2:s'.cur=s.cur)(h3:s'.nf=s.nf)(hm:s'.mem=(s.wr (.bot i) v).mem)
 (hr:zm C i p+dH+gp (s.pc i)<=zm C i (s.pc i)+gp p) (hb:Ai p v<=pu i) (ht:MG p) (hw:wt C i p):CI C s' pu (H+dH) agd:=
 h.one hi dH h1 h2 h3 (λf=>by rw[hm];exact jX qv) (λj hj=>by rw[hm];exact jX (by intro e;injection e with e;exact hj e)) hr (by rw[hm];show Ai p (ck s.mem (.bot i) v (.bot i))<=_;rw[aC];exact hb) ht hw
theorem Wy(hi:i<C.N)(j:Nat):Kp C j<C.N:=Nat.mod_lt _ I
theorem Wz{j:Nat}(hi:i<C.N)(hj:j<C.N)(h:j≠i)(hn:Kp C j≠i):OG C i (Kp C j)+1=OG C i j:=by
 unfold Kp at hn⊢;unfold OG;by_cases e:j+1=C.N
 ·rw[e,Nat.mod_self]at hn⊢;rw[Nat.sub_zero,M0,xR hi,show i+C.N-j=i+1 by omega,xR I]
 ·have:(j+1)%C.N=j+1:=xR I;rw[this]at hn⊢;rcases BZ i j with h' | h'
  ·rw[xR I,xR I];omega
  ·rw[show i+C.N-(j+1)=i-(j+1)+C.N by omega,show i+C.N-j=i-j+C.N by omega,M0,M0,xR I,xR I];omega
theorem Qh(hi:i<C.N)(h1:1<C.N):OG C i (Kp C i)+1=C.N/\Kp C i≠i:=by
 unfold Kp OG;by_cases e:i+1=C.N
 ·rw[e,Nat.mod_self];rw[Nat.sub_zero,M0,xR hi];omega
 ·rw[xR (show i+1<C.N by omega),show i+C.N-(i+1)=C.N-1 by omega,xR I];omega
theorem WA{j:Nat}(hi:i<C.N)(hj:j<C.N)(h:j≠i):1<=OG C i j:=by
 unfold OG;rcases BZ i j with h' | h'
 ·rw[xR I];omega
 ·rw[show i+C.N-j=i-j+C.N by omega,M0,xR I];omega
theorem CI.AW(h:CI C s pu H agd)(hi:i<C.N){s' s0:St}(hp:s0.pc=s.pc)(h2:s'.cur=s.cur)(h3:s'.nf=s.nf)(e:s'=Am.AW s0 C i)(hm:∀x:uF,x.mb=true->s'.mem x=s.mem x)(hr:gp (s.pc i)=0)(hb:s.mem (.bot i)<=pu i):CI C s' pu H agd:=by
 subst e;have:(Am.AW s0 C i).pc=ck s.pc i (if C.N=1 then .flag else .lS):=by show ck s0.pc i _=_;rw[hp]
 split at this
 ·exact h.q0 (p:=.flag) hi 0 this h2 h3 hm (by rw[hr];simp only[zm,gp];omega) hb trivial trivial
 ·exact h.q0 (p:=.lS) hi 0 this h2 h3 hm (by rw[hr];simp only[zm,gp];omega) hb trivial trivial
theorem CI.tel(h:CI C s pu H agd)(hi:i<C.N){s0:St}{j:Nat}{a:Option Acc}(hp:s0.pc=s.pc)(h2:s0.cur=s.cur)(h3:s0.nf=s.nf)(hm:∀x:uF,x.mb=true->s0.mem x=s.mem x)(hr:gp (s.pc i)=0)(hb:s.mem (.bot i)<=pu i):CI C (n8 s0 C i j a).s pu H agd:=by
 unfold n8;split
 ·exact h.q0 (p:=.halted) hi 0 (by show ck s0.pc i _=_;rw[hp]) h2 h3 hm (by rw[hr];simp only[zm,gp];omega) hb trivial trivial
 ·exact h.q0 (p:=.tell j) hi 0 (by show ck s0.pc i _=_;rw[hp]) h2 h3 hm (by rw[hr];simp only[zm,gp];omega) hb trivial trivial
theorem CI.lok(h:CI C s pu H agd)(hi:i<C.N){j:Nat}{a:Option Acc}(hr:gp (s.pc i)=0)(hb:s.mem (.bot i)<=pu i):CI C (looking s C i j a).s pu H agd:=by
 unfold looking;split
 ·exact h.q0 (p:=.parked) hi 0 rfl rfl rfl (λ_ _=>rfl) (by rw[hr];simp only[zm,gp];omega) hb trivial trivial
 ·exact h.q0 (p:=.GY j) hi 0 rfl rfl rfl (λ_ _=>rfl) (by rw[hr];simp only[zm,gp];omega) hb trivial trivial
theorem CI.awa(h:CI C s pu H agd)(hi:i<C.N){s0:St}{b:Bool}{a:Option Acc}(hp:s0.pc=s.pc)(h2:s0.cur=s.cur)(h3:s0.nf=s.nf)(hm:∀x:uF,x.mb=true->s0.mem x=s.mem x)(hr:gp (s.pc i)=0)(hb:s.mem (.bot i)<=pu i):CI C (C8 s0 C i b a).s pu H agd:=by
 unfold C8;split
 ·exact h.q0 (p:=.halted) hi 0 (by show ck s0.pc i _=_;rw[hp]) h2 h3 hm (by rw[hr];simp only[zm,gp];omega) hb trivial trivial
 ·exact h.AW hi (s0:=s0.uM i 0) hp h2 h3 rfl hm hr hb
theorem CI.aaa(h:CI C s pu H agd)(hi:i<C.N){s0:St}{v:Int}(hp:s0.pc=s.pc)(h2:s0.cur=s.cur)(h3:s0.nf=s.nf)(hm:s0.mem=(s.wr (.bot i) v).mem)(hr:gp (s.pc i)=0)(hb:v<=pu i):CI C (Am.AW s0 C i) pu H agd:=by
 have:(Am.AW s0 C i).pc=ck s.pc i (if C.N=1 then .flag else .lS):=by show ck s0.pc i _=_;rw[hp]
 split at this
 ·exact h.wb (p:=.flag) (v:=v) hi 0 this h2 h3 hm (by rw[hr];simp only[zm,gp];omega) hb trivial trivial
 ·exact h.wb (p:=.lS) (v:=v) hi 0 this h2 h3 hm (by rw[hr];simp only[zm,gp];omega) hb trivial trivial
theorem CI.side(h:CI C s pu H agd)(hz:SZ C s)(hd:DT C s)(hf:(view s).FI C.N C.F)(hi:i<C.N)(h0:s.pc i≠.full)(h1:s.pc i≠.run)(d:Int):CI C (aH C s i d).s pu (H+if busy (sig (s.pc i))=true then 1 else 0) agd:=by
 have hb:=h.b i hi;have ht:=h.t i hi;have hw:=h.w i hi;have hD:=(hd.1 i hi).ph;have hT:=(hd.1 i hi).t0;have hcap:s.cc i=uG C (s.cur i):=hz.cap i hi _ (gQ _);unfold rJ at hD;have hN:1<=C.N:=by omega
 cases hp:s.pc i<;>rw[hp]at hb ht hw hD h0 h1<;>simp only[sig,busy,if_true,Ik,if_false,w6,Ai,MG,wt]at hb ht hw hD⊢<;> unfold Am.aH<;>rw[hp]<;>simp only
 case halted=>exact h
 case full=>exact absurd rfl h0
 case run=>exact absurd rfl h1
 case start x =>
  obtain⟨f,hh⟩:=ry hf hi (by rw[hp];rfl);have hn:f<s.nf:=Dw hf hi hh;have h0:s.mem (.mark f)=0:=hf.Bl i f hi (by show sig (s.pc i)=_;rw[hp];rfl) hh;have TY:(s.hold i).getD 0=f:=by rw[hh];rfl
  rw[TY,h0];have:=h.up hi (s':=(s.wr (.mark f) (0+1)).to i .run) (p:=.run) (s.cur i) 0 1 0 1 rfl (by rw[Aj];rfl) rfl (by
   unfold Ig;have:=nJ (f:=λf=>(s.mem (.mark f)).toNat) (g:=λg=>(((s.wr (.mark f) (0+1)).to i .run).mem (.mark g)).toNat) (i:=f) (k:=1) (n:=s.nf) hn (λj hj=>by
    show((s.wr (.mark f) (0+1)).mem (.mark j)).toNat=_;rw[jX (by intro e;injection e with e;exact hj e)]) (by
    show(ck s.mem (.mark f) (0+1) (.mark f)).toNat=(s.mem (.mark f)).toNat+1;rw[aC,h0];rfl)
   show _+1<=fA _ s.nf;rw[this];exact gQ _) (λj hj=>by show(s.wr (.mark f) (0+1)).mem (.bot j)=_;exact jX qv) (by rw[hp];simp only[zm,gp];omega) (by
   show Ai .run ((s.wr (.mark f) (0+1)).mem (.bot i))<=_;rw[jX qv];exact hb) (λhc=>by have:=h.c i hi hc;omega) trivial trivial
  rw[w6,w6,Aj]at this;exact this
 case fork c =>
  exact h.q hi hp 1 rfl hb (λx hx=>qD (a:=(.join _)) rfl x hx)
 case nB =>
  exact h.q hi hp 1 rfl hb (λx hx=>qD (a:=(.join _)) rfl x hx)
 case out p c =>
  split
  ·exact h.q hi hp 0 rfl hb (λx hx=>qD (a:=(.join p)) rfl x hx)
  ·exact h.q hi hp 0 rfl hb (λx hx=>qD (a:=(.join p)) rfl x hx)
 case take p c =>
  exact h.q hi hp 0 rfl hb (λx hx=>qD (a:=(.join p)) rfl x hx)
 case done =>
  exact h.tel hi rfl rfl rfl (λx hx=>qD (a:=.HG) rfl x hx) (by rw[hp];rfl) hb
 case tell j =>
  split
  ·exact h.q hi hp 0 rfl hb (λx hx=>qD (a:=(.flag j)) rfl x hx)
  ·exact h.tel hi rfl rfl rfl (λ_ _=>rfl) (by rw[hp];rfl) hb
 case BO j =>
  exact h.tel hi rfl rfl rfl (λx hx=>qD (a:=.An) rfl x hx) (by rw[hp];rfl) hb
 case ya c =>
  exact h.q hi hp 1 rfl hb
 case wG c b =>
  exact h.q hi hp 1 rfl hb (ht:=hT)
 case oF c b t =>
  exact h.q hi hp 1 rfl hb (ht:=ht)
 case oG c b t =>
  split
  ·exact h.q hi hp 1 rfl hb
  ·split
   ·exact h.q hi hp 1 rfl (by simp only[Ai];omega)
   ·exact h.q hi hp 1 rfl hb (ht:=ht)
 case grow c b t cc =>
  exact h.q hi hp 1 rfl hb (λx hx=>by cases x<;>first | rfl | cases hx) (ht:=ht)
 case lY c b t cc =>
  exact h.q hi hp 1 rfl hb (λx hx=>qD (a:=(.cap i _)) rfl x hx) (ht:=ht)
 case js c b t cc n =>
  exact h.q hi hp 1 rfl hb (ht:=ht)
 case iZ c b t cc n x =>
  obtain⟨g1,g2,g3,g4,g5⟩:=hD;by_cases e:n+1<b
  ·rw[bg e];exact h.q hi hp 1 rfl hb (λx hx=>qD (a:=(.el i _ _)) rfl x hx) (ht:=ht)
  ·rw[cQ e];exact h.q hi hp 1 rfl hb (λx hx=>qD (a:=(.el i _ _)) rfl x hx) (ht:=ht)
 case lD c b t cc =>
  obtain⟨g1,g2⟩:=hD;obtain⟨q1,q2,q3,q4,q5,q6,q7⟩:=g1;have q1:s.mem (.bot i)=b:=q1;have:=h.up hi (s':={s.wr (.buf i) (s.base i (s.cur i+1))with cur:=ck s.cur i (s.cur i+1)}.to i (.ja c b (jb C cc))) (p:=.ja c b (jb C cc)) (s.cur i+1) 0 1 0 0 rfl rfl rfl (by
   rw[w6];exact MH (s:=s) (λf=>by show(s.wr (.buf i) (s.base i (s.cur i+1))).mem (.mark f)=s.mem (.mark f);exact jX qv) (gQ _)) (λj hj=>by show(s.wr (.buf i) (s.base i (s.cur i+1))).mem (.bot j)=s.mem (.bot j);exact jX qv) (by
   rw[hp];simp only[zm,gp,sg];omega) (by
   show Ai (.ja c b (jb C cc)) ((s.wr (.buf i) (s.base i (s.cur i+1))).mem (.bot i))<=_;rw[jX qv];exact hb) (λ_=>by rw[Nat.add_sub_cancel];omega) trivial trivial
  simp only[w6,Aj]at this;exact this
 case ja c b cc =>
  exact h.q hi hp 1 rfl hb (λx hx=>qD (a:=(.el i _ _)) rfl x hx)
 case nC c b =>
  obtain⟨g1,g2⟩:=hD;have g1:s.mem (.bot i)=b:=g1;exact h.wb (p:=.Cs) (v:=b+1) hi 1 rfl rfl rfl rfl (by rw[hp];simp only[zm,gp];omega) (by simp only[Ai];omega) trivial trivial
 case Cs =>
  by_cases e:0<s.mem .An/\1<C.N
  ·rw[bg e];obtain⟨d1,d2⟩:=Qh hi e.2;exact h.q hi hp 1 rfl hb (hw:=⟨Wy hi i,d2⟩)
  ·rw[cQ e];exact h.q hi hp 1 rfl hb
 case vk j =>
  have dp:=WA hi hw.1 hw.2;split
  ·exact h.q hi hp 1 rfl hb (λx hx=>qD (a:=(.flag j)) rfl x hx)
  ·by_cases e:Kp C j=i
   ·rw[bg e];exact h.q hi hp 1 rfl hb
   ·rw[cQ e];have dn:=Wz hi hw.1 hw.2 e;exact h.q hi hp 1 rfl hb (hw:=⟨Wy hi j,e⟩)
 case yq j =>
  exact h.q hi hp 1 rfl hb (λx hx=>qD (a:=.An) rfl x hx)
 case Ae =>
  exact h.q hi hp 0 rfl hb
 case uL b =>
  exact h.q hi hp 0 rfl hb
 case oh b =>
  obtain⟨g1,g2⟩:=hD;have g1:s.mem (.bot i)=b+1:=g1;exact h.wb (p:=.zi b) (v:=b) hi 0 rfl rfl rfl rfl (by rw[hp];simp only[zm,gp];omega) (by simp only[Ai];omega) trivial trivial
 case zi b =>
  obtain⟨g1,g2,g3⟩:=hD;have g2:s.mem (.top i)+s.L i=b+1:=g2;have g4:0<=s.L i:=Int.natCast_nonneg _;split
  ·exact h.q hi hp 0 rfl hb
  ·split
   ·exact h.q hi hp 0 rfl hb
   ·exact h.q hi hp 0 rfl (by simp only[Ai];omega)
 case sC t =>
  exact h.aaa hi (v:=t) rfl rfl rfl rfl (by rw[hp];rfl) hb
 case sD b t =>
  exact h.q hi hp 0 rfl hb
 case nD b t cc =>
  obtain⟨⟨g1,g2⟩,g3⟩:=hD;have g1:s.mem (.bot i)=b:=g1;split
  ·exact h.q hi hp 0 rfl (by simp only[Ai];omega)
  ·exact h.q hi hp 0 rfl hb
 case qH b t x =>
  obtain⟨g1,g2,g3⟩:=hD;split
  ·exact h.q hi hp 0 rfl (by simp only[Ai];omega) (λx hx=>qD (a:=(.top i)) rfl x hx)
  ·exact h.q hi hp 0 rfl (by simp only[Ai];omega)
 case oP t x Bi =>
  split
  ·exact h.wb (p:=.start (-1)) (v:=t+1) hi 0 rfl rfl rfl rfl (by rw[hp];simp only[zm,gp];omega) hb trivial trivial
  ·exact h.aaa hi (v:=t+1) rfl rfl rfl rfl (by rw[hp];rfl) hb
 case lS =>
  exact h.q hi hp 0 rfl hb
 case yR v t =>
  split
  ·exact h.q hi hp 0 rfl hb
  ·exact h.q hi hp 0 rfl hb
 case ud v t =>
  exact h.q hi hp 0 rfl hb
 case tu v t g =>
  exact h.q hi hp 0 rfl hb
 case qX v t g cc =>
  exact h.q hi hp 0 rfl hb
 case qm v t x =>
  split
  ·exact h.q hi hp 0 rfl hb (λx hx=>qD (a:=(.top v)) rfl x hx)
  ·exact h.q hi hp 0 rfl hb
 case HH =>
  split
  ·exact h.q hi hp 0 rfl hb
  ·split
   ·exact h.q hi hp 0 rfl hb
   ·exact h.q hi hp 0 rfl hb
 case flag =>
  exact h.q hi hp 0 rfl hb (λx hx=>qD (a:=(.flag i)) rfl x hx)
 case sleep =>
  exact h.q hi hp 0 rfl hb (λx hx=>qD (a:=.An) rfl x hx)
 case yS =>
  split
  ·exact h.q hi hp 0 rfl hb
  ·exact h.lok hi (by rw[hp];rfl) hb
 case GY j =>
  exact h.q hi hp 0 rfl hb
 case GZ j t =>
  split
  ·exact h.q hi hp 0 rfl hb
  ·exact h.lok hi (by rw[hp];rfl) hb
 case parked =>
  split
  ·exact h
  ·exact h.AW hi (s0:=s.uM i 0) rfl rfl rfl rfl (λ_ _=>rfl) (by rw[hp];rfl) hb
 case back b =>
  split
  ·exact h.q hi hp 0 rfl hb (λx hx=>qD (a:=(.flag i)) rfl x hx)
  ·exact h.awa hi rfl rfl rfl (λ_ _=>rfl) (by rw[hp];rfl) hb
 case zG b =>
  exact h.awa hi rfl rfl rfl (λx hx=>qD (a:=.An) rfl x hx) (by rw[hp];rfl) hb
theorem CI.i1(h:CI C s pu H agd)(hi:i<C.N)(hp:s.pc i= .run){s':St}(p:Pc)(h1:s'.pc=ck s.pc i p)(h2:s'.cur=s.cur)(h3:s'.nf=s.nf)(hm:∀x:uF,x.mb=true->s'.mem x=s.mem x)
 (hr:zm C i p<=1) (hb:Ai p (s.mem (.bot i))<=pu i) (ht:MG p) (hw:wt C i p):CI C s' pu (H+1) (agd+1):=by
 have:=h.up hi (s.cur i) 0 1 1 0 h1 (by rw[h2,Aj]) h3 (by have:=MH (s:=s) (s':=s') (λf=>hm _ rfl) I;omega) (λj _=>hm _ rfl) (by rw[hp,show zm C i .run=0 from rfl,show gp .run=0 from rfl];omega) (by rw[hm (.bot i) rfl];simpa using hb) (λhc=>by have:=h.c i hi hc;omega) ht hw;rw[w6,Aj]at this;exact this
theorem CI.ins(h:CI C s pu H agd)(hi:i<C.N)(hp:s.pc i= .run) :∃pu',CI C (instr C s i).s pu' (H+1) (agd+1):=by
 have hb:=h.b i hi;rw[hp]at hb;have hb:s.mem (.bot i)<=pu i:=hb;have hr:s.pc=ck s.pc i .run:=by rw[<-hp,Aj]
 unfold Am.instr;simp only;split
 ·exact⟨pu,h.i1 hi hp .run hr rfl rfl (λ_ _=>rfl) (by simp[zm]) hb trivial trivial⟩
 ·exact⟨pu,h.i1 hi hp .run hr rfl rfl (λ_ _=>rfl) (by simp[zm]) hb trivial trivial⟩
 ·exact⟨pu,h.i1 hi hp .run hr rfl rfl (λ_ _=>rfl) (by simp[zm]) hb trivial trivial⟩
 ·exact⟨pu,h.i1 hi hp .run hr rfl rfl (λ_ _=>rfl) (by simp[zm]) hb trivial trivial⟩
 ·exact⟨pu,h.i1 hi hp .run hr rfl rfl (λ_ _=>rfl) (by simp[zm]) hb trivial trivial⟩
 ·exact⟨pu,h.i1 hi hp .run hr rfl rfl (λ_ _=>rfl) (by simp[zm]) hb trivial trivial⟩
 ·exact⟨pu,h.i1 hi hp .run hr rfl rfl (λ_ _=>rfl) (by simp[zm]) hb trivial trivial⟩
 ·rename_i sl g c hc;split
  ·exact⟨pu,h.i1 hi hp .full rfl rfl rfl (λx hx=>qD (a:=.next) rfl x hx) (by simp[zm]) hb trivial trivial⟩
  ·refine⟨_,h.up hi (p:=.fork s.nf) (s.cur i) 1 1 1 0 rfl (by rw[Aj];rfl) rfl ?_ (λj _=>qD (a:=.next) (v:=s.mem .next+1) (s:=s) rfl (.bot j) rfl) (by rw[hp];simp only[zm,gp];omega) ?_ (λhc=>by have:=h.c i hi hc;omega) trivial trivial⟩
   ·rw[w6];exact MH (s:=s) (λf=>qD (a:=.next) (v:=s.mem .next+1) (s:=s) rfl (.mark f) rfl) (Nat.le_succ _)
   ·show Ai (.fork s.nf) ((s.wr .next (s.mem .next+1)).mem (.bot i))<=_;rw[qD (a:=.next) rfl (.bot i) rfl];simp only[Ai];omega
 ·split
  ·exact⟨pu,h.i1 hi hp .Ae rfl rfl rfl (λx hx=>qD (a:=.join _) rfl x hx) (by simp[zm]) hb trivial trivial⟩
  ·exact⟨pu,h.i1 hi hp .nB rfl rfl rfl (λx hx=>qD (a:=.join _) rfl x hx) (by simp[zm]) hb trivial trivial⟩
 ·split
  ·exact⟨pu,h.i1 hi hp .done rfl rfl rfl (λx hx=>qD (a:=.result) rfl x hx) (by simp[zm]) hb trivial trivial⟩
  ·exact⟨pu,h.i1 hi hp (.out _ _) rfl rfl rfl (λx hx=>qD (a:=.slot _ _) rfl x hx) (by simp[zm]) hb trivial trivial⟩
theorem CI.aH(h:CI C s pu H agd)(hz:SZ C s)(hd:DT C s)(hf:(view s).FI C.N C.F)(hi:i<C.N)(h0:s.pc i≠.full)(d:Int) :
 ∃pu',CI C (aH C s i d).s pu' (H+if busy (sig (s.pc i))=true then 1 else 0) (agd+if s.pc i= .run then 1 else 0):=by
 by_cases e:s.pc i= .run
 ·obtain⟨pu',h'⟩:=h.ins hi e;refine⟨pu',?_⟩;rw[bg e];have:busy (sig (s.pc i))=true:=by rw[e];rfl
  rw[bg this];unfold Am.aH;rw[e];exact h'
 ·rw[cQ e];exact⟨pu,h.side hz hd hf hi h0 e d⟩
theorem CI.all(h:CI C s pu H agd)(hz:SZ C s)(hd:DT C s)(hm:∀f,s.mem (.mark f)<=1):H<=2*agd+(C.N+16)*s.nf:=by
 have h1:=h.h;have h2:Ig s<=s.nf*1:=H7 (λj _=>by have:=hm j;omega);have h3:∀n,n<=C.N->fA (λj=>(C.N+11)*pu j+(2*sg C (s.cur j)+gp (s.pc j))) n<=(C.N+15)*fA pu n:=by
  intro n
  induction n with
  | zero=>intro _;exact w7 _
  | succ n ih =>
   intro hn;have:=ih I;have:=h.adq hz hd n I;simp only[fA];rw[Nat.mul_add];have e:(C.N+15)*pu n=(C.N+11)*pu n+4*pu n:=by rw[<-vn]
   omega
 have h4:=h3 C.N (gQ _);have h5:=h.pn;have h6:(C.N+15)*fA pu C.N<=(C.N+15)*s.nf:=Nat.mul_le_mul_left _ I;have h7:(C.N+16)*s.nf=(C.N+15)*s.nf+s.nf:=by rw[show C.N+16=C.N+15+1 by omega,vn,Nat.one_mul]
 omega
end
section
variable {C:jv}{s:St}{i:Nat}{H agd:Nat}
theorem EJ{s':St}(hm:∀f,s'.mem (.mark f)=s.mem (.mark f))(hn:s'.nf=s.nf):Ig s'=Ig s:=by
 unfold Ig;rw[hn];exact oQ (λj _=>by show(s'.mem (.mark j)).toNat=_;rw[hm])
theorem WB(h0:s.pc i≠.run)(h1:∀x,s.pc i≠.start x)(d:Int):Ig (aH C s i d).s=Ig s:=by
 cases hp:s.pc i<;>unfold Am.aH<;>rw[hp]<;>simp only
 case run=>exact absurd hp h0
 case start x=>exact absurd hp (h1 x)
 case grow c b t cc=>exact EJ (λf=>rfl) rfl
 case lD c b t cc=>exact EJ (λf=>by show(s.wr (.buf i) (s.base i (s.cur i+1))).mem (.mark f)=s.mem (.mark f);exact jX qv) rfl
 all_goals (try unfold n8)
 all_goals (try unfold looking)
 all_goals (try unfold C8)
 all_goals (try split)
 all_goals (try unfold AW)
 all_goals (try split)
 all_goals (first | rfl | exact EJ (λf=>rfl) rfl | exact EJ (λf=>jX qv) rfl)
theorem TC(hf:(view s).FI C.N C.F)(hi:i<C.N){x:Int}(hp:s.pc i= .start x)(d:Int):Ig (aH C s i d).s=Ig s+1:=by
 obtain⟨f,hh⟩:=ry hf hi (by rw[hp];rfl);have hn:f<s.nf:=Dw hf hi hh;have h0:s.mem (.mark f)=0:=hf.Bl i f hi (by show sig (s.pc i)=_;rw[hp];rfl) hh;have TY:(s.hold i).getD 0=f:=by rw[hh];rfl
 unfold Am.aH;rw[hp];simp only;rw[TY,h0];unfold Ig;exact nJ (f:=λf=>(s.mem (.mark f)).toNat) (g:=λg=>(((s.wr (.mark f) (0+1)).to i .run).mem (.mark g)).toNat) (i:=f) (k:=1) (n:=s.nf) hn (λj hj=>by
  show((s.wr (.mark f) (0+1)).mem (.mark j)).toNat=_;rw[jX (by intro e;injection e with e;exact hj e)]) (by
  show(ck s.mem (.mark f) (0+1) (.mark f)).toNat=(s.mem (.mark f)).toNat+1;rw[aC,h0];rfl)
theorem YV(hf:(view s).FI C.N C.F):Ig (instr C s i).s=Ig s:=by
 unfold Am.instr;simp only;split
 case h_8 sl g c hc =>
  split
  ·exact EJ (λf=>qD (a:=.next) (v:=s.mem .next+1) (s:=s) rfl (.mark f) rfl) rfl
  ·have h0:s.mem (.mark s.nf)=0:=hf.BP s.nf (by
    have:=hf.free s.nf (gQ _);show early (s.loc s.nf)=true;have:s.loc s.nf= .free:=this;rw[this];rfl)
   show fA _ (s.nf+1)=_;simp only[fA];have e:∀f,(s.wr .next (s.mem .next+1)).mem (.mark f)=s.mem (.mark f):=λf=>qD (a:=.next) rfl (.mark f) rfl;show fA (λf=>((s.wr .next (s.mem .next+1)).mem (.mark f)).toNat) s.nf+((s.wr .next (s.mem .next+1)).mem (.mark s.nf)).toNat=Ig s;rw[e,h0,oQ (g:=λf=>(s.mem (.mark f)).toNat) (λj _=>by show((s.wr .next (s.mem .next+1)).mem (.mark j)).toNat=_;rw[e])]
   rfl
 all_goals (try split)
 all_goals (first | rfl | exact EJ (λf=>rfl) rfl | exact EJ (λf=>jX qv) rfl)
theorem YW(h:agd+Ig s<=H)(hf:(view s).FI C.N C.F)(hi:i<C.N)(d:Int):(agd+if s.pc i= .run then 1 else 0)+Ig (aH C s i d).s<=H+if busy (sig (s.pc i))=true then 1 else 0:=by
 by_cases e:s.pc i= .run
 ·have:busy (sig (s.pc i))=true:=by rw[e];rfl
  rw[bg e,bg this];have:Ig (aH C s i d).s=Ig s:=by unfold Am.aH;rw[e];exact YV hf
  omega
 ·rw[cQ e];by_cases e1 :∃x,s.pc i= .start x
  ·obtain⟨x,e1⟩:=e1;have:busy (sig (s.pc i))=true:=by rw[e1];rfl
   rw[bg this,TC hf hi e1 d];omega
  ·rw[WB e (λx hx=>e1 ⟨x,hx⟩) d];omega
end
section
variable {C:jv}
theorem MI{g:Nat}{pd:Int}{x:TS}{a:Nat}(h:C.code g x.J= .ret a):FF C g pd x=none:=by unfold FF;simp only[h]
theorem Dy{g:Nat}{pd:Int}{x:TS}{s f c:Nat}(h:C.code g x.J= .spawn s f c):FF C g pd x=none:=by unfold FF;simp only[h]
theorem Pre.first{g:Nat}{pd:Int}{d:Nat}{x z:TS}{n t:Nat}(h:Pre C g pd d x z n t) :
 (x=z/\n=0/\t=0)∨(∃y n',Am.FF C g pd x=some y/\Pre C g pd d y z n' t/\n=n'+1)∨
 (∃s f c y n1 t1 a n' t',C.code g x.J= .spawn s f c/\d<4096/\Pre C f (C.pd pd x.bD) (d+1) (Xa (arg C x.bu f c)) y n1 t1/\C.code f y.J= .ret a/\
  Pre C g pd d {x with J:=x.J+1,sl:=ck x.sl s (y.bu a),bD:=x.bD+1} z n' t'/\n=n'+1+(n1+1)/\t=t'+(t1+1)):=by
 induction h with
 | nil=>exact .inl ⟨rfl,rfl,rfl⟩
 | FF h e ih =>
  rename_i y z n t;rcases ih with ⟨i1,i2,i3⟩ | ⟨y',n',i1,i2,i3⟩ | ⟨s,f,c,y',n1,t1,a,n',t',i1,i2,i3,i4,i5,i6,i7⟩
  ·subst i1;exact .inr (.inl ⟨z,0,e,by rw[i3];exact Pre.nil _ _ _ _,I⟩)
  ·exact .inr (.inl ⟨y',n'+1,i1,Pre.FF i2 e,I⟩)
  ·exact .inr (.inr ⟨s,f,c,y',n1,t1,a,n'+1,t',i1,i2,i3,i4,Pre.FF i5 e,I,i7⟩)
 | spawn h e hd h1 e1 ih UI =>
  rename_i y z n t s f c n1 t1 a;rcases ih with ⟨i1,i2,i3⟩ | ⟨y',n',i1,i2,i3⟩ | ⟨s',f',c',y',n1',t1',a',n',t',i1,i2,i3,i4,i5,i6,i7⟩
  ·subst i1;exact .inr (.inr ⟨s,f,c,z,n1,t1,a,0,0,e,hd,h1,e1,Pre.nil _ _ _ _,I,I⟩)
  ·exact .inr (.inl ⟨y',n'+1+(n1+1),i1,Pre.spawn i2 e hd h1 e1,I⟩)
  ·exact .inr (.inr ⟨s',f',c',y',n1',t1',a',n'+1+(n1+1),t'+(t1+1),i1,i2,i3,i4,Pre.spawn i5 e hd h1 e1,I,I⟩)
theorem Pre.cmp{g:Nat}{pd:Int}{d:Nat}{x y:TS}{n t:Nat}(h:Pre C g pd d x y n t):∀{z:TS} {N T a:Nat},Pre C g pd d x z N T->C.code g z.J= .ret a->∃N' T',Pre C g pd d y z N' T'/\N=n+N'/\T=t+T':=by
 induction h with
 | nil=>intro z N T a q _;exact⟨N,T,q,I,I⟩
 | FF h e ih =>
  intro z N T a q hz;obtain⟨N',T',q',e1,e2⟩:=ih q hz;rcases q'.first with ⟨i1,i2,i3⟩ | ⟨y',n',i1,i2,i3⟩ | ⟨s,f,c,y',n1,t1,a',n',t',i1,i2,i3,i4,i5,i6,i7⟩
  ·subst i1;rw[MI hz]at e;cases e
  ·rw[i1]at e;cases e;exact⟨n',T',i2,I,e2⟩
  ·rw[Dy i1]at e;cases e
 | spawn h e hd h1 e1 ih UI =>
  intro z N T a q hz;obtain⟨N',T',q',q1,q2⟩:=ih q hz;rcases q'.first with ⟨i1,i2,i3⟩ | ⟨y',n',i1,i2,i3⟩ | ⟨s',f',c',y',n1',t1',a',n',t',i1,i2,i3,i4,i5,i6,i7⟩
  ·subst i1;rw[hz]at e;cases e
  ·rw[Dy e]at i1;cases i1
  ·rw[e]at i1;cases i1;obtain⟨M,U,r,r1,r2⟩:=UI i3 i4;rcases r.first with ⟨j1,j2,j3⟩ | ⟨y2,n2,j1,j2,j3⟩ | ⟨s2,f2,c2,y2,n2,t2,a2,n3,t3,j1,j2⟩
   ·subst j1;rw[e1]at i4;cases i4;exact⟨n',t',i5,I,I⟩
   ·rw[MI e1]at j1;cases j1
   ·rw[e1]at j1;cases j1
theorem Dn.one{D:Lh}{r r':Int×Nat×Nat}(h:Dn C D r)(h':Dn C D r'):r=r':=by
 obtain⟨z,a,n,t,Y,p2,rfl⟩:=h;obtain⟨z',a',n',t',q1,q2,rfl⟩:=h';obtain⟨M,U,r,r1,r2⟩:=Y.cmp q1 q2;rcases r.first with ⟨j1,j2,j3⟩ | ⟨y2,n2,j1,j2,j3⟩ | ⟨s2,f2,c2,y2,n2,t2,a2,n3,t3,j1,j2⟩
 ·subst j1;rw[p2]at q2;cases q2;rw[r1,r2,j2,j3]
 ·rw[MI p2]at j1;cases j1
 ·rw[p2]at j1;cases j1
theorem Dn.bW{D:Lh}{r:Int×Nat×Nat}(h:Dn C D r){y:TS}{n t s f c:Nat}(p:Pre C D.fn D.mN D.dp (Xa D.a0) y n t)(e:C.code D.fn y.J= .spawn s f c) :
 ∃r',Dn C ⟨f,C.pd D.mN y.bD,D.dp+1,arg C y.bu f c⟩ r':=by
 obtain⟨z,a,N,T,q1,q2,rfl⟩:=h;obtain⟨M,U,r,r1,r2⟩:=p.cmp q1 q2;rcases r.first with ⟨j1,j2,j3⟩ | ⟨y2,n2,j1,j2,j3⟩ | ⟨s2,f2,c2,y2,n2,t2,a2,n3,t3,j1,j2,j3,j4,j5⟩
 ·subst j1;rw[q2]at e;cases e
 ·rw[Dy e]at j1;cases j1
 ·rw[e]at j1;cases j1;exact⟨_,y2,a2,n2,t2,j3,j4,rfl⟩
theorem Dn.le{D:Lh}{v:Int}{agb T:Nat}(h:Dn C D (v,agb,T)){y:TS}{n t:Nat}(p:Pre C D.fn D.mN D.dp (Xa D.a0) y n t):n+1<=agb/\t+1<=T:=by
 obtain⟨z,a,N,T',q1,q2,e⟩:=h;injection e with e1 e2
 injection e2 with e2 e3
 obtain⟨M,U,r,r1,r2⟩:=p.cmp q1 q2;omega
end
def lv(s:St)(f:Nat):Nat:=if live (s.loc f)=true then 1 else 0
structure WS(C:jv)(s:St)(γ:SG)(agd:Nat):Prop where
 w:fA γ.wk s.nf+(1-lv s 0)=agd
 t:fA γ.tk s.nf+fA (lv s) s.nf+(1-lv s 0)=s.nf
 z:∀f,f<s.nf->f≠0->live (s.loc f)=false->γ.wk f=0/\γ.tk f=0
 y:∀f x c,γ.pn f x=some c->live (s.loc f)=true
 e:∀f,f<s.nf->live (s.loc f)=true->∃r,Dn C (γ.ds f) r
def WN(C:jv)(s s':St)(γ γ':SG)(k:Nat):Prop:=∀agd,WS C s γ agd->WS C s' γ' (agd+k)
section
variable {C:jv}{φ:OE C}{s:St}{i:Nat}{σ:Nat->Nat->Nat}{D0:Lh}{γ:SG}{g:Nat}
theorem Ih{s':St}(hl:∀f,live (s'.loc f)=live (s.loc f)):lv s'=lv s:=funext λf=>by unfold lv;rw[hl]
theorem WN.same{s':St}(hn:s'.nf=s.nf)(hl:∀f,live (s'.loc f)=live (s.loc f)):WN C s s' γ γ 0:=λagd h=>⟨by rw[hn,Ih hl];exact h.w,by rw[hn,Ih hl];exact h.t,λf hf h0 hd=>h.z f (hn▸ hf) h0 (by rw[<-hl];exact hd),λf x c e=>by rw[hl];exact h.y f x c e,λf hf hlf=>h.e f (hn▸ hf) (by rw[<-hl];exact hlf)⟩
theorem WN.inc{s':St}{f:Nat}(hf:f<s.nf)(hv:live (s.loc f)=true)(hn:s'.nf=s.nf)(hl:∀f,live (s'.loc f)=live (s.loc f)):WN C s s' γ {γ with wk:=ck γ.wk f (γ.wk f+1)} 1:=λagd h=>by
 refine⟨?_,by rw[hn,Ih hl];exact h.t,λk hk h0 hd => ?_,λk x c e=>by rw[hl];exact h.y k x c e,λk hk hlk=>h.e k (hn▸ hk) (by rw[<-hl];exact hlk)⟩
 rotate_left
 ·rw[hl]at hd;obtain⟨a,b⟩:=h.z k (hn▸ hk) h0 hd;exact⟨by show ck γ.wk f _ k=0;rw[aA (λe=>by subst e;rw[hv]at hd;cases hd)];exact a,b⟩
 rw[hn,Ih hl];have:=nJ (f:=γ.wk) (g:=ck γ.wk f (γ.wk f+1)) (k:=1) hf (λj hj=>aA hj) (aC _ _ _);have:=h.w;show fA (ck γ.wk f (γ.wk f+1)) s.nf+_=_;omega
theorem WN.spawn{s':St}{f sl g0 c0:Nat}(hc:C.code (s.fr f).fn (s.fr f).J= .spawn sl g0 c0)(JA:xQ C s f)(h:SI C D0 s γ g)(hf:f<s.nf)(hv:live (s.loc f)=true)(hn:s'.nf=s.nf+1)(hl:s'.loc=ck s.loc s.nf (.bW i)):WN C s s' γ {pn:=ck γ.pn f (ck (γ.pn f) sl (some s.nf)),ds:=ck γ.ds s.nf ⟨g0,C.pd (s.fr f).mN (s.fr f).bD,(γ.ds f).dp+1,arg C (s.fr f).bu g0 c0⟩,wk:=ck γ.wk f (γ.wk f+1),tk:=γ.tk} 1:=λagd w=>by
 obtain⟨z1,z2,z3,z4⟩:=h.z s.nf (gQ _);have e0:lv s' 0=lv s 0:=by unfold lv;rw[hl,aA I]
 have e1:fA (lv s') s.nf=fA (lv s) s.nf:=oQ (λj hj=>by unfold lv;rw[hl,aA I]);have e2:lv s' s.nf=1:=by unfold lv;rw[hl,aC];rfl
 have e3:=nJ (f:=γ.wk) (g:=ck γ.wk f (γ.wk f+1)) (k:=1) hf (λj hj=>aA hj) (aC _ _ _);have e4:ck γ.wk f (γ.wk f+1) s.nf=0:=by rw[aA I];exact z2
 have a:=w.w;have b:=w.t;refine⟨?_,?_,λk hk h0 hd => ?_,λk x c e => ?_,λk hk hlk => ?_⟩
 ·rw[hn,e0];show fA (ck γ.wk f (γ.wk f+1)) s.nf+ck γ.wk f (γ.wk f+1) s.nf+_=_;omega
 ·rw[hn,e0];show fA γ.tk s.nf+γ.tk s.nf+(fA (lv s') s.nf+lv s' s.nf)+_=_;omega
 ·have hk':k≠s.nf:=λe=>by rw[hl,e,aC]at hd;cases hd
  rw[hl,aA hk']at hd;obtain⟨a,b⟩:=w.z k I h0 hd;exact⟨by show ck γ.wk f _ k=0;rw[aA (λe=>by subst e;rw[hv]at hd;cases hd)];exact a,b⟩
 ·have e:ck γ.pn f (ck (γ.pn f) sl (some s.nf)) k x=some c:=e;rw[hl];by_cases ek:k=f
  ·subst ek;rw[aA I];exact hv
  ·rw[aA ek]at e;have:=w.y k x c e;rw[aA (λe'=>by subst e';rw[z4]at e;cases e)];exact this
 ·by_cases ek:k=s.nf
  ·subst ek;show∃r,Dn C (ck γ.ds s.nf _ s.nf) r;rw[aC];have ch:∀c,∃r,∀x,γ.pn f x=some c->Dn C (γ.ds c) r:=λc=>by
    by_cases e :∃x,γ.pn f x=some c
    ·obtain⟨x,e⟩:=e;obtain⟨c1,c2,c3,c4,c5⟩:=h.pn f x c e;obtain⟨r,hr⟩:=w.e c c2 c5;exact⟨r,λ_ _=>hr⟩
    ·exact⟨(0,0,0),λx hx=>absurd ⟨x,hx⟩ e⟩
   obtain⟨R,hR⟩:=Classical.axiomOfChoice ch;have A:=h.A f hf hv JA R (λx c e=>hR c x e);obtain⟨r,hr⟩:=w.e f hf hv;have hD:=h.D f hf;have:=hr.bW A (by rw[hD.1];exact hc);rw[hD.2.1]at this;exact this
  ·have hk':k<s.nf:=by omega
   show∃r,Dn C (ck γ.ds s.nf _ k) r;rw[aA ek];exact w.e k hk' (by rw[hl,aA ek]at hlk;exact hlk)
theorem WN.ret{s':St}{f p q:Nat}{l:Loc}(hk:∀x,γ.pn f x=none)(Ti:γ.pn p q=some f)(h0:f≠0)(hf:f<s.nf)(hp:p<s.nf)(hne:p≠f)(hv:live (s.loc f)=true)(hn:s'.nf=s.nf)(hl:s'.loc=ck s.loc f l)(hd:live l=false) :
 WN C s s' γ {pn:=ck γ.pn p (ck (γ.pn p) q none),ds:=γ.ds,wk:=ck (ck γ.wk p (γ.wk p+(γ.wk f+1))) f 0,tk:=ck (ck γ.tk p (γ.tk p+(γ.tk f+1))) f 0} 1:=λagd w=>by
 have e0:lv s' 0=lv s 0:=by unfold lv;rw[hl,aA (Ne.symm h0)]
 have e1:=zL (f:=lv s) (g:=lv s') hf (λj hj=>by unfold lv;rw[hl,aA hj]);have e2:lv s f=1:=by unfold lv;rw[hv];rfl
 have e3:lv s' f=0:=by unfold lv;rw[hl,aC,hd];rfl
 have two:∀q:Nat->Nat,fA (ck (ck q p (q p+(q f+1))) f 0) s.nf=fA q s.nf+1:=λq=>by
  have a:=nJ (f:=q) (g:=ck q p (q p+(q f+1))) (k:=q f+1) hp (λj hj=>aA hj) (aC _ _ _);have b:=zL (f:=ck q p (q p+(q f+1))) (g:=ck (ck q p (q p+(q f+1))) f 0) hf (λj hj=>aA hj);rw[aC,aA (Ne.symm hne)]at b;omega
 have a:=w.w;have b:=w.t;refine⟨?_,?_,λk hk' U7 hdd => ?_,λk x c e => ?_,λk hk' hlk=>w.e k (hn▸ hk') (by rw[hl]at hlk;by_cases ek:k=f;(· subst ek;exact hv);rw[aA ek]at hlk;exact hlk)⟩
 ·rw[hn,e0];show fA (ck (ck γ.wk p _) f 0) s.nf+_=_;rw[two];omega
 ·rw[hn,e0];show fA (ck (ck γ.tk p _) f 0) s.nf+_+_=_;rw[two];omega
 ·by_cases ek:k=f
  ·subst ek;exact⟨aC _ _ _,aC _ _ _⟩
  ·rw[hl,aA ek]at hdd;obtain⟨a,b⟩:=w.z k (hn▸ hk') U7 hdd;have kp:k≠p:=λe=>by subst e;rw[w.y _ _ _ Ti]at hdd;cases hdd
   exact⟨by show ck (ck γ.wk p _) f 0 k=0;rw[aA ek,aA kp];exact a,by show ck (ck γ.tk p _) f 0 k=0;rw[aA ek,aA kp];exact b⟩
 ·have e:ck γ.pn p (ck (γ.pn p) q none) k x=some c:=e;have old :∃x c,γ.pn k x=some c:=by
   by_cases ek:k=p
   ·subst ek;exact⟨_,_,Ti⟩
   ·rw[aA ek]at e;exact⟨_,_,e⟩
  obtain⟨x',c',e'⟩:=old;rw[hl,aA (λe2=>by subst e2;rw[hk]at e';cases e')];exact w.y _ _ _ e'
theorem WN.root{s':St}{l:Loc}(hk:∀x,γ.pn 0 x=none)(hf:0<s.nf)(hv:live (s.loc 0)=true)(hn:s'.nf=s.nf)(hl:s'.loc=ck s.loc 0 l)(hd:live l=false):WN C s s' γ γ 1:=λagd w=>by
 have e1:=zL (f:=lv s) (g:=lv s') hf (λj hj=>by unfold lv;rw[hl,aA hj]);have e2:lv s 0=1:=by unfold lv;rw[hv];rfl
 have e3:lv s' 0=0:=by unfold lv;rw[hl,aC,hd];rfl
 have a:=w.w;have b:=w.t;exact⟨by rw[hn,e3];omega,by rw[hn,e3];omega,λk hk' h0 hdd=>w.z k (hn▸ hk') h0 (by rw[hl,aA h0]at hdd;exact hdd),λk x c e=>by rw[hl,aA (λe2=>by subst e2;rw[hk]at e;cases e)];exact w.y k x c e,λk hk' hlk=>w.e k (hn▸ hk') (by rw[hl]at hlk;by_cases ek:k=0;(· subst ek;exact hv);rw[aA ek]at hlk;exact hlk)⟩
theorem SI.KC{s':St}(h:SI C D0 s γ g)(h1:s'.fr=s.fr)(h2:s'.nf=s.nf)(hm:∀f x,s'.mem (.slot f x)=s.mem (.slot f x))(hl:∀f,live (s'.loc f)=live (s.loc f))
 (hp:∀j,s.pc j= .full->s'.pc j= .full/\s'.hold j=s.hold j):SI C D0 s' γ (g+1)/\WN C s s' γ γ 0:=⟨h.of h1 h2 hm hl hp,WN.same h2 hl⟩
theorem SI.abu(hC:C.OK)(h:SI C D0 s γ g)(hs:SL C φ s σ)(hr:FR C s)(hf:(view s).FI C.N C.F)(hi:i<C.N)(hp:s.pc i= .run) :
 (∃γ',SI C D0 (Am.instr C s i).s γ' (g+1)/\((Am.instr C s i).s.pc i≠.full->WN C s (Am.instr C s i).s γ γ' 1))/\Rt C D0 g (Am.instr C s i).ev:=by
 obtain⟨f,hh⟩:=ry hf hi (by rw[hp];rfl);obtain⟨hl,hn⟩:=ou hf hi hh;obtain⟨a1,a2,a3⟩:=hr f hn;have a3:=a3 hl;have ok:=hC.ins _ a1 _ a3;have JA:xQ C s f:=λj hj e e'=>by
  have:=AZ hf hj hi e' hh;subst this;rw[hp]at e;cases e
 have hw:s.loc f≠.waiting:=by rcases hf.hold i f hi hh with a | a<;>(have:=a.2;change s.loc f=_ at this;rw[this];simp)
 have nfp:s.pc i≠.full:=by rw[hp];simp
 have same:∀j,s.pc j= .full->s.pc j= .full/\s.hold j=s.hold j:=λj hj=>⟨hj,rfl⟩;have nrt:∀{k:Nat} {a b c:Int},k≠6->Rt C D0 g (ev k a b c):=λhk e he=>by cases he;exact λh=>absurd h hk
 have GH:Rt C D0 g none:=λe he=>by cases he
 have held:s.loc f= .held i:=by
  rcases hf.hold i f hi hh with a | a
  ·have:sig (s.pc i)= .one:=a.1;rw[hp]at this;cases this
  ·exact a.2
 unfold Oj at ok;unfold Am.instr;simp only[hh,pG];split<;>rename_i hc<;>rw[hc]at ok<;>simp only at ok
 ·exact⟨⟨_,h.data hn hl rfl rfl (λ_ _=>rfl) (λ_=>rfl) same ⟨rfl,rfl,rfl,rfl⟩ (λvs=>by unfold FF;simp only[hc]),λ_=>WN.inc hn hl rfl (λ_=>rfl)⟩,GH⟩
 ·exact⟨⟨_,h.data hn hl rfl rfl (λ_ _=>rfl) (λ_=>rfl) same ⟨rfl,rfl,rfl,rfl⟩ (λvs=>by unfold FF;simp only[hc]),λ_=>WN.inc hn hl rfl (λ_=>rfl)⟩,GH⟩
 ·exact⟨⟨_,h.data hn hl rfl rfl (λ_ _=>rfl) (λ_=>rfl) same ⟨rfl,rfl,rfl,rfl⟩ (λvs=>by unfold FF;simp only[hc]),λ_=>WN.inc hn hl rfl (λ_=>rfl)⟩,GH⟩
 ·exact⟨⟨_,h.data hn hl rfl rfl (λ_ _=>rfl) (λ_=>rfl) same ⟨rfl,rfl,rfl,rfl⟩ (λvs=>by unfold FF;simp only[hc]),λ_=>WN.inc hn hl rfl (λ_=>rfl)⟩,GH⟩
 ·exact⟨⟨_,h.data hn hl rfl rfl (λ_ _=>rfl) (λ_=>rfl) same (by split<;>exact⟨rfl,rfl,rfl,rfl⟩) (λvs=>by unfold FF;simp only[hc];split<;>rfl),λ_=>WN.inc hn hl rfl (λ_=>rfl)⟩,GH⟩
 ·exact⟨⟨_,h.data hn hl rfl rfl (λ_ _=>rfl) (λ_=>rfl) same ⟨rfl,rfl,rfl,rfl⟩ (λvs=>by unfold FF;simp only[hc]),λ_=>WN.inc hn hl rfl (λ_=>rfl)⟩,GH⟩
 ·rename_i a sl;have Ti:γ.pn f sl=none:=by
   obtain⟨l1,l2,l3⟩:=φ.ld _ _ _ _ a1 a3 hc;cases e:γ.pn f sl with
   | none=>rfl
   | some k=>exact absurd ((Z9 h hs hf hw e)▸ hs.a f hn hl sl l1) l3
  exact⟨⟨_,h.data hn hl rfl rfl (λ_ _=>rfl) (λ_=>rfl) same ⟨rfl,rfl,rfl,rfl⟩ (λvs=>by
   unfold FF;simp only[hc];have:TA (γ.pn f) (KA s f) vs sl=s.mem (.slot f sl):=by unfold TA;rw[Ti];rfl
   rw[this]),λ_=>WN.inc hn hl rfl (λ_=>rfl)⟩,GH⟩
 ·rename_i sl g0 c;split
  ·exact⟨⟨_,h.TB (f:=f) (y:={s.fr f with J:=(s.fr f).J+1}) hi nfp hh (aC _ _ _) rfl rfl (λ_ _=>rfl) rfl (tS (p:=.full) nfp rfl (.inl rfl)) ⟨rfl,rfl,rfl,rfl⟩,λe=>absurd (aC _ _ _) e⟩,nrt gB⟩
  ·rename_i hx;have hF:=hC.f4;have hnx:=hf.nx;have hnx:s.mem .next=s.nf∨(s.nf=C.F/\(C.F:Int)<=s.mem .next):=hnx;have hnF:s.nf<=C.F:=hf.zj;have h48:s.nf<4096:=by rcases hnx with e | e<;>omega
   refine⟨⟨_,h.spawn (f:=f) (y:={s.fr f with J:=(s.fr f).J+1,bD:=(s.fr f).bD+1}) (c0:=kR C (s.fr f) f sl g0 c) hs hr hf hi hh hp hc h48 ?_ rfl rfl (λ_ _=>rfl) (tS (p:=.fork s.nf) nfp rfl (.inl rfl)) rfl rfl ok.1,λ_=>WN.spawn hc JA h hn hl rfl rfl⟩,GH⟩;show ck (ck (ck s.fr f _) f _) s.nf _=_;rw[RS]
 ·split
  ·exact⟨⟨_,h.data hn hl rfl rfl (λ_ _=>rfl) (zK (s:=s) (f:=f) (by rw[held];rfl)) (tS (p:=.Ae) nfp rfl (.inr ⟨none,rfl⟩)) ⟨rfl,rfl,rfl,rfl⟩ (λvs=>by unfold FF;simp only[hc]),λ_=>WN.inc hn hl rfl (zK (s:=s) (f:=f) (by rw[held];rfl))⟩,nrt gB⟩
  ·exact⟨⟨_,h.data hn hl rfl rfl (λ_ _=>rfl) (zK (s:=s) (f:=f) (by rw[held];rfl)) (tS (p:=.nB) nfp rfl (.inl rfl)) ⟨rfl,rfl,rfl,rfl⟩ (λvs=>by unfold FF;simp only[hc]),λ_=>WN.inc hn hl rfl (zK (s:=s) (f:=f) (by rw[held];rfl))⟩,GH⟩
 ·rename_i a;have hk:=hs.JJ hr hf hi hh hc;have hkn:=Li h hf hk (λj c hj e e'=>by
   have q:=(hf.fk j c hj (by show sig (s.pc j)=_;rw[e];rfl)).2.2.1;have q:s.hold j=some (s.fr c).par:=q;rw[e']at q;have:=AZ hf hj hi q hh;subst this;rw[hp]at e;cases e)
  split
  ·next e0 =>
   subst e0;have hd:=h.done hn hl JA hkn hc;rw[h.d0]at hd;have hwk:γ.wk 0<=g:=ET (MF hn) h.w;refine⟨⟨γ,?_,λ_=>WN.root hkn hn hl rfl rfl rfl⟩,λe he _ _ => ?_⟩
   rotate_left
   ·cases he;exact⟨_,_,hd,I⟩
   ·have hno:∀x,γ.pn 0 x=none:=hkn;refine⟨λk hk' hlk hnk => ?_,λk hk' => ?_,h.d0,λk x c e => ?_,λc h0 Gf hlc => ?_,λk hk' => ?_,by have:=h.w;exact Nat.le_succ_of_le this⟩
    ·have ek:k≠0:=λe=>by subst e;have hlk:live (ck s.loc 0 (.fin i) 0)=true:=hlk;rw[aC]at hlk;cases hlk
     have hlk:live (ck s.loc 0 (.fin i) k)=true:=hlk;rw[aA ek]at hlk;have hA:=h.A k hk' hlk (Be (tS (p:=.done) nfp rfl (.inr ⟨none,rfl⟩)) hnk);intro vs hv;show Pre C _ _ _ _ ⟨(ck s.fr 0 _ k).J,(ck s.fr 0 _ k).bu,_,(ck s.fr 0 _ k).bD⟩ _ _;rw[aA ek];exact hA vs hv
    ·show(γ.ds k).fn=(ck s.fr 0 _ k).fn/\(γ.ds k).mN=(ck s.fr 0 _ k).mN/\_;have:=h.D k hk';rw[cG];split
     ·next e=>subst e;exact this
     ·exact this
    ·obtain⟨b1,b2,b3,b4,b5⟩:=h.pn k x c e;show c≠0/\c<s.nf/\(ck s.fr 0 _ c).par=k/\(ck s.fr 0 _ c).slot=x/\live (ck s.loc 0 _ c)=true;rw[aA b1,aA b1];exact⟨b1,b2,b3,b4,b5⟩
    ·have hlc:live (ck s.loc 0 (.fin i) c)=true:=hlc;rw[aA h0]at hlc;show γ.pn (ck s.fr 0 _ c).par (ck s.fr 0 _ c).slot=some c;rw[aA h0];exact h.np c h0 Gf hlc
    ·exact h.z k hk'
  ·next e0 =>
   refine⟨⟨_,h.ret (i:=i) (f:=f) (a:=a) (y:={s.fr f with J:=(s.fr f).J+1}) hr hf hn e0 hl JA hkn hc rfl rfl rfl (λk x => ?_) (tS (p:=.out (s.fr f).par f) nfp rfl (.inr ⟨none,rfl⟩)) rfl,λ_=>WN.ret hkn (h.np f e0 hn hl) e0 hn (hf.pr f hn) (λe=>by have:=h.np f e0 hn hl;rw[e,hkn]at this;cases this) hl rfl rfl rfl⟩,λe he h1 h2 => ?_⟩
   ·show ck s.mem (.slot (s.fr f).par (s.fr f).slot) ((s.fr f).bu a) (.slot k x)=_;rw[cG];simp only[uF.slot.injEq]
   ·cases he;exact absurd h2 (by show ¬(f:Int)=0;omega)
theorem SI.adr(hC:C.OK)(h:SI C D0 s γ g)(hs:SL C φ s σ)(hr:FR C s)(hf:(view s).FI C.N C.F)(hd:DT C s)(hi:i<C.N)(h1:s.pc i≠.run)(d:Int) :
 (∃γ',SI C D0 (Am.aH C s i d).s γ' (g+1)/\WN C s (Am.aH C s i d).s γ γ' 0)/\Rt C D0 g (Am.aH C s i d).ev:=by
 have nrt:∀{k:Nat} {a b c:Int},k≠6->Rt C D0 g (ev k a b c):=λhk e he=>by cases he;exact λh=>absurd h hk
 have GH:Rt C D0 g none:=λe he=>by cases he
 cases hp:s.pc i with
 | run=>exact absurd hp h1
 | halted=>unfold Am.aH;rw[hp];exact⟨⟨γ,h.KC rfl rfl (λ_ _=>rfl) (λ_=>rfl) (λj hj=>⟨hj,rfl⟩)⟩,GH⟩
 | full=>unfold Am.aH;rw[hp];exact⟨⟨γ,h.KC rfl rfl (λ_ _=>rfl) (λ_=>rfl) (λj hj=>⟨hj,rfl⟩)⟩,GH⟩
 | nB =>
  obtain⟨f,hh⟩:=ry hf hi (by rw[hp];rfl);unfold Am.aH;rw[hp];simp only[hh,pG];exact⟨⟨γ,h.KC rfl rfl (λ_ _=>rfl) (zK (s:=s) (f:=f) (by rw[(ou hf hi hh).1];rfl)) (tS (i:=i) (p:=.run) (by rw[hp];simp) rfl (.inl rfl))⟩,nrt gB⟩
 | out p c =>
  have hg:(view s).g i= .out p c:=by show sig (s.pc i)=_;rw[hp];rfl
  have hc:s.loc c= .fin i:=(hf.out i p c hi hg).2.1;unfold Am.aH;rw[hp];simp only;split
  ·rename_i hn;have hw:s.loc p= .waiting:=(hf.jt hi hg hn).1;refine⟨⟨γ,h.KC rfl rfl (λ_ _=>rfl) (λk => ?_) (tS (i:=i) (p:=.take p c) (by rw[hp];simp) rfl (.inl rfl))⟩,GH⟩;show live (ck (ck s.loc c .gone) p (.qJ i) k)=live (s.loc k);rw[cG];split
   ·next e=>subst e;rw[hw];rfl
   ·exact zK (s:=s) (f:=c) (by rw[hc];rfl) k
  ·exact⟨⟨γ,h.KC rfl rfl (λ_ _=>rfl) (zK (s:=s) (f:=c) (by rw[hc];rfl)) (tS (i:=i) (p:=.Ae) (by rw[hp];simp) rfl (.inl rfl))⟩,GH⟩
 | take p c =>
  have hg:(view s).g i= .take p c:=by show sig (s.pc i)=_;rw[hp];rfl
  unfold Am.aH;rw[hp];simp only;exact⟨⟨γ,h.KC rfl rfl (λ_ _=>rfl) (zK (s:=s) (f:=p) (by rw[show s.loc p= .qJ i from hf.tk i p c hi hg];rfl)) (tS (i:=i) (p:=.run) (by rw[hp];simp) rfl (.inr ⟨some p,rfl⟩))⟩,nrt gB⟩
 | nC c b =>
  have hg:(view s).g i= .push c:=by show sig (s.pc i)=_;rw[hp];rfl
  unfold Am.aH;rw[hp];simp only;exact⟨⟨γ,h.KC rfl rfl (λ_ _=>rfl) (zK (s:=s) (f:=c) (by rw[show s.loc c= .bW i from(hf.ps i c hi hg).2.1];rfl)) (tS (i:=i) (p:=.Cs) (by rw[hp];simp) rfl (.inl rfl))⟩,nrt gB⟩
 | zi b =>
  have P:=(hd.1 i hi).ph;unfold rJ at P;rw[hp]at P;simp only at P;unfold Am.aH;rw[hp];simp only;split
  ·rename_i hlt;have hne:s.q i≠[]:=by
    intro e;simp only[St.L,St.T,e,zp]at P;omega
   have hm:(s.q i).getLastD 0∈s.q i:=by
    rw[MY,List.getLast?_eq_some_getLast hne];exact List.getLast_mem hne
   have e:s.loc ((s.q i).getLastD 0)= .Of i:=(hf.q i _ hi hm).2;exact⟨⟨γ,h.KC rfl rfl (λ_ _=>rfl) (zK (s:=s) (f:=(s.q i).getLastD 0) (by rw[e];rfl)) (tS (i:=i) (p:=.sD b (s.mem (.top i))) (by rw[hp];simp) rfl (.inl rfl))⟩,GH⟩
  ·split<;>exact⟨⟨γ,h.KC rfl rfl (λ_ _=>rfl) (λ_=>rfl) (tS (i:=i) (by rw[hp];simp) rfl (.inl rfl))⟩,GH⟩
 | nD b t cc =>
  have P:=(hd.1 i hi).ph;unfold rJ at P;rw[hp]at P;simp only at P;unfold Am.aH;rw[hp];simp only;split
  ·rename_i hlt;obtain⟨x,hx,he⟩:=(P.1.2.2.2.1 hlt).2.2;rw[<-P.2]at he;rw[he];have e:s.loc x= .pop i:=(hf.pop i x hi hx).2;refine⟨⟨γ,h.KC rfl rfl (λ_ _=>rfl) (zK (s:=s) (f:=x) (l:=.held i) (by rw[e];rfl)) (tS (i:=i) (p:=.start (-1)) (by rw[hp];simp) rfl (.inr ⟨some x,rfl⟩))⟩,GH⟩
  ·exact⟨⟨γ,h.KC rfl rfl (λ_ _=>rfl) (λ_=>rfl) (tS (i:=i) (by rw[hp];simp) rfl (.inl rfl))⟩,GH⟩
 | qH b t x =>
  have P:=(hd.1 i hi).ph;unfold rJ at P;rw[hp]at P;simp only at P;unfold Am.aH;rw[hp];simp only;split
  ·rename_i ht;have hq:=(P.2.2.2.2.1 ht).1;have e:s.loc x.toNat= .Of i:=(hf.q i _ hi (by show x.toNat∈s.q i;rw[hq];simp)).2;exact⟨⟨γ,h.KC rfl rfl (λ_ _=>rfl) (zK (s:=s) (f:=x.toNat) (by rw[e];rfl)) (tS (i:=i) (p:=.oP t x true) (by rw[hp];simp) rfl (.inl rfl))⟩,GH⟩
  ·exact⟨⟨γ,h.KC rfl rfl (λ_ _=>rfl) (λ_=>rfl) (tS (i:=i) (by rw[hp];simp) rfl (.inl rfl))⟩,GH⟩
 | oP t x Bi =>
  have P:=(hd.1 i hi).ph;unfold rJ at P;rw[hp]at P;simp only at P;unfold Am.aH;rw[hp];simp only;split
  ·rename_i hw;have e:s.loc x.toNat= .pop i:=(hf.pop i _ hi (P.2.2.2 hw).1).2;exact⟨⟨γ,h.KC rfl rfl (λ_ _=>rfl) (zK (s:=s) (f:=x.toNat) (l:=.held i) (by rw[e];rfl)) (tS (i:=i) (p:=.start (-1)) (by rw[hp];simp) rfl (.inr ⟨some x.toNat,rfl⟩))⟩,GH⟩
  ·exact⟨⟨γ,h.KC rfl rfl (λ_ _=>rfl) (λ_=>rfl) (tS (i:=i) (p:=if C.N=1 then .flag else .lS) (by rw[hp];simp) rfl (.inl rfl))⟩,GH⟩
 | qm v t x =>
  have HT:=hd.2 i hi;unfold Th at HT;rw[hp]at HT;simp only at HT;unfold Am.aH;rw[hp];simp only;split
  ·rename_i ht;obtain⟨y,l,hq,hx⟩:=HT.2.2.2 ht.symm;have e:s.loc x.toNat= .Of v:=(hf.q v _ HT.1 (by show x.toNat∈s.q v;rw[hq,hx];simp)).2;exact⟨⟨γ,h.KC rfl rfl (λ_ _=>rfl) (zK (s:=s) (f:=x.toNat) (l:=.held i) (by rw[e];rfl)) (tS (i:=i) (p:=.start v) (by rw[hp];simp) rfl (.inr ⟨some x.toNat,rfl⟩))⟩,nrt gB⟩
  ·exact⟨⟨γ,h.KC rfl rfl (λ_ _=>rfl) (λ_=>rfl) (tS (i:=i) (by rw[hp];simp) rfl (.inl rfl))⟩,GH⟩
 | parked =>
  unfold Am.aH;rw[hp];simp only;split
  ·exact⟨⟨γ,h.KC rfl rfl (λ_ _=>rfl) (λ_=>rfl) (λj hj=>⟨hj,rfl⟩)⟩,GH⟩
  ·exact⟨⟨γ,h.KC rfl rfl (λ_ _=>rfl) (λ_=>rfl) (tS (i:=i) (p:=if C.N=1 then .flag else .lS) (by rw[hp];simp) rfl (.inl rfl))⟩,GH⟩
 | grow c b t cc =>
  unfold Am.aH;rw[hp];simp only;exact⟨⟨γ,h.KC rfl rfl (λ_ _=>rfl) (λ_=>rfl) (tS (i:=i) (p:=.lY c b t cc) (by rw[hp];simp) rfl (.inl rfl))⟩,GH⟩
 | _ =>
  unfold Am.aH;rw[hp];simp only[n8,looking,C8,AW]
  repeat' split
  all_goals exact⟨⟨γ,h.KC rfl rfl (λ_ _=>rfl) (λ_=>rfl) (tS (i:=i) (by rw[hp];simp) rfl (.inl rfl))⟩,by first | exact GH | exact nrt gB⟩
end
theorem Bg{f g:Nat->Nat}:∀{n:Nat},(∀j,j<n->f j<=g j)->fA f n<=fA g n
 | 0,_=>gQ _
 | n+1,h=>by simp only[fA];have:=Bg (n:=n) (λj hj=>h j I);have:=h n I;omega
theorem Bh{f g:Nat->Nat}:∀{n:Nat},fA (λj=>f j+g j) n=fA f n+fA g n
 | 0=>rfl
 | n+1=>by simp only[fA];rw[Bh];omega
theorem GI{g:Nat->Nat->Nat}{m:Nat}:∀{n:Nat},fA (λi=>fA (g i) m) n=fA (λj=>fA (λi=>g i j) n) m
 | 0=>by
  show 0=fA (λj=>0) m;exact(tG (λ_ _=>rfl)).symm
 | n+1=>by
  show fA (λi=>fA (g i) m) n+fA (g n) m=fA (λj=>fA (λi=>g i j) n+g n j) m;rw[Bh,GI]
def CK(w:Nat->Nat):Option Nat->Nat
 | some c=>w c
 | none=>0
theorem OH{w:Nat->Nat}{o:Option Nat}:∀{n:Nat},fA (λc=>if o=some c then w c else 0) n<=CK w o/\((∀c,c<n->o≠some c)->fA (λc=>if o=some c then w c else 0) n=0)
 | 0=>⟨w7 _,λ_=>rfl⟩
 | n+1=>by
  obtain⟨a,b⟩:=OH (w:=w) (o:=o) (n:=n);constructor
  ·simp only[fA];by_cases e:o=some n
   ·rw[bg e,b (λc hc e'=>by rw[e]at e';injection e' with e';omega),e];simp only[CK];omega
   ·rw[cQ e];omega
  ·intro h;simp only[fA];rw[cQ (h n I),b (λc hc=>h c I)]
theorem BW{f:Nat->Nat}{i n:Nat}(h:i<n):f i<=fA f n:=MF h
section
variable {C:jv}{s:St}{D0:Lh}{γ:SG}{g agd:Nat}
theorem WC(h:SI C D0 s γ g)(hr:FR C s)(Uc:∀c,c<s.nf->(s.fr c).par<s.nf)(w:Nat->Nat) :
 fA (λc=>if c≠0/\live (s.loc c)=true then w c else 0) s.nf<=fA (λf=>fA (λx=>CK w (γ.pn f x)) 8) s.nf:=by
 have e1:fA (λc=>if c≠0/\live (s.loc c)=true then w c else 0) s.nf<=fA (λc=>fA (λf=>fA (λx=>if γ.pn f x=some c then w c else 0) 8) s.nf) s.nf:=by
  refine Bg λc hc => ?_;by_cases e:c≠0/\live (s.loc c)=true
  ·rw[bg e];have hp:=h.np c e.1 hc e.2;have h8:=pn8 h hr hp;have a:=BW (f:=λx=>if γ.pn (s.fr c).par x=some c then w c else 0) h8;have b:=BW (f:=λf=>fA (λx=>if γ.pn f x=some c then w c else 0) 8) (Uc c hc);simp only[hp,if_true]at a;exact ET a b
  ·rw[cQ e];exact w7 _
 refine ET e1 ?_;rw[GI];refine Bg λf hf => ?_;rw[GI];exact Bg λx hx=>OH.1
theorem OI(h:SI C D0 s γ g)(ws:WS C s γ agd)(hr:FR C s)(Uc:∀c,c<s.nf->(s.fr c).par<s.nf)(h1:0<s.nf)(hv:live (s.loc 0)=true):∀(q w:Nat->Nat),(∀f,f<s.nf->f≠0->live (s.loc f)=false->q f=0)->(∀f,f<s.nf->live (s.loc f)=true->q f+fA (λx=>CK w (γ.pn f x)) 8+1<=w f)->fA q s.nf+fA (lv s) s.nf<=w 0:=λq w z o=>by
 have p:=WC h hr Uc w;have a:fA (λf=>q f+lv s f+fA (λx=>CK w (γ.pn f x)) 8) s.nf<=fA (λf=>(if f=0 then w 0 else 0)+(if f≠0/\live (s.loc f)=true then w f else 0)) s.nf:=Bg λf hf=>by
  by_cases e:live (s.loc f)=true
  ·have:=o f hf e;have l1:lv s f=1:=by unfold lv;rw[bg e]
   by_cases f0:f=0
   ·subst f0;rw[bg rfl,cQ (λh=>h.1 rfl)];omega
   ·rw[cQ f0,bg ⟨f0,e⟩];omega
  ·have f0:f≠0:=λe'=>by subst e';exact e hv
   have l0:lv s f=0:=by unfold lv;rw[cQ e]
   have z0:=z f hf f0 (by cases hh:live (s.loc f)<;>first | rfl | exact absurd hh e);have:fA (λx=>CK w (γ.pn f x)) 8=0:=tG (λx _=>by
    cases hp:γ.pn f x with
    | none=>rfl
    | some c=>exact absurd (ws.y f x c hp) e)
   rw[z0,l0,this];exact w7 _
 rw[Bh,Bh,Bh]at a;have z1:fA (λf=>if f=0 then w 0 else 0) s.nf=w 0:=by
  have:=nJ (f:=λ_=>0) (g:=λf=>if f=0 then w 0 else 0) (i:=0) (k:=w 0) h1 (λj hj=>by show(if j=0 then w 0 else 0)=0;rw[cQ hj]) (by show(if 0=0 then w 0 else 0)=0+w 0;rw[bg rfl];omega);rw[this,tG (λ_ _=>rfl)];omega
 omega
theorem ads(h:SI C D0 s γ g)(ws:WS C s γ agd)(hr:FR C s)(Uc:∀c,c<s.nf->(s.fr c).par<s.nf)(h1:0<s.nf)(hv:live (s.loc 0)=true)(JA:∀f,f<s.nf->xQ C s f)
 {v:Int} {agb T:Nat} (hD:Dn C D0 (v,agb,T)):agd+fA (lv s) s.nf<=agb/\s.nf<=T:=by
 have E:=ws.e;have ch:∀f,∃r,f<s.nf->live (s.loc f)=true->Dn C (γ.ds f) r:=λf=>by
  by_cases e:f<s.nf/\live (s.loc f)=true
  ·obtain⟨r,hr⟩:=E f e.1 e.2;exact⟨r,λ_ _=>hr⟩
  ·exact⟨(0,0,0),λa b=>absurd ⟨a,b⟩ e⟩
 obtain⟨R,hR⟩:=Classical.axiomOfChoice ch;have h0:R 0=(v,agb,T):=by
  have:=hR 0 h1 hv;rw[h.d0]at this;exact Dn.one this hD
 have one:∀f,f<s.nf->live (s.loc f)=true->γ.wk f+fA (λx=>CK (λc=>(R c).2.1) (γ.pn f x)) 8+1<=(R f).2.1/\γ.tk f+fA (λx=>CK (λc=>(R c).2.2) (γ.pn f x)) 8+1<=(R f).2.2:=λf hf hl=>by
  have a:=h.A f hf hl (JA f hf) R (λx c e=>by
   obtain⟨c1,c2,c3,c4,c5⟩:=h.pn f x c e;exact hR c c2 c5)
  have d:=hR f hf hl;have:=Dn.le (v:=(R f).1) (agb:=(R f).2.1) (T:=(R f).2.2) d a;have e1:fA (wn (γ.pn f) R) 8=fA (λx=>CK (λc=>(R c).2.1) (γ.pn f x)) 8:=oQ (λx _=>by unfold wn CK;cases γ.pn f x<;>rfl);have e2:fA (tn (γ.pn f) R) 8=fA (λx=>CK (λc=>(R c).2.2) (γ.pn f x)) 8:=oQ (λx _=>by unfold tn CK;cases γ.pn f x<;>rfl);rw[<-e1,<-e2];exact this
 have sum:=OI h ws hr Uc h1 hv;have lv0:lv s 0=1:=by unfold lv;rw[bg hv]
 have a:=sum γ.wk (λc=>(R c).2.1) (λf hf f0 hd=>(ws.z f hf f0 hd).1) (λf hf hl=>(one f hf hl).1);have b:=sum γ.tk (λc=>(R c).2.2) (λf hf f0 hd=>(ws.z f hf f0 hd).2) (λf hf hl=>(one f hf hl).2);rw[h0]at a b;simp only at a b;have c:=ws.w;have d:=ws.t;omega
end
def MK(N:Nat)(v:V):Prop:=(∀f,v.mark f=0∨v.mark f=1)/\∀f,f<v.nf->early (v.loc f)=false->v.mark f=1∨∃i,i<N/\v.g i= .start/\v.hold i=some f
section
variable {C:jv}{w w':agb}{i:Nat}{e:Option Ev}
theorem MK.aH(t:Tr C i w e w')(hi:i<C.N)(h:w.v.FI C.N C.F)(m:MK C.N w.v):MK C.N w'.v:=by
 obtain⟨m1,m2⟩:=m;have z1:=h.Bl i;have z2:=h.free;have z3:=h.hold i;have z4:∀f j,w.v.hold i=some f->j<C.N->w.v.hold j=some f->j=i:=λf j h1 hj h2=>AZ h hj hi h2 h1;have z5:∀f,w.v.hold i=some f->f<w.v.nf:=λf h1=>Dw h hi h1;have z6:=h.hold;have z7:=h.out i;have z8:=h.tk i;have z9:=h.used;have nx:∀f,f<w.v.nf->early (w.v.loc f)=false->(∀j,j<C.N->w.v.g j= .start->w.v.hold j≠some f)->w.v.mark f=1:=λf a b c=>by
  rcases m2 f a b with h | ⟨j,hj,h1,h2⟩
  ·exact h
  ·exact absurd h2 (c j hj h1)
 have keep:∀{g':Nat->Vz} {aab:Nat->Option Nat} {k:Nat},(∀j,j≠i->g' j=w.v.g j)->(∀j,j≠i->aab j=w.v.hold j)->w.v.g i≠.start->k<w.v.nf->early (w.v.loc k)=false->w.v.mark k=1∨∃j,j<C.N/\g' j= .start/\aab j=some k:=λa b c d e=>by
  rcases m2 _ d e with h | ⟨j,hj,h1,h2⟩
  ·exact .inl h
  ·have:j≠i:=λe=>c (e▸ h1);exact .inr ⟨j,hj,by rw[a j this];exact h1,by rw[b j this];exact h2⟩
 have gen:∀f,w.v.g i= .run->w.v.hold i=some f->∀(l:Loc) (g':Vz) (o:Option Nat) (k:Nat),k<w.v.nf->early (ck w.v.loc f l k)=false->w.v.mark k=1∨∃j,j<C.N/\ck w.v.g i g' j= .start/\ck w.v.hold i o j=some k:=λf hg hf l g' o k hk he=>by
  by_cases e:k=f
  ·subst e;refine .inl (nx k hk ?_ (λj hj h1 h2 => ?_))
   ·rcases z3 k hi hf with a | a<;>rw[a.2]<;>rfl
   ·have:=z4 k j hf hj h2;subst this;rw[hg]at h1;cases h1
  ·rw[aA e]at he;exact keep (λj hj=>aA hj) (λj hj=>aA hj) (by rw[hg];simp) hk he
 cases t
 all_goals (constructor)
 all_goals (try grind)
 case wait.right f hg hf hk=>exact λk a b=>gen f hg hf _ _ _ k a b
 case Ms.right v hg hf=>exact λk a b=>gen 0 hg hf _ _ _ k a b
 case ret.right f v hg hf h0=>exact λk a b=>gen f hg hf _ _ _ k a b
 case Oi.right p c hg hn =>
  intro k a b;have b:early (ck (ck w.v.loc c .gone) p (.qJ i) k)=false:=b;have ow:=(h.jt hi hg hn).1;by_cases e:k=p
  ·subst e;exact .inl (nx k a (by rw[ow];rfl) (λj hj h1 h2=>by rcases z6 j k hj h2 with q | q<;>(rw[ow]at q;cases q.2)))
  ·rw[aA e]at b;by_cases e2:k=c
   ·subst e2;have oc:=(z7 p k hi hg).2.1;exact .inl (nx k a (by rw[oc];rfl) (λj hj h1 h2=>by rcases z6 j k hj h2 with q | q<;>(rw[oc]at q;cases q.2)))
   ·rw[aA e2]at b;exact keep (λj hj=>aA hj) (λj hj=>rfl) (by rw[hg];simp) a b
 case take.right p c hg =>
  intro k a b;have b:early (ck w.v.loc p (.held i) k)=false:=b;have ot:=z8 p c hi hg;by_cases e:k=p
  ·subst e;exact .inl (nx k a (by rw[ot];rfl) (λj hj h1 h2=>by rcases z6 j k hj h2 with q | q<;>(rw[ot]at q;cases q.2)))
  ·rw[aA e]at b;exact keep (λj hj=>aA hj) (λj hj=>aA hj) (by rw[hg];simp) a b
 case got.right x hg hx =>
  intro k a b;have b:early (ck w.v.loc x (.held i) k)=false:=b;by_cases e:k=x
  ·subst e;exact .inr ⟨i,hi,aC _ _ _,aC _ _ _⟩
  ·rw[aA e]at b;exact keep (λj hj=>aA hj) (λj hj=>aA hj) (by rw[hg];simp) a b
 case Js.right v x l hk KN hg hx =>
  intro k a b;have b:early (ck w.v.loc x (.held i) k)=false:=b;by_cases e:k=x
  ·subst e;exact .inr ⟨i,hi,aC _ _ _,aC _ _ _⟩
  ·rw[aA e]at b;exact keep (λj hj=>aA hj) (λj hj=>aA hj) (by rw[hg];simp) a b
end
def CJ(C:jv)(D0:Lh)(s:St)(H agd g:Nat):Prop:=∃(φ:OE C) (σ:Nat->Nat->Nat) (γ:SG) (pu:Nat->Nat),SL C φ s σ/\SI C D0 s γ g/\WS C s γ agd/\CI C s pu H agd/\agd+Ig s<=H/\MK C.N (wv s).v
section
variable {C:jv}{s:St}{i:Nat}{D0:Lh}{H agd g:Nat}
theorem YX(hC:C.OK)(j:CJ C D0 s H agd g)(hr:FR C s)(hf:(view s).FI C.N C.F)(hd:DT C s)(hz:SZ C s)(hi:i<C.N)(d:Int)(h0:s.pc i≠.full)(h1:(Am.aH C s i d).s.pc i≠.full) :
 CJ C D0 (Am.aH C s i d).s (H+if busy (sig (s.pc i))=true then 1 else 0) (agd+if s.pc i= .run then 1 else 0) (g+1)/\Rt C D0 g (Am.aH C s i d).ev:=by
 obtain⟨φ,σ,γ,pu,sl,si,ws,ci,li,mk⟩:=j;obtain⟨σ',sl'⟩:=sl.aH hC hr hf hd hi d;obtain⟨pu',ci'⟩:=ci.aH hz hd hf hi h0 d;have li':=YW li hf hi d;have mk':=mk.aH (Dt hf hd hi d) hi hf;by_cases e:s.pc i= .run
 ·have es:Am.aH C s i d=Am.instr C s i:=by unfold Am.aH;rw[e]
  obtain⟨⟨γ',si',ws'⟩,rt⟩:=SI.abu hC si sl hr hf hi e;rw[es]at h1;refine⟨⟨φ,σ',γ',pu',sl',by rw[es];exact si',?_,ci',li',mk'⟩,by rw[es];exact rt⟩;rw[bg e,es];exact ws' h1 agd ws
 ·obtain⟨⟨γ',si',ws'⟩,rt⟩:=SI.adr hC si sl hr hf hd hi e d;refine⟨⟨φ,σ',γ',pu',sl',si',?_,ci',li',mk'⟩,rt⟩;rw[cQ e];exact ws' agd ws
theorem adt(j:CJ C D0 s H agd g)(hr:FR C s)(hf:(view s).FI C.N C.F)(hd:DT C s)(hz:SZ C s)(hn:∀j,j<C.N->s.pc j≠.full)(hv:live (s.loc 0)=true){v:Int}{agb T:Nat}(hD:Dn C D0 (v,agb,T)) :
 H<=2*agd+(C.N+16)*T/\agd+1<=agb/\s.nf<=T:=by
 obtain⟨φ,σ,γ,pu,sl,si,ws,ci,li,mk⟩:=j;have h1:0<s.nf:=hf.Ao;obtain⟨a,b⟩:=ads si ws hr hf.pr h1 hv (λf _ j hj e=>absurd e (hn j hj)) hD;have c:=ci.all hz hd (λf=>by
  have:=mk.1 f;change s.mem (.mark f)=0∨s.mem (.mark f)=1 at this;omega)
 have l1:1<=fA (lv s) s.nf:=by
  have:=BW (f:=lv s) h1;have e:lv s 0=1:=by unfold lv;rw[bg hv]
  omega
 have m:(C.N+16)*s.nf<=(C.N+16)*T:=Nat.mul_le_mul_left _ b;exact⟨I,I,b⟩
end
section
variable {C:jv}{s:St}{i:Nat}{D0:Lh}{H agd g:Nat}
theorem abv(j:CJ C D0 s H agd g)(hr:FR C s)(hf:(view s).FI C.N C.F)(hd:DT C s)(hi:i<C.N)(hp:s.pc i= .run)(hh:s.hold i=some 0){a:Nat}(hc:C.code (s.fr 0).fn (s.fr 0).J= .ret a)(hn:∀j,j<C.N->s.pc j≠.full)
 {v:Int} {agb T:Nat} (hD:Dn C D0 (v,agb,T)):agd+1=agb/\s.nf=T/\v=(s.fr 0).bu a/\∀f,f<s.nf->live (s.loc f)=true->f=0:=by
 obtain⟨φ,σ,γ,pu,sl,h,ws,ci,li,mk⟩:=j;obtain⟨hl,EZ⟩:=ou hf hi hh;have JA:∀f,xQ C s f:=λf j hj e=>absurd e (hn j hj);have hk:=sl.JJ hr hf hi hh hc;have hkn:=Li h hf hk (λj c hj e e'=>by
  have q:=(hf.fk j c hj (by show sig (s.pc j)=_;rw[e];rfl)).2.2.1;have q:s.hold j=some (s.fr c).par:=q;rw[e']at q;have:=AZ hf hj hi q hh;subst this;rw[hp]at e;cases e)
 have hd':=h.done EZ hl (JA 0) hkn hc;rw[h.d0]at hd';have e:=Dn.one hD hd';injection e with e1 e2
 injection e2 with e2 e3
 obtain⟨t1,t2⟩:=ads h ws hr hf.pr EZ hl (λf _=>JA f) hD;have l0:lv s 0=1:=by unfold lv;rw[bg hl]
 have w1:=ws.w;have w2:=ws.t;have s1:=BW (f:=γ.wk) EZ;have s2:=BW (f:=γ.tk) EZ;have s3:=BW (f:=lv s) EZ;refine⟨I,I,e1,λf hf' hlf => ?_⟩;by_cases f0:f=0
 ·exact f0
 ·have q:=zL (f:=lv s) (g:=ck (lv s) 0 0) EZ (λj hj=>aA hj);rw[aC]at q;have r:=BW (f:=ck (lv s) 0 0) hf';rw[aA f0]at r;have lf:lv s f=1:=by unfold lv;rw[bg hlf]
  omega
end
section
variable {C:jv}{w w':agb}{i:Nat}{e:Option Ev}
theorem Tr.root(t:Tr C i w e w')(hi:i<C.N)(h:w.v.FI C.N C.F)(hl:live (w.v.loc 0)=true):live (w'.v.loc 0)=true∨∃v,e=ev 6 0 (-1) v/\w.v.g i= .run/\w.v.hold i=some 0:=by
 have z1:=h.out i;have z2:=h.Ao;cases t
 case Ms v hg hf=>exact .inr ⟨v,rfl,hg,hf⟩
 case ret f v hg hf h0 =>
  refine .inl ?_;show live (ck w.v.loc f _ 0)=true;rw[aA (Ne.symm h0)];exact hl
 case PJ p c hg hn =>
  have c0:=(z1 p c hi hg).1;refine .inl ?_;show live (ck w.v.loc c _ 0)=true;rw[aA (Ne.symm c0)];exact hl
 case Oi p c hg hn =>
  have c0:=(z1 p c hi hg).1;refine .inl ?_;show live (ck (ck w.v.loc c _) p _ 0)=true;rw[cG];split
  ·rfl
  ·rw[aA (Ne.symm c0)];exact hl
 all_goals (refine .inl ?_;first | exact hl | (show live (ck _ _ _ 0)=true;rw[cG];split<;>first | rfl | exact hl))
end
section
variable {C:jv}{s:St}{i:Nat}{D0:Lh}{H agd g agb T:Nat}{d:Int}
theorem OJ{a:Nat}(hp:s.pc i= .run)(hh:s.hold i=some 0)(hc:C.code (s.fr 0).fn (s.fr 0).J= .ret a):(aH C s i d).s.loc=ck s.loc 0 (.fin i)/\(aH C s i d).s.nf=s.nf/\(aH C s i d).s.pc=ck s.pc i .done/\(aH C s i d).s.val=some ((s.fr 0).bu a)/\(aH C s i d).ev=ev 6 0 (-1) ((s.fr 0).bu a):=by
 unfold Am.aH;rw[hp];unfold instr;simp only[hh,pG,hc];exact⟨rfl,rfl,rfl,rfl,rfl⟩
def WD(C:jv)(s:St):Prop:=∀j,j<C.N->s.pc j≠.full
end
end Am
end
section
namespace Mo
open Go SL GX
section
variable {K:Nat}{p:aE}{N F f m:Nat}
def Ei(args:List Int):Am.Lh:=⟨0,1,1,λr=>if(0:Nat)=0 then GX.J args r else 0⟩
theorem WE{args:List Int}(hv:Valid p)(JP:Zr p)(abw:∀x∈args,J3 x)(hK:4200000<K)(hc :∃x,jc K p=some x/\x.xd=0)(ha:(args.length:Int)=(GX.J p.ah 0).aS) :
 ∃r e,sI K p args 65536=some (r,e)/\(e=0->∃(v:Int) (n t:Nat),Am.Dn (cfg p N F f m) (Ei args) (v,n,t)/\r.V=v/\r.kT=n/\r.wh=t/\n<=65536/\t<=n):=by
 obtain⟨x,c1,c2⟩:=hc;have hR:oZ K p args 65536=some 0:=by
  unfold oZ;have:=hv.n1;rw[c1,ax,bg c2,bg ⟨I,I⟩,bg ha,ez,ez]
 have hp8:=(hv.HZ 0 hv.n1).p8;have e1:∀r,r<16->(if r<args.length then GX.J args r else 0)=(Ei args).a0 r:=λr hr=>by
  show _=(if(0:Nat)=0 then GX.J args r else 0);rw[bg rfl];split
  ·rfl
  ·next hh=>unfold GX.J;rw[List.getD_eq_getElem?_getD,List.getElem?_eq_none I];rfl
 have e2:∀r,r<16->u9 ((Ei args).a0 r):=λr hr=>by
  show u9 (if(0:Nat)=0 then GX.J args r else 0);rw[bg rfl];by_cases hh:r<args.length
  ·have:=abw _ (tR hh);unfold J3 at this;unfold u9;omega
  ·unfold GX.J;rw[List.getD_eq_getElem?_getD,List.getElem?_eq_none I];show u9 0;unfold u9;omega
 have agc:SG0 (⟨65536,0,([]:List fm),0⟩:bH) 0:=⟨rfl,by show(0:Int)<=65536;decide,by show(65536:Int)<=4194304;decide,by show((0:Nat):Int)+65536<=9000000;decide⟩;obtain⟨v,KB,S',hr,hsn⟩:=RU (N:=N) (F:=F) (f:=f) (m:=m) hv JP hK K 0 1 1 (Ei args).a0 (⟨-1,0,0,0,1,0,0⟩:fm) (⟨65536,0,([]:List fm),0⟩:bH) args hv.n1 rfl rfl (by unfold u9;omega) I e1 e2 agc (by show((0:Nat):Int)+1+65536<=9000000;decide) gB I;have r1:rC K (⟨65536,0,([]:List fm),0⟩:bH) p.ah (⟨-1,0,0,0,1,0,0⟩:fm) args 1=some (v,KB,S'):=hr;unfold sI uz;rw[hR,ax,bg rfl,r1,dA];by_cases h0:S'.xd=0
 ·rw[bg h0,dA];refine⟨_,_,rfl,λ_ => ?_⟩;obtain⟨z,a,n,t,b1,b2,b3,b4,b5,b6,b7,b8⟩:=hsn h0;have b6:((n+1:Nat):Int)<=65536:=b6;have b5:S'.Left=65536-((n+1:Nat):Int):=b5;have b7:S'.bL.length=0+(t+1):=b7;have htn:=(Qg b1).1;refine⟨v,n+1,t+1,⟨z,a,n,t,b1,b2,by rw[b3]⟩,rfl,?_,?_,I,I⟩
  ·show wi (65536-S'.Left)=_;rw[b5,fh I];omega
  ·show((S'.bL.length:Nat):Int)=_;rw[b7];omega
 ·rw[cQ h0,dA];exact⟨_,_,rfl,λh=>absurd h h0⟩
theorem Qi{c:bU}{a:List Int}{n:Int}{lI:dZ}(e:jo K (⟨c.bP⟩:aE) a n lI=some 0) :∃x,jc K (⟨c.bP⟩:aE)=some x/\x.xd=0:=by
 unfold jo at e;cases h2:jc K (⟨c.bP⟩:aE)with
 | none=>rw[h2]at e;cases e
 | some x =>
  refine⟨x,rfl,?_⟩;rw[h2,ax]at e;by_cases hx:x.xd=0
  ·exact hx
  ·rw[cQ hx]at e;cases e
theorem YY{args:List Int}(hv:Valid p){v:Int}{agb T:Nat}(hN:1<=N)(hD:Am.Dn (cfg p N F f m) (Ei args) (v,agb,T)):Am.CJ (cfg p N F f m) (Ei args) (init (cfg p N F f m) args) 0 0 0:=by
 obtain⟨φ,_⟩:=YU (N:=N) (F:=F) (f:=f) (m:=m) hv;have hlv:Am.lv (init (cfg p N F f m) args) 0=1:=rfl;refine⟨φ,λ_ _=>1,⟨λ_ _=>none,λ_=>Ei args,λ_=>0,λ_=>0⟩,λ_=>0,⟨?_,?_,?_,?_,?_⟩,⟨?_,?_,rfl,?_,?_,?_,?_⟩,⟨?_,?_,?_,?_,?_⟩,⟨?_,?_,?_,?_,?_,?_⟩,gQ _,?_,?_⟩
 ·intro f' hf _ c hc;exact φ.r0 0 hv.n1 c hc
 ·intro f' _ _ k hk;cases hk
 ·intro i c _ h;have h:(if i=0 then Am.Pc.start (-1)else .lS)= .fork c:=h;split at h<;>cases h
 ·intro f' k hk;cases hk
 ·intro i c _ h;have h:(if i=0 then Am.Pc.start (-1)else .lS)= .fork c:=h;split at h<;>cases h
 ·intro k hk _ _;have hk:k<1:=hk;have e:k=0:=by omega
  subst e;intro vs _;exact Am.Pre.nil _ _ _ _
 ·intro k hk;have hk:k<1:=hk;have e:k=0:=by omega
  subst e;exact⟨rfl,rfl,gQ _⟩
 ·intro k x c h;cases h
 ·intro c h0 hc _;have hc:c<1:=hc;omega
 ·intro k _;exact⟨λ_=>rfl,rfl,rfl,λ_=>rfl⟩
 ·exact gQ _
 ·rfl
 ·rfl
 ·intro k hk h0 _;have hk:k<1:=hk;omega
 ·intro k x c h;cases h
 ·intro k hk _;have hk:k<1:=hk;have e:k=0:=by omega
  subst e;exact⟨_,hD⟩
 ·rw[Am.tG (λj _=>by show Am.zm _ j (if j=0 then Am.Pc.start (-1)else .lS)=0;split<;>rfl)];exact w7 _
 ·show Am.fA (λ_=>0) N+1=1;rw[Am.tG (λ_ _=>rfl)]
 ·intro j _;show Am.Ai (if j=0 then Am.Pc.start (-1)else .lS) 0<=((0:Nat):Int);split<;>exact yB _
 ·intro j _ h;have h:1<=0:=h;omega
 ·intro j _;show Am.MG (if j=0 then Am.Pc.start (-1)else .lS);split<;>trivial
 ·intro j _;show Am.wt _ j (if j=0 then Am.Pc.start (-1)else .lS);split<;>trivial
 ·exact λk=>.inl rfl
 ·intro k hk _;have hk:k<1:=hk;have e:k=0:=by omega
  subst e;exact .inr ⟨0,hN,rfl,rfl⟩
end
end Mo
end
section
namespace Am
structure LV(N:Nat)(v:V):Prop where
 c:∀f j,v.loc f= .bW j->j<N/\(v.g j= .fork f∨v.g j= .push f)
 q:∀f j,v.loc f= .Of j->j<N/\f∈v.q j
 p:∀f j,v.loc f= .pop j->j<N/\v.pop j=some f
 h:∀f j,v.loc f= .held j∨v.loc f= .uy j->j<N/\v.hold j=some f
 t:∀f j,v.loc f= .qJ j->j<N/\∃c,v.g j= .take f c
 n:∀f j,v.loc f= .fin j->f≠0->j<N/\∃p,v.g j= .out p f
 w:∀c,c≠0->c<v.nf->v.par c<c
section
variable {C:jv}{w w':agb}{i:Nat}{e:Option Ev}
set_option maxHeartbeats 2000000 in
theorem LV.aH(t:Tr C i w e w')(hi:i<C.N)(h:w.v.FI C.N C.F)(h11:∀x,e=some x->x.kind≠11)(hp:w.v.pop i=none∨w'.v.q=w.v.q)(l:LV C.N w.v):LV C.N w'.v:=by
 obtain⟨l1,l2,l3,l4,l5,l6,l7⟩:=l;have z1:=h.hold i;have z2:∀f,w.v.hold i=some f->f<w.v.nf:=λf h1=>Dw h hi h1;have z3:=h.out i;have z4:=h.tk i;have z5:=h.fk i;have z6:=h.ps i;have z7:=h.hr i hi;cases t with
 | gL e he=>exact⟨l1,l2,l3,l4,l5,l6,l7⟩
 | full c hg=>exact absurd rfl (h11 _ rfl)
 | EC hg hn=>exact absurd rfl (h11 _ rfl)
 | oq x l hg hq =>
  have hp:w.v.pop i=none:=by
   rcases hp with hp | hp
   ·exact hp
   ·have hp:ck w.v.q i l=w.v.q:=hp;have:=congrFun hp i;rw[aC,hq]at this;have:=nR List.length this;rw[jM]at this;simp at this
  constructor<;>grind
 | SR x hg hq =>
  have hp:w.v.pop i=none:=by
   rcases hp with hp | hp
   ·exact hp
   ·have hp:ck w.v.q i []=w.v.q:=hp;have:=congrFun hp i;rw[aC,hq]at this;cases this
  constructor<;>grind
 | start f hg hf=>constructor<;>grind
 | spawn f hg hf hn=>constructor<;>grind
 | fork c f hg hf=>constructor<;>grind
 | push c f hg hf=>constructor<;>grind
 | wait f hg hf hk=>constructor<;>grind
 | pass f hg hf hk=>constructor<;>grind
 | one f hg hf=>constructor<;>grind
 | Ms v hg hf=>constructor<;>grind
 | ret f v hg hf h0 =>
  constructor
  case n =>
   intro k j hk U7;have hk:ck w.v.loc f (.fin i) k= .fin j:=hk;by_cases e:k=f
   ·subst e;rw[aC]at hk;cases hk;exact⟨hi,_,aC _ _ _⟩
   ·rw[aA e]at hk;obtain⟨a,p,b⟩:=l6 k j hk U7;exact⟨a,p,by show ck w.v.g i _ j=_;rw[aA (by intro e;subst e;rw[hg]at b;cases b)];exact b⟩
  all_goals grind
 | PJ p c hg hn=>constructor<;>grind
 | Oi p c hg hn =>
  constructor
  case t =>
   intro k j hk;have hk:ck (ck w.v.loc c .gone) p (.qJ i) k= .qJ j:=hk;by_cases e:k=p
   ·subst e;rw[aC]at hk;cases hk;exact⟨hi,_,aC _ _ _⟩
   ·rw[aA e,cG]at hk;split at hk
    ·cases hk
    ·obtain⟨a,x,b⟩:=l5 k j hk;exact⟨a,x,by show ck w.v.g i _ j=_;rw[aA (by intro e;subst e;rw[hg]at b;cases b)];exact b⟩
  all_goals grind
 | take p c hg=>constructor<;>grind
 | got x hg hx=>constructor<;>grind
 | Js k x l hk KN hg hx=>constructor<;>grind
theorem LV.ne{v:V}{F:Nat}(h:v.FI 1 F)(l:LV 1 v)(h0:v.hold 0=none)(hp:v.pop 0=none)(hg:v.g 0= .none)(hl:live (v.loc 0)=true):v.q 0≠[]:=by
 intro hq;have key:∀n f,v.nf<=f+n->f<v.nf->live (v.loc f)=true->False:=by
  intro n
  induction n with
  | zero=>intro f h1 h2;omega
  | succ n ih =>
   intro f h1 h2 h3;cases e:v.loc f with
   | free=>exact h.used f h2 e
   | bW j =>
    obtain⟨a,b⟩:=l.c f j e;have:j=0:=by omega
    subst this;rw[hg]at b;rcases b with b | b<;>cases b
   | Of j =>
    obtain⟨a,b⟩:=l.q f j e;have:j=0:=by omega
    subst this;rw[hq]at b;cases b
   | pop j =>
    obtain⟨a,b⟩:=l.p f j e;have:j=0:=by omega
    subst this;rw[hp]at b;cases b
   | held j =>
    obtain⟨a,b⟩:=l.h f j (.inl e);have:j=0:=by omega
    subst this;rw[h0]at b;cases b
   | uy j =>
    obtain⟨a,b⟩:=l.h f j (.inr e);have:j=0:=by omega
    subst this;rw[h0]at b;cases b
   | qJ j =>
    obtain⟨a,c,b⟩:=l.t f j e;have:j=0:=by omega
    subst this;rw[hg]at b;cases b
   | fin j=>rw[e]at h3;cases h3
   | gone=>rw[e]at h3;cases h3
   | waiting =>
    have:=h.jn f h2;rw[e]at this;obtain⟨c,hc⟩:=List.exists_mem_of_ne_nil _ this.2;obtain⟨c1,c2,c3,c4⟩:=h.kd f c hc;have hc:c<v.nf:=by
     rcases BZ c v.nf with h' | h'
     ·exact h'
     ·exact absurd (h.free c h') c4
    have:=l.w c c1 hc;refine ih c I hc ?_;cases e:v.loc c with
    | fin j =>
     obtain⟨a,p,b⟩:=l.n c j e c1;have:j=0:=by omega
     subst this;rw[hg]at b;cases b
    | gone=>exact absurd e c3
    | _=>rfl
 exact key v.nf 0 I h.Ao hl
def dw:Loc->Nat
 | .fin _ | .gone=>10
 | .waiting | .qJ _=>8
 | _=>0
def KD(v:V):Nat:=fA (λf=>dw (v.loc f)) v.nf
theorem MJ{loc:Nat->Loc}{f n:Nat}{l:Loc}(h:f<n):fA (λk=>dw (ck loc f l k)) n+dw (loc f)=fA (λk=>dw (loc k)) n+dw l:=by
 have:=zL (f:=λk=>dw (loc k)) (g:=λk=>dw (ck loc f l k)) h (λj hj=>by show dw (ck loc f l j)=_;rw[aA hj]);simp only[aC]at this;exact this
theorem Ej{v:V}{N F f:Nat}{l:Loc}(h:v.FI N F)(e:v.loc f=l)(hl:l≠.free):f<v.nf:=by
 rcases BZ f v.nf with h' | h'
 ·exact h'
 ·exact absurd (e.symm.trans (h.free f h')) hl
def gn:Vz->Vz->Nat
 | .run,.none=>8
 | .run,.out _ _=>10
 | _,_=>0
theorem YZ{a:Vz}:gn a a=0:=by cases a<;>rfl
theorem Dh{v v':V}{f:Nat}{l:Loc}{k:Nat}(hf:f<v.nf)(hl:v'.loc=ck v.loc f l)(hk:dw (v.loc f)+k<=dw l)(hn:v'.nf=v.nf:=by rfl):KD v+k<=KD v':=by
 have:=MJ (loc:=v.loc) (l:=l) hf;unfold KD;rw[hn,hl];omega
theorem Tr.dn(t:Tr C i w e w')(hi:i<C.N)(h:w.v.FI C.N C.F)(ht:∀p c,w.v.g i≠.take p c):KD w.v+gn (w.v.g i) (w'.v.g i)<=KD w'.v:=by
 have hlt:=λf=>Dw h hi (f:=f);have hh:∀f,w.v.hold i=some f->dw (w.v.loc f)=0:=λf hf=>by rcases h.hold i f hi hf with a | a<;>rw[a.2]<;>rfl
 cases t with
 | gL e he=>rw[YZ];exact gQ _
 | full c hg=>rw[hg];exact gQ _
 | start f hg hf=>rw[hg];exact gQ _
 | fork c f hg hf=>rw[hg];exact gQ _
 | EC hg hn =>
  show _+gn _ (ck w.v.g i .full i)<=_;rw[hg,aC];exact gQ _
 | spawn f hg hf hn =>
  show _+gn _ (ck w.v.g i (.fork w.v.nf) i)<=fA (λk=>dw (ck w.v.loc w.v.nf (.bW i) k)) w.v.nf+dw (ck w.v.loc w.v.nf (.bW i) w.v.nf);rw[hg,aC,aC,oQ (g:=λk=>dw (w.v.loc k)) (λj hj=>by show dw (ck w.v.loc w.v.nf (.bW i) j)=_;rw[aA I])];exact gQ _
 | push c f hg hf =>
  have z:=(h.ps i c hi hg).2.1;rw[hg];exact Dh (Ej h z (by simp)) rfl (by rw[z];exact gQ _)
 | wait f hg hf hk =>
  show _+gn _ (ck w.v.g i .none i)<=_;rw[hg,aC];exact Dh (hlt f hf) rfl (by rw[hh f hf];exact gQ _)
 | pass f hg hf hk =>
  show _+gn _ (ck w.v.g i .one i)<=_;rw[hg,aC];exact Dh (hlt f hf) rfl (by rw[hh f hf];exact gQ _)
 | one f hg hf=>rw[hg];exact Dh (hlt f hf) rfl (by rw[hh f hf];exact gQ _)
 | Ms v hg hf =>
  show _+gn _ (ck w.v.g i .none i)<=_;rw[hg,aC];exact Dh (hlt 0 hf) rfl (by rw[hh 0 hf];exact(by decide:0+8<=10))
 | ret f v hg hf h0 =>
  show _+gn _ (ck w.v.g i (.out (w.v.par f) f) i)<=_;rw[hg,aC];exact Dh (hlt f hf) rfl (by rw[hh f hf];exact gQ _)
 | PJ p c hg hn =>
  have z:=(h.out i p c hi hg).2.1;rw[hg];exact Dh (Ej h z (by simp)) rfl (by rw[z];exact gQ _)
 | Oi p c hg hn =>
  have z:=(h.out i p c hi hg).2.1;have zw:=(h.jt hi hg hn).1;have t1:=MJ (loc:=w.v.loc) (l:=.gone) (Ej h z (by simp));have t2:=MJ (loc:=ck w.v.loc c .gone) (l:=.qJ i) (Ej h zw (by simp));rw[z]at t1;rw[aA (h.jt hi hg hn).2.2,zw]at t2;rw[hg];show KD w.v+0<=fA (λk=>dw (ck (ck w.v.loc c .gone) p (.qJ i) k)) w.v.nf;unfold KD;simp only[dw]at t1 t2⊢;omega
 | take p c hg=>exact absurd hg (ht p c)
 | oq x l hg hq =>
  have z:=(h.q i x hi (by rw[hq];simp)).2;rw[hg];exact Dh (Ej h z (by simp)) rfl (by rw[z];exact gQ _)
 | SR x hg hq =>
  have z:=(h.q i x hi (by rw[hq];simp)).2;rw[hg];exact Dh (Ej h z (by simp)) rfl (by rw[z];exact gQ _)
 | got x hg hx =>
  have z:=(h.pop i x hi hx).2;rw[hg];exact Dh (Ej h z (by simp)) rfl (by rw[z];exact gQ _)
 | Js k x l hk KN hg hx =>
  have z:=(h.q k x hk (by rw[hx];simp)).2;rw[hg];exact Dh (Ej h z (by simp)) rfl (by rw[z];exact gQ _)
theorem Tr.dt(t:Tr C i w e w')(hi:i<C.N)(h:w.v.FI C.N C.F){p c:Nat}(hg:w.v.g i= .take p c):KD w.v<=KD w'.v+8:=by
 cases t
 case take p' c' Iz =>
  have e:p'=p:=by rw[hg]at Iz;cases Iz;rfl
  subst e;have z:=h.tk i p' c hi hg;have:=MJ (loc:=w.v.loc) (l:=.held i) (Ej h z (by simp));rw[z]at this;show KD w.v<=fA (λk=>dw (ck w.v.loc p' (.held i) k)) w.v.nf+8;unfold KD;simp only[dw]at this⊢;omega
 case gL he=>exact Nat.le_add_right _ _
 all_goals (exfalso;grind)
end
theorem AM:∀(n:Nat) (l:List Nat),l.Nodup->(∀x∈l,x<n)->l.length<=n
 | 0,l,_,h=>by
  cases l with
  | nil=>exact gQ _
  | cons a l=>have:=h a (by simp);omega
 | n+1,l,hn,h=>by
  have ih:=AM n (l.erase n) (hn.erase n) (λx hx=>by
   have e:=(hn.mem_erase_iff).1 hx;have:=h x e.2;have:=e.1;omega)
  by_cases e:n∈l
  ·rw[List.length_erase_of_mem e]at ih;omega
  ·rw[List.erase_of_not_mem e]at ih;omega
def Xb:Pc->Bool
 | .start _ | .run | .fork _ | .nB | .out .. | .take .. | .ya _ | .wG .. | .oF .. | .oG .. | .grow .. | .lY .. | .js .. | .iZ .. | .lD .. | .ja .. | .nC .. | .Cs
 | .Ae | .uL _ | .oh _ | .zi _ | .sD .. | .nD .. | .qH .. => true
 | .oP _ _ w=>w
 | _=>false
def PQ(p:Pc)(top:Int)(pop:Option Nat):Prop:=
 match p with
 | .oF _ _ t | .oG _ _ t | .qH _ t _=>t=top/\pop=none
 | .sD b t | .nD b t _=>t=top/\t<=b/\(t=b->pop=none)
 | .oP .. => True
 | _=>pop=none
def rm:Pc->Nat
 | .out .. => 10
 | .take .. => 9
 | .Ae=>8
 | .uL _=>7
 | .oh _=>6
 | .zi _=>5
 | .sD .. => 4
 | .nD .. => 3
 | .qH .. => 2
 | .oP .. => 1
 | _=>0
def RM(p p':Pc):Prop:=busy (sig p)=true/\(rm p'=0∨p= .run/\(sig p'= .none/\rm p'<=8∨∃a b,sig p'= .out a b/\rm p'<=10))∨
 busy (sig p)=false/\((∀a b,p≠.take a b)/\rm p'+1<=rm p∨(∃a b,p= .take a b)/\rm p'=0)
def QL(x:Ev):Prop:=x.kind≠3/\x.kind≠8/\x.kind≠9/\x.kind≠11/\(x.kind=6->x.az≠0)
def Nx(s:St)(o:Out):Prop:=∃p,o.s.pc 0=p/\Xb p=true/\PQ p (o.s.mem (.top 0)) (o.s.pop 0)/\(s.pop 0=none∨o.s.q=s.q)/\(∀x,o.ev=some x->QL x)/\RM (s.pc 0) p
def Fl(C:jv)(s:St)(o:Out):Prop:=o.s.pc 0= .full/\((∃f sl g c,s.hold 0=some f/\C.code (s.fr f).fn (s.fr f).J= .spawn sl g c/\C.F<=s.nf)∨(C.most:Int)<=s.L 0)
section
variable {C:jv}{s:St}{D0:Lh}{H agd g agb T:Nat}{d:Int}
theorem nx{o:Out}{X:Prop}(p:Pc)(h1:o.s.pc=ck s.pc 0 p)(h2:Xb p=true)(h3:PQ p (o.s.mem (.top 0)) (o.s.pop 0))(h4:s.pop 0=none∨o.s.q=s.q)(h5:∀x,o.ev=some x->QL x)(h6:RM (s.pc 0) p):Nx s o∨X:=
 .inl ⟨p,by rw[h1,aC],h2,h3,h4,h5,h6⟩
theorem JK{o:Out}{X:Prop}{p O:Pc}(hp:s.pc 0=O)(h1:o.s.pc=ck s.pc 0 p)(h3:PQ p (o.s.mem (.top 0)) (o.s.pop 0))(h4:s.pop 0=none∨o.s.q=s.q)(h2:Xb p=true:=by rfl)(h5:o.ev=none:=by rfl)(hb:busy (sig O)=true:=by rfl)(h0:rm p=0:=by rfl):Nx s o∨X:=
 nx p h1 h2 h3 h4 (λx hx=>by rw[h5]at hx;cases hx) (by rw[hp];exact .inl ⟨hb,.inl h0⟩)
theorem T0{o:Out}{X:Prop}{p O:Pc}(hp:s.pc 0=O)(h1:o.s.pc=ck s.pc 0 p)(h3:PQ p (o.s.mem (.top 0)) (o.s.pop 0))(h4:s.pop 0=none∨o.s.q=s.q)(ht:∀a b,O≠.take a b:=by intro a b e;cases e)(h0:rm p+1<=rm O:=by simp[rm])(h2:Xb p=true:=by rfl)(h5:o.ev=none:=by rfl)(hb:busy (sig O)=false:=by rfl):Nx s o∨X:=
 nx p h1 h2 h3 h4 (λx hx=>by rw[h5]at hx;cases hx) (by rw[hp];exact .inr ⟨hb,.inl ⟨ht,h0⟩⟩)
theorem ql{k:Nat}{f y v:Int}(h:k=1∨k=2∨k=4∨k=5∨k=7∨(k=6/\f≠0)){x:Ev}:ev k f y v=some x->QL x:=λe=>by
 cases e;refine⟨?_,?_,?_,?_,λh6 => ?_⟩
 all_goals (first | (show k≠_;omega) | (have h6:k=6:=h6;show f≠0;omega))
theorem Y0(h1:C.N=1)(hal:Xb (s.pc 0)=true)(tD:PQ (s.pc 0) (s.mem (.top 0)) (s.pop 0))(hf:(view s).FI C.N C.F)(hd:DT C s)
 (hnr:∀a,s.pc 0= .run->s.hold 0=some 0->C.code (s.fr 0).fn (s.fr 0).J≠.ret a)
 (hq:sig (s.pc 0)= .none->s.hold 0=none->s.pop 0=none->s.q 0≠[]):Nx s (aH C s 0 d)∨Fl C s (aH C s 0 d):=by
 have hi:0<C.N:=by omega
 have hD:=(hd.1 0 hi).ph;have aac:rest (sig (s.pc 0))=true->s.hold 0=none:=hf.hr 0 hi;unfold rJ at hD;cases hp:s.pc 0<;>rw[hp]at hal tD hD hq aac<;>unfold Am.aH<;>rw[hp]<;>simp only[PQ]at tD hD⊢<;> first | (cases hal;done) | skip
 case start x=>exact nx .run rfl rfl tD (.inl tD) (λx=>ql (.inl rfl)) (by rw[hp];exact .inl ⟨rfl,.inl rfl⟩)
 case fork c=>exact JK hp rfl tD (.inl tD)
 case nB=>exact nx .run rfl rfl tD (.inl tD) (λx=>ql (by simp)) (by rw[hp];exact .inl ⟨rfl,.inl rfl⟩)
 case out p c =>
  split
  ·exact T0 hp rfl tD (.inl tD)
  ·exact T0 hp rfl tD (.inl tD)
 case take p c=>exact nx .run rfl rfl tD (.inl tD) (λx=>ql (by simp)) (by rw[hp];exact .inr ⟨rfl,.inr ⟨⟨p,c,rfl⟩,rfl⟩⟩)
 case ya c=>exact JK hp rfl tD (.inl tD)
 case wG c b=>exact JK hp rfl ⟨rfl,tD⟩ (.inl tD)
 case oF c b t=>exact JK hp rfl tD (.inl tD.2)
 case oG c b t =>
  obtain⟨g1,g2,g3,g4,g5⟩:=hD;obtain⟨e1,e2⟩:=tD;split
  ·exact JK hp rfl e2 (.inl e2)
  ·next hb =>
   split
   ·next hm=>exact .inr ⟨show ck s.pc 0 .full 0= .full from aC _ _ _,.inr (by change s.mem (.top 0)+s.L 0=b at g2;omega)⟩
   ·exact JK hp rfl e2 (.inl e2)
 case grow c b t cc=>exact JK hp rfl tD (.inl tD)
 case lY c b t cc=>exact JK hp rfl tD (.inl tD)
 case js c b t cc n=>exact JK hp rfl tD (.inl tD)
 case iZ c b t cc n x =>
  by_cases e:n+1<b
  ·rw[bg e];exact JK hp rfl tD (.inl tD)
  ·rw[cQ e];exact JK hp rfl tD (.inl tD)
 case lD c b t cc=>exact JK hp rfl tD (.inl tD)
 case ja c b cc=>exact JK hp rfl tD (.inl tD)
 case nC c b=>exact nx .Cs rfl rfl tD (.inl tD) (λx=>ql (by simp)) (by rw[hp];exact .inl ⟨rfl,.inl rfl⟩)
 case Cs =>
  rw[cQ (λh=>I)];exact JK hp rfl tD (.inl tD)
 case Ae=>exact T0 hp rfl tD (.inl tD)
 case uL b=>exact T0 hp rfl tD (.inl tD)
 case oh b=>exact T0 hp rfl tD (.inl tD)
 case zi b =>
  obtain⟨g1,g2,g3⟩:=hD;change s.mem (.top 0)+s.L 0=b+1 at g2;have hl:1<=s.L 0:=by
   have:=List.length_pos_iff.2 (hq rfl (aac rfl) tD);show 1<=(((s.q 0).length:Nat):Int);omega
  split
  ·next hb=>exact T0 hp rfl ⟨rfl,I,λe=>I⟩ (.inl tD)
  ·next hb =>
   split
   ·next he=>exact T0 hp rfl ⟨rfl,I,λ_=>tD⟩ (.inl tD)
   ·next he=>exfalso;omega
 case sD b t=>exact T0 hp rfl tD (.inr rfl)
 case nD b t cc =>
  obtain⟨e1,e2,e3⟩:=tD;split
  ·exact T0 hp rfl (show ck s.pop 0 none 0=none from aC _ _ _) (.inr rfl)
  ·next hb=>exact T0 hp rfl ⟨e1,e3 I⟩ (.inr rfl)
 case qH b t x =>
  rw[bg tD.1.symm];exact T0 hp rfl trivial (.inl tD.2)
 case oP t x Bi =>
  have hw:Bi=true:=hal;subst hw;rw[bg rfl];exact T0 hp rfl (show ck s.pop 0 none 0=none from aC _ _ _) (.inr rfl)
 case run =>
  have hr:s.pc=ck s.pc 0 .run:=by rw[<-hp,Aj]
  obtain⟨f,hh⟩:=ry hf hi (by rw[hp];rfl);unfold instr;simp only[hh,pG];split
  ·exact JK hp hr tD (.inl tD)
  ·exact JK hp hr tD (.inl tD)
  ·exact JK hp hr tD (.inl tD)
  ·exact JK hp hr tD (.inl tD)
  ·exact JK hp hr tD (.inl tD)
  ·exact JK hp hr tD (.inl tD)
  ·exact JK hp hr tD (.inl tD)
  ·rename_i sl g c hc;have hx:s.mem .next=s.nf∨(s.nf=C.F/\(C.F:Int)<=s.mem .next):=hf.nx;split
   ·exact .inr ⟨show ck s.pc 0 .full 0= .full from aC _ _ _,.inl ⟨f,sl,g,c,hh,hc,I⟩⟩
   exact JK hp rfl tD (.inl tD)
  ·split
   ·exact nx .Ae rfl rfl tD (.inl tD) (λx=>ql (by simp)) (by rw[hp];exact .inl ⟨rfl,.inr ⟨rfl,.inl ⟨rfl,by simp[rm]⟩⟩⟩)
   ·exact JK hp rfl tD (.inl tD)
  ·rename_i a hc;have hf0:f≠0:=by
    intro e;subst e;exact hnr a hp hh hc
   rw[cQ hf0];exact nx (.out _ _) rfl rfl tD (.inl tD) (λx=>ql (by right;right;right;right;right;exact⟨rfl,I⟩)) (by rw[hp];exact .inl ⟨rfl,.inr ⟨rfl,.inr ⟨_,_,rfl,by simp[rm]⟩⟩⟩)
theorem aad(h1:C.N=1)(hl:live (s.loc 0)=true)(hal:Xb (s.pc 0)=true)(tD:PQ (s.pc 0) (s.mem (.top 0)) (s.pop 0))(l:LV C.N (view s))(hf:(view s).FI C.N C.F)(hd:DT C s)
 (hnr:∀a,s.pc 0= .run->s.hold 0=some 0->C.code (s.fr 0).fn (s.fr 0).J≠.ret a) :
 (live ((aH C s 0 d).s.loc 0)=true/\Xb ((aH C s 0 d).s.pc 0)=true/\PQ ((aH C s 0 d).s.pc 0) ((aH C s 0 d).s.mem (.top 0)) ((aH C s 0 d).s.pop 0)/\LV C.N (view (aH C s 0 d).s)/\(∀x,(aH C s 0 d).ev=some x->QL x)/\RM (s.pc 0) ((aH C s 0 d).s.pc 0))∨Fl C s (aH C s 0 d):=by
 have hi:0<C.N:=by omega
 have tr:=Dt hf hd hi d;rcases Y0 (d:=d) h1 hal tD hf hd hnr (λe1 e2 e3=>by
  have hf2:=hf;have l2:=l;rw[h1]at hf2 l2;exact l2.ne hf2 e2 e3 e1 hl)with ⟨p,n1,n2,n3,n4,n5,n6⟩ | e
 ·refine .inl ⟨?_,by rw[n1];exact n2,by rw[n1];exact n3,LV.aH tr hi hf (λx hx=>(n5 x hx).2.2.2.1) n4 l,n5,by rw[n1];exact n6⟩;rcases tr.root hi hf hl with r | ⟨v',e',_⟩
  ·exact r
  ·exact absurd rfl ((n5 _ e').2.2.2.2 rfl)
 ·exact .inr e
def LU(C:jv)(s:St):Prop:=(live (s.loc 0)=true/\Xb (s.pc 0)=true/\PQ (s.pc 0) (s.mem (.top 0)) (s.pop 0)/\LV C.N (view s))∨s.pc 0= .full∨s.pc 0= .done∨s.pc 0= .halted
theorem OL(h1:C.N=1)(hp:s.pc 0= .done):aH C s 0 d=⟨(s.wr .HG 1).to 0 .halted,ev 10 0 0 0,tL .HG 1⟩:=by
 unfold aH;rw[hp];simp only;unfold n8;rw[bg (by unfold Kp;rw[h1])]
theorem Y1(h1:C.N=1)(u:LU C s)(hf:(view s).FI C.N C.F)(hd:DT C s):LU C (aH C s 0 d).s:=by
 rcases u with ⟨u1,u2,u3,u4⟩ | u | u | u
 ·by_cases hend :∃x,s.pc 0= .run/\s.hold 0=some 0/\C.code (s.fr 0).fn (s.fr 0).J= .ret x
  ·obtain⟨x,Y,p2,p3⟩:=hend;exact .inr (.inr (.inl (by rw[(OJ (d:=d) Y p2 p3).2.2.1,aC])))
  ·rcases aad (d:=d) h1 u1 u2 u3 u4 hf hd (λx Y p2 p3=>hend ⟨x,Y,p2,p3⟩)with ⟨a,b,c,e,_⟩ | e
   ·exact .inl ⟨a,b,c,e⟩
   ·exact .inr (.inl e.1)
 ·exact .inr (.inl (by unfold aH;rw[u];exact u))
 ·exact .inr (.inr (.inr (by rw[OL h1 u];exact(aC s.pc 0 .halted))))
 ·exact .inr (.inr (.inr (by unfold aH;rw[u];exact u)))
theorem Dn.le2{D:Lh}{v:Int}(h:Dn C D (v,agb,T)){y:TS}{n t sl f c:Nat}(p:Pre C D.fn D.mN D.dp (Xa D.a0) y n t)(e:C.code D.fn y.J= .spawn sl f c):t+2<=T:=by
 obtain⟨z,a,N,T',q1,q2,e'⟩:=h;injection e' with e1 e2
 injection e2 with e2 e3
 obtain⟨M,U,r,r1,r2⟩:=p.cmp q1 q2;rcases r.first with ⟨j1,j2,j3⟩ | ⟨y2,n2,j1,j2,j3⟩ | ⟨s2,f2,c2,y2,n2,t2,a2,n3,t3,j1,j2,j3,j4,j5,j6,j7⟩
 ·subst j1;rw[q2]at e;cases e
 ·rw[Dy e]at j1;cases j1
 ·omega
theorem WG{i f sl g0 c0:Nat}(j:CJ C D0 s H agd g)(hr:FR C s)(hf:(view s).FI C.N C.F)(hi:i<C.N)(hh:s.hold i=some f)(hc:C.code (s.fr f).fn (s.fr f).J= .spawn sl g0 c0)(hn:WD C s)(hv:live (s.loc 0)=true){v:Int}(hD:Dn C D0 (v,agb,T)):s.nf+1<=T:=by
 obtain⟨φ,σ,γ,pu,sl',h,ws,ci,li,mk⟩:=j;obtain⟨hl,hfn⟩:=ou hf hi hh;have h1:0<s.nf:=hf.Ao;have ch:∀k,∃r,k<s.nf->live (s.loc k)=true->Dn C (γ.ds k) r:=λk=>by
  by_cases e:k<s.nf/\live (s.loc k)=true
  ·obtain⟨r,hr⟩:=ws.e k e.1 e.2;exact⟨r,λ_ _=>hr⟩
  ·exact⟨(0,0,0),λa b=>absurd ⟨a,b⟩ e⟩
 obtain⟨R,hR⟩:=Classical.axiomOfChoice ch;have h0:R 0=(v,agb,T):=by
  have:=hR 0 h1 hv;rw[h.d0]at this;exact Dn.one this hD
 have one:∀k,k<s.nf->live (s.loc k)=true->(γ.tk k+if k=f then 1 else 0)+fA (λx=>CK (λc=>(R c).2.2) (γ.pn k x)) 8+1<=(R k).2.2:=λk hk hlk=>by
  have a:=h.A k hk hlk (λj hj e=>absurd e (hn j hj)) R (λx c e=>by
   obtain⟨c1,c2,c3,c4,c5⟩:=h.pn k x c e;exact hR c c2 c5)
  have dd:=hR k hk hlk;have e2:fA (tn (γ.pn k) R) 8=fA (λx=>CK (λc=>(R c).2.2) (γ.pn k x)) 8:=oQ (λx _=>by unfold tn CK;cases γ.pn k x<;>rfl);rw[<-e2];by_cases e:k=f
  ·subst e;rw[bg rfl];have:=Dn.le2 (v:=(R k).1) (agb:=(R k).2.1) (T:=(R k).2.2) dd a (by rw[(h.D k hk).1];exact hc);omega
  ·rw[cQ e];have:=(Dn.le (v:=(R k).1) (agb:=(R k).2.1) (T:=(R k).2.2) dd a).2;omega
 have b:=OI h ws hr hf.pr h1 hv (λk=>γ.tk k+if k=f then 1 else 0) (λc=>(R c).2.2) (λk hk k0 hdk=>by
  show(γ.tk k+if k=f then 1 else 0)=0;rw[(ws.z k hk k0 hdk).2,cQ (λe=>by subst e;rw[hl]at hdk;cases hdk)]) one
 have c:=nJ (f:=γ.tk) (g:=λk=>γ.tk k+if k=f then 1 else 0) (i:=f) (k:=1) (n:=s.nf) hfn (λj hj=>by show(γ.tk j+if j=f then 1 else 0)=_;rw[cQ hj];rfl) (by show(γ.tk f+if f=f then 1 else 0)=_;rw[bg rfl]);rw[h0]at b;have lv0:lv s 0=1:=by unfold lv;rw[bg hv]
 have e:=ws.t;simp only at b;omega
structure LA(C:jv)(D0:Lh)(s:St)(H agd g:Nat):Prop where
 lv:live (s.loc 0)=true
 al:Xb (s.pc 0)=true
 pp:PQ (s.pc 0) (s.mem (.top 0)) (s.pop 0)
 l:LV C.N (view s)
 cj:CJ C D0 s H agd g
 gh:g+rm (s.pc 0)<=H+KD (view s)
theorem LA.xQ(h1:C.N=1)(a:LA C D0 s H agd g):WD C s:=λj hj e=>by
 have:j=0:=by omega
 subst this;have:=a.al;rw[e]at this;cases this
theorem LA.le(h1:C.N=1)(a:LA C D0 s H agd g)(hr:FR C s)(hf:(view s).FI C.N C.F)(hd:DT C s)(hz:SZ C s){v:Int}(hD:Dn C D0 (v,agb,T)):g+2<=2*agb+27*T/\s.nf<=T:=by
 obtain⟨c1,c2,c3⟩:=adt a.cj hr hf hd hz (a.xQ h1) a.lv hD;have e:KD (view s)<=s.nf*10:=H7 (λj _=>by show dw (s.loc j)<=10;cases s.loc j<;>simp[dw]);have:=a.gh;rw[h1]at c1;exact⟨I,c3⟩
theorem Y2(hC:C.OK)(h1:C.N=1)(a:LA C D0 s H agd g)(hr:FR C s)(hf:(view s).FI C.N C.F)(hd:DT C s)(hz:SZ C s){v:Int}(hD:Dn C D0 (v,agb,T))(hF:T<=C.F)(hM:T<=C.most) :
 (∃H' I',LA C D0 (aH C s 0 d).s H' I' (g+1)/\∀x,(aH C s 0 d).ev=some x->QL x)∨(aH C s 0 d).s.pc 0= .done/\(aH C s 0 d).ev=ev 6 0 (-1) v:=by
 have hi:0<C.N:=by omega
 have JA:=a.xQ h1;obtain⟨b1,b2⟩:=a.le h1 hr hf hd hz hD;have tr:=Dt hf hd hi d;by_cases hend :∃x,s.pc 0= .run/\s.hold 0=some 0/\C.code (s.fr 0).fn (s.fr 0).J= .ret x
 ·obtain⟨x,Y,p2,p3⟩:=hend;obtain⟨r1,r2,r3,r4⟩:=abv a.cj hr hf hd hi Y p2 p3 JA hD;obtain⟨q1,q2,q3,q4,q5⟩:=OJ (d:=d) Y p2 p3;exact .inr ⟨by rw[q3,aC],by rw[q5,r3]⟩
 ·left
  rcases aad (d:=d) h1 a.lv a.al a.pp a.l hf hd (λx Y p2 p3=>hend ⟨x,Y,p2,p3⟩)with ⟨hl',n2,n3,lv',n5,n6⟩ | ⟨_,⟨f,sl,g0,c0,p2,p3,p4⟩ | hcap⟩
  rotate_left
  ·exfalso;have:=WG a.cj hr hf hi p2 p3 JA a.lv hD;omega
  ·exfalso
   have:=AM s.nf (0::s.q 0) (List.nodup_cons.2 ⟨λh=>(hf.q 0 0 hi h).1 rfl,hf.qn 0 hi⟩) (λx hx=>by
    rcases List.mem_cons.1 hx with rfl | hx
    ·exact hf.Ao
    ·exact Ej hf (hf.q 0 x hi hx).2 (by simp))
   rw[Bm]at this;change (C.most:Int)<=(((s.q 0).length:Nat):Int)at hcap;omega
  have cs:=(YX hC a.cj hr hf hd hz hi d (JA 0 hi) (by intro e;rw[e]at n2;cases n2)).1;refine⟨_,_,⟨hl',n2,n3,lv',cs,?_⟩,n5⟩;generalize hp':(aH C s 0 d).s.pc 0=p at n6⊢;have n1:=hp';have gh:=a.gh;have g0:(wv s).v.g 0=sig (s.pc 0):=rfl;have g1:(wv (aH C s 0 d).s).v.g 0=sig p:=by show sig ((aH C s 0 d).s.pc 0)=_;rw[n1]
  have dn1:=λh:(∀a b,s.pc 0≠.take a b)=>tr.dn hi hf (λx y e=>by
   rw[g0]at e;cases e':s.pc 0<;>rw[e']at e<;>first | (cases e;done) | (exact h _ _ e'))
  rw[g0,g1]at dn1;show g+1+rm p<=_+KD (wv (aH C s 0 d).s).v;have gh:g+rm (s.pc 0)<=H+KD (wv s).v:=gh;rcases n6 with ⟨m1,m2⟩ | ⟨m1,m2⟩
  ·rw[bg m1];have k:=dn1 (λx y e=>by rw[e]at m1;cases m1);rcases m2 with m2 | ⟨m2,⟨m3,m4⟩ | ⟨x,y,m3,m4⟩⟩
   ·omega
   ·rw[m2,m3]at k;have k:KD (wv s).v+8<=KD (wv (aH C s 0 d).s).v:=k;rw[m2]at gh;have gh:g+0<=H+KD (wv s).v:=gh;omega
   ·rw[m2,m3]at k;have k:KD (wv s).v+10<=KD (wv (aH C s 0 d).s).v:=k;rw[m2]at gh;have gh:g+0<=H+KD (wv s).v:=gh;omega
  ·rw[gl m1];rcases m2 with ⟨m2,m3⟩ | ⟨⟨x,y,m2⟩,m3⟩
   ·have k:=dn1 m2;omega
   ·have:=tr.dt hi hf (p:=x) (c:=y) (by rw[g0,m2];rfl);rw[m2]at gh;simp only[rm]at gh;omega
end
end Am
end
section
namespace Mo
open Go SL GX
section
variable {K:Nat}{C:Am.jv}
def QE(e:ak):Prop:=e.aG≠3/\e.aG≠8/\e.aG≠9/\e.aG≠11/\(e.aG=6->e.Frame≠0)
def clean(l:List ak):Prop:=∀e∈l,QE e
def abx(v:Int)(l:List ak):Prop:=∃l0 e,l=l0++[e]/\clean l0/\e.aG=6/\e.Frame=0/\e.V=v
def aae(v:Int)(l:List ak):Prop:=∃l0 e,l=l0++[e]/\abx v l0/\e.aG=10
def LJ(D0:Am.Lh)(C:Am.jv)(v:Int)(agb T:Nat)(s:Am.St)(l:List ak)(g:Nat):Prop:=
 (∃H agd,Am.LA C D0 s H agd g/\clean l/\g+2<=2*agb+27*T)∨(s.pc 0= .done/\abx v l/\g+1<=2*agb+27*T)∨(s.pc 0= .halted/\aae v l)
def LW(args:List Int)(C:Am.jv)(s:Am.St)(l:List ak)(g:Nat):Prop:=
 C.N=1->∀(v:Int) (agb T:Nat),Am.Dn C (Ei args) (v,agb,T)->T<=C.F->T<=C.most->LJ (Ei args) C v agb T s l g
theorem RV{p:aE}{N F f m:Nat}{args:List Int}(hC:(cfg p N F f m).OK):Am.LV N (Am.view (init (cfg p N F f m) args)):=by
 refine⟨?_,?_,?_,?_,?_,?_,?_⟩
 ·intro k j h;have h:(if k=0 then Am.Loc.held 0 else .free)= .bW j:=h;split at h<;>cases h
 ·intro k j h;have h:(if k=0 then Am.Loc.held 0 else .free)= .Of j:=h;split at h<;>cases h
 ·intro k j h;have h:(if k=0 then Am.Loc.held 0 else .free)= .pop j:=h;split at h<;>cases h
 ·intro k j h;have h:(if k=0 then Am.Loc.held 0 else .free)= .held j∨(if k=0 then Am.Loc.held 0 else .free)= .uy j:=h;split at h
  ·next e=>subst e;rcases h with h | h<;>cases h;exact⟨hC.n1,rfl⟩
  ·rcases h with h | h<;>cases h
 ·intro k j h;have h:(if k=0 then Am.Loc.held 0 else .free)= .qJ j:=h;split at h<;>cases h
 ·intro k j h;have h:(if k=0 then Am.Loc.held 0 else .free)= .fin j:=h;split at h<;>cases h
 ·intro k h0 hk;have hk:k<1:=hk;omega
theorem Y3{p:aE}{N F f m:Nat}{args:List Int}(hv:Valid p)(hC:(cfg p N F f m).OK):LW args (cfg p N F f m) (init (cfg p N F f m) args) [] 0:=by
 intro h1 v agb T hD hF hM;have a:Am.LA (cfg p N F f m) (Ei args) (init (cfg p N F f m) args) 0 0 0:=by
  exact⟨rfl,rfl,rfl,RV hC,YY hv hC.n1 hD,w7 _⟩
 exact .inl ⟨0,0,a,(λe he=>by cases he),(a.le h1 (Ry hC) (Rx hC) (Rw hC) (Rv hC) hD).1⟩
theorem Y4{args:List Int}{p:aE}{s:Am.St}{S:ag}{M:af}{sz g i:Nat}{l:List ak}{d:Int}(b:xx C p s S M sz g)(b':Am.SZ C (Am.aH C s i d).s/\Am.DT C (Am.aH C s i d).s/\(Am.view (Am.aH C s i d).s).FI C.N C.F/\Am.FR C (Am.aH C s i d).s)(j:LW args C s l g)(hi:i<C.N):LW args C (Am.aH C s i d).s (JG g i l (Am.aH C s i d).ev) (g+1):=by
 intro h1 v agb T hD hF hM;have i0:i=0:=by omega
 subst i0;rcases j h1 v agb T hD hF hM with ⟨H,agd,a,cl,gb⟩ | ⟨pc,fl,gb⟩ | ⟨pc,hl⟩
 ·rcases Am.Y2 (d:=d) b.ok h1 a b.fr b.fi b.dt b.z hD hF hM with ⟨H',I',a',q⟩ | ⟨q1,q2⟩
  ·refine .inl ⟨H',I',a',λe he => ?_,(a'.le h1 b'.2.2.2 b'.2.2.1 b'.2.1 b'.1 hD).1⟩;rcases Lf he with he | ⟨x,hx,rfl⟩
   ·exact cl e he
   ·obtain⟨k1,k2,k3,k4,k5⟩:=q x hx;exact⟨by show(x.kind:Int)≠3;omega,by show(x.kind:Int)≠8;omega,by show(x.kind:Int)≠9;omega,by show(x.kind:Int)≠11;omega,λh6=>k5 (by have h6:(x.kind:Int)=6:=h6;omega)⟩
  ·refine .inr (.inl ⟨q1,?_,I⟩);rw[q2];exact⟨l,_,rfl,cl,rfl,rfl,rfl⟩
 ·refine .inr (.inr ?_);have e:Am.aH C s 0 d=⟨(s.wr .HG 1).to 0 .halted,Am.ev 10 0 0 0,Am.tL .HG 1⟩:=Am.OL h1 pc;rw[e];exact⟨show Am.ck s.pc 0 .halted 0= .halted from Am.aC _ _ _,l,_,rfl,fl,rfl⟩
 ·refine .inr (.inr ?_);have e:Am.aH C s 0 d=⟨s,none,none⟩:=by unfold Am.aH;rw[pc]
  rw[e];exact⟨pc,hl⟩
theorem Y5{q:Am.Pc}(h:Am.Xb q=true):alx q=true:=by cases q<;>first | rfl | cases h
theorem aby{s:Am.St}(u:Am.LU C s):alx (s.pc 0)=true:=by
 rcases u with u | u | u | u
 ·exact Y5 u.2.1
 all_goals (rw[u];rfl)
def lf(v:Int)(b:Bool)(e:ak):Bool:=if e.aG=6/\e.Frame=0 then e.V==v else b
theorem OM{v:Int}:∀{l:List ak} {b:Bool},clean l->l.foldl (lf v) b=b
 | [],_,_=>rfl
 | e::l,b,h=>by
  have he:=h e (List.mem_cons.2 (.inl rfl));rw[List.foldl_cons,show lf v b e=b from by unfold lf;rw[cQ (λx=>he.2.2.2.2 x.1 x.2)]];exact OM (λx hx=>h x (List.mem_cons.2 (.inr hx)))
theorem WH{r:List ak}{x:pM}(hb:r.length<=1048576):∀(e k g:Nat) (b:Bool),g+e=r.length->e<k->(∀y∈r.drop g,y.aG≠3/\y.aG≠8/\y.aG≠9/\y.aG≠11)->fL K r x k b (g:Int)=some (.inl ((r.drop g).foldl (lf x.V) b))
 | e,k,g,b,he,hk,h=>by
  obtain⟨k,rfl⟩ :∃m,k=m+1:=⟨k-1,I⟩;rw[fL];by_cases hg:g<r.length
  ·obtain⟨e,rfl⟩ :∃m,e=m+1:=⟨e-1,I⟩;rw[zF hg]at h⊢;have ih:=λb=>WH (x:=x) hb e k (g+1) b I I (λy hy=>h y (List.mem_cons.2 (.inr hy)));obtain⟨k1,k2,k3,k4⟩:=h _ (List.mem_cons.2 (.inl rfl));rw[rD,bg ⟨I,I⟩,di,cQ k2,cQ k3,cQ k1,ax,cQ (by simp;omega),Cl I,List.foldl_cons];unfold lf;by_cases h6:(GX.J r g).aG=6
   ·rw[bg h6];by_cases h0:(GX.J r g).Frame=0
    ·rw[bg h0,bg ⟨h6,h0⟩];exact ih _
    ·rw[cQ h0,cQ (λx=>h0 x.2)];exact ih _
   ·rw[cQ h6,cQ (λx=>h6 x.1)];exact ih _
  ·rw[ez,zn I];rfl
theorem WI{c:bU}{r:List ak}{b:Bool}(e:lE K c=some (r,true,b)):iH K c=some 0:=by
 unfold lE at e;cases h1:oI K c with
 | none=>rw[h1]at e;cases e
 | some t =>
  rw[h1,ax]at e;cases h2:sU K (⟨t.bP⟩:aE) t.oA t.cO (⟨t.de,t.eU,t.eP⟩:dZ) (⟨t.cP,t.eX⟩:mc)with
  | none=>rw[h2]at e;cases e
  | some q =>
   obtain⟨q1,q2,q3⟩:=q;rw[h2,dA]at e;cases h3:iH K c with
   | none=>rw[h3]at e;cases e
   | some z =>
    rw[h3,ax]at e;split at e
    ·split at e
     ·next a b=>rw[<-a,b]
     ·cases e
    ·cases e
theorem TD{c:bU}(e:iH K c=some 0) :∃x,jc K (⟨c.bP⟩:aE)=some x/\x.xd=0:=by
 unfold iH at e;cases h1:oy (⟨c.cP,c.eX⟩:mc)with
 | none=>rw[h1]at e;cases e
 | some t =>
  rw[h1,ax]at e;split at e
  ·cases e
  ·cases h2:jo K (⟨c.bP⟩:aE) c.oA c.cO (⟨c.de,c.eU,c.eP⟩:dZ)with
   | none=>rw[h2]at e;cases e
   | some z=>rw[h2,ax]at e;exact Qi (h2.trans e)
theorem Y6{l:List ak}(h:clean l):∀y∈l,y.aG≠3/\y.aG≠8/\y.aG≠9/\y.aG≠11:=λy hy=>⟨(h y hy).1,(h y hy).2.1,(h y hy).2.2.1,(h y hy).2.2.2.1⟩
theorem aaf{v:Int}{l:List ak}(h:abx v l):∀y∈l,y.aG≠3/\y.aG≠8/\y.aG≠9/\y.aG≠11:=by
 obtain⟨l0,e,rfl,h1,h2,h3,h4⟩:=h;intro y hy;rcases List.mem_append.1 hy with hy | hy
 ·exact Y6 h1 y hy
 ·rw[List.mem_singleton.1 hy];omega
theorem TE{c:bU}(h:Small c)(JP:Zr ⟨c.bP⟩)(abw:∀x∈c.oA,J3 x)(hK:4200000<K):mF K c=some true:=by
 unfold mF;rcases Wi (K:=K) (c:={c with cO:=1}) ⟨h.f,h.k,h.a,h.p,h.d⟩ I (af9:=λC s l g=>(C.N=1->Am.LU C s)/\LW c.oA C s l g) (Q:=λq=>alx q=true) (λN F f m hv hC=>⟨λh1=>.inl ⟨rfl,rfl,rfl,RV hC⟩,Y3 hv hC⟩)
  (λC s l g hN j i hi=>by
   have hN:(C.N:Int)=1:=hN;have i0:i=0:=by omega
   subst i0;exact aby (j.1 I))
  (λC p s S M D sz n i b hi hx=>Tj b hi I hx)
  (λC p s S M sz l g i d b j hi=>⟨λh1=>by
   have i0:i=0:=by omega
   subst i0;exact Am.Y1 h1 (j.1 h1) b.fi b.dt,Y4 b ⟨b.z.aH b.ok b.dt hi d,b.dt.aH hi d,Am.FI.aH b.fi b.dt hi d,b.fr.aH b.ok b.fi b.dt hi d⟩ j.2 hi⟩)with ⟨r,e⟩ | ⟨r,C,s,g,e,j,hr,hF,h1,h4,hgp,hv,ha,hCO,⟨N,F,f,m,hC,hN⟩,hend,hM⟩
 ·rw[e,dA,bg rfl,cQ gB,Br]
 ·have hF:c.de=C.F:=hF;have hM:c.eP=C.most:=hM;have ZN:C.N=1:=by
   have hN:(1:Int)=N:=hN;rw[hC];show N=1;omega
  rw[e,dA,bg rfl,bg rfl,gz];obtain⟨x,er,y1,y2⟩:=WE (K:=K) (p:=⟨c.bP⟩) (N:=N) (F:=F) (f:=f) (m:=m) (args:=c.oA) hv JP abw hK (TD (c:={c with cO:=1}) (WI (c:={c with cO:=1}) e)) ha;rw[y1,fQ];by_cases h0:er=0
  ·obtain⟨v,agb,T,hD,z1,z2,z3,z4,z5⟩:=y2 h0;rw[bg h0,z2,z3];by_cases c1:(T:Int)>c.de
   ·rw[bg c1,Br]
   rw[cQ c1];by_cases c2:(T:Int)>c.eP
   ·rw[bg c2,Br]
   rw[cQ c2,fh (x:=2*(agb:Int)) I,fh (x:=40*(T:Int)) I,fh (x:=2*(agb:Int)+40*(T:Int)) I,fh (x:=2*(agb:Int)+40*(T:Int)+40) I];by_cases c3:((c.cP.length:Nat):Int)<2*(agb:Int)+40*(T:Int)+40
   ·rw[bg c3,Br]
   rw[cQ c3,gz];rw[<-hC]at hD;have hend:g=c.cP.length∨YN C s r:=hend;have key:aae v r:=by
    rcases j.2 ZN v agb T hD I I with ⟨H,agd,a,cl,gb⟩ | ⟨pc,fl,gb⟩ | ⟨pc,hl⟩
    ·exfalso
     rcases hend with q | ⟨l0,y,rfl,q⟩
     ·omega
     ·rcases q with q | ⟨_,q⟩
      ·exact(cl y (List.mem_append.2 (.inr (List.mem_singleton.2 rfl)))).2.2.2.1 q
      ·have:=a.al;rw[q 0 I]at this;cases this
    ·exfalso
     rcases hend with q | ⟨l0,y,rfl,q⟩
     ·omega
     ·rcases q with q | ⟨_,q⟩
      ·exact(aaf fl y (List.mem_append.2 (.inr (List.mem_singleton.2 rfl)))).2.2.2 q
      ·rw[q 0 I]at pc;cases pc
    ·exact hl
   obtain⟨l1,e2,k1,k2,k3⟩:=key;have k2':=k2;obtain⟨l0,e1,m1,m2,m3,m4,m5⟩:=k2';have hl:=WH (K:=K) (r:=r) (x:=x) hr r.length K 0 false I I (by
    rw[nS,k1];intro y hy;rcases List.mem_append.1 hy with hy | hy
    ·exact aaf k2 y hy
    ·rw[List.mem_singleton.1 hy];omega)
   have U5:(r.drop 0).foldl (lf x.V) false=true:=by
    rw[nS,k1,m1,List.foldl_append,List.foldl_append,OM m2];show lf x.V (lf x.V false e1) e2=true;unfold lf;rw[cQ (λq=>I),bg ⟨m3,m4⟩,m5,z1];simp
   rw[U5,qz]at hl;have hlen:r.length=l1.length+1:=by rw[k1,jM];rfl
   rw[hl,Qs,bg rfl,fh I,bg ⟨I,I⟩];have:(((r.length:Nat):Int)-1).toNat=l1.length:=by omega
   rw[this];have e3:GX.J r l1.length=e2:=by
    rw[k1];unfold GX.J;rw[List.getD_eq_getElem?_getD,List.getElem?_append_right (gQ _),Io];rfl
   rw[e3,k3];rfl
  ·rw[cQ h0,Br]
end
end Mo
end
end Go.Proofs.YtaiffafelihaaaaGreatDoor
