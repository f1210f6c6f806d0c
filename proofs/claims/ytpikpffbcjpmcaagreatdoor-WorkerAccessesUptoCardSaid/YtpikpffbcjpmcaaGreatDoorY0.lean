/- plunderlaw11.WorkerAccesses answers true for every input of the bulk that the statement names and leaves its input alone; the last part states it. Conditions: none. -/
import Derived.Below
import Derived.OwnWalk
import Derived.Deep.Draws
import Derived.Laws.AppendOwn
import Derived.Laws.OwnMore
import Derived.Laws.MakeOwn
import Derived.Laws.CopyRow
import Derived.StillTail
import Derived.Deep.Quiet
import Derived.KernelRfl
import Derived.IntWalk
import Derived.Laws.StructEq
import Derived.Test.YtpikpffbcjpmcaaGreatDoorProg
import Derived.Carry
import Derived.ChangeSlices
import Derived.ChangeOld
import Derived.Deep.Fields
import Derived.Deep.Slices
import Derived.DataReads
import Derived.OpenShut
import Derived.Test.YtpikpffbcjpmcaaGreatDoorRows
import Derived.FnData
import Derived.Scope
import Derived.Laws.IdiomRangeMap
import Derived.Defers
import Derived.Laws.LoneSync
import Derived.Conc.MuLone
import Derived.Recover
import Derived.ArgAppend
import Derived.ChangeKeysEq
import Derived.Test.YtpikpffbcjpmcaaGreatDoorCards
import Derived.Test.YtpikpffbcjpmcaaGreatDoorTie
import Derived.WalkKit
import Derived.ProofKit
import Derived.SizedLaws
import Derived.JoinedCond
import Derived.Deep.DeepHandedRow
import Derived.Lib.LaidTab
import Derived.LaidMore
import Derived.SevenTiedAt
set_option linter.unusedVariables false
set_option linter.unusedSimpArgs false
set_option linter.unusedSectionVars false
namespace Go.Proofs.YtpikpffbcjpmcaaGreatDoor
theorem fh{c:Prop}{h:Decidable c}(hn:¬c){α:Sort _}{t e:α}:ite c t e=e:=if_neg hn
theorem fQ{c:Prop}{h:Decidable c}(hn:c){α:Sort _}{t e:α}:ite c t e=t:=if_pos hn
theorem gE:True:=trivial
section
namespace SL
open Go Go.RowKit
abbrev Hp:=Nat→Option Obj
abbrev bE:=Hp→Prop
def Hp.none:Hp:=λ_=>Option.none
def Hp.add(a b:Hp):Hp:=λk=>match a k with | some o=>some o | Option.none=>b k
def Hp.AV(a b:Hp):Prop:=∀k,a k=Option.none∨b k=Option.none
def Hf:bE:=λh=>h=Hp.none
def sep(P Q:bE):bE:=λh =>∃a b,a.AV b∧h=a.add b∧P a∧Q b
def pts(b:Nat)(o:Obj):bE:=λh=>h=λk=>if k=b then some o else Option.none
def LP(p:Prop):bE:=λh=>p∧h=Hp.none
def exs{α:Type}(P:α→bE):bE:=λh =>∃x,P x h
def an:List bE→bE
 | []=>Hf
 | P::L=>sep P (an L)
theorem Hp.qZ{a b:Hp}(h:a.AV b):b.AV a:=λk=>(h k).symm
theorem Hp.add_comm{a b:Hp}(h:a.AV b):a.add b=b.add a:=by
 funext k
 unfold Hp.add
 rcases h k with h | h<;>rw[h]<;>cases a k<;>cases b k<;>simp_all
theorem Hp.add_assoc(a b c:Hp):(a.add b).add c=a.add (b.add c):=by
 funext k;unfold Hp.add;cases a k<;>rfl
theorem Hp.wj{a b c:Hp}(h1:a.AV b)(h2:a.AV c):a.AV (b.add c):=λk=>by
 rcases h1 k with h | h
 ·exact .inl h
 ·rcases h2 k with h' | h'
  ·exact .inl h'
  ·exact .inr (by unfold Hp.add;rw[h,h'])
theorem Hp.AM{a b c:Hp}(h:a.AV (b.add c)):a.AV b∧a.AV c:=by
 constructor
 ·intro k
  rcases h k with h | h
  ·exact .inl h
  ·refine .inr ?_
   unfold Hp.add at h
   cases hb:b k with
   | none=>rfl
   | some o=>rw[hb]at h;exact absurd h (by simp)
 ·intro k
  rcases h k with h | h
  ·exact .inl h
  ·refine .inr ?_
   unfold Hp.add at h
   cases hb:b k with
   | none=>rw[hb]at h;exact h
   | some o=>rw[hb]at h;exact absurd h (by simp)
theorem Hp.Fz(a:Hp):a.add Hp.none=a:=by funext k;unfold Hp.add Hp.none;cases a k<;>rfl
theorem Hp.FA(a:Hp):Hp.none.add a=a:=rfl
theorem Hp.J8(a:Hp):a.AV Hp.none:=λ_=>.inr rfl
theorem Hp.DJ(a:Hp):Hp.none.AV a:=λ_=>.inl rfl
theorem FB(P Q:bE):sep P Q=sep Q P:=by
 funext h
 apply propext
 constructor <;>
 ·rintro ⟨a,b,hd,rfl,hp,hq⟩
  exact⟨b,a,Hp.qZ hd,Hp.add_comm hd,hq,hp⟩
theorem zU(P Q R:bE):sep (sep P Q) R=sep P (sep Q R):=by
 funext h
 apply propext
 constructor
 ·rintro ⟨ab,c,hd,rfl,⟨a,b,hd',rfl,hp,hq⟩,hr⟩
  obtain⟨h1,h2⟩:=Hp.AM (Hp.qZ hd)
  exact⟨a,b.add c,Hp.wj hd' (Hp.qZ h1),Hp.add_assoc _ _ _,hp,b,c,Hp.qZ h2,rfl,hq,hr⟩
 ·rintro ⟨a,bc,hd,rfl,hp,b,c,hd',rfl,hq,hr⟩
  obtain⟨h1,h2⟩:=Hp.AM hd
  exact⟨a.add b,c,Hp.qZ (Hp.wj (Hp.qZ h2) (Hp.qZ hd')),(Hp.add_assoc _ _ _).symm,⟨a,b,h1,rfl,hp,hq⟩,hr⟩
theorem xS(P Q R:bE):sep P (sep Q R)=sep Q (sep P R):=by
 rw[←zU,FB P Q,zU]
theorem Bk(P:bE):sep P Hf=P:=by
 funext h
 apply propext
 constructor
 ·rintro ⟨a,b,_,rfl,hp,rfl⟩;rw[Hp.Fz];exact hp
 ·intro hp;exact⟨h,Hp.none,Hp.J8 h,(Hp.Fz h).symm,hp,rfl⟩
theorem wm(L M:List bE):an (L++M)=sep (an L) (an M):=by
 induction L with
 | nil=>show an M=sep Hf (an M);rw[FB,Bk]
 | cons P L ih=>show sep P (an (L++M))=sep (sep P (an L)) (an M);rw[ih,zU]
theorem J9{L M:List bE}(h:L.Perm M):an L=an M:=by
 induction h with
 | nil=>rfl
 | cons P _ ih=>show sep P _=sep P _;rw[ih]
 | swap P Q L=>exact xS _ _ _
 | trans _ _ h1 h2=>exact h1.trans h2
def pick(i:Nat)(L:List bE):List bE:=match L[i]? with | some P=>P::L.eraseIdx i | Option.none=>L
theorem zV(i:Nat)(L:List bE):an (pick i L)=an L:=by
 unfold pick
 induction L generalizing i with
 | nil=>rfl
 | cons P L ih =>
  cases i with
  | zero=>rfl
  | succ i =>
   have hi:=ih i
   simp only[List.getElem?_cons_succ,List.eraseIdx_cons_succ]
   cases hg:L[i]? with
   | none=>rfl
   | some Q =>
    rw[hg]at hi
    show sep Q (sep P (an (L.eraseIdx i)))=sep P (an L)
    rw[←hi]
    exact xS _ _ _
structure Fit(w0:World)(P:bE)(w:World):Prop where
 sat :∃h:Hp,(∀k o,h k=some o→w.heap[k]? = some o)∧P h
 os:w.os=w0.os
 tape:w.tape=w0.tape
 output:w.output=w0.output
 size:w0.heap.size≤w.heap.size
section
variable {w0 w:World}{L M:List bE}{P Q:bE}
theorem Fit.imp(h:Fit w0 P w)(i:∀x,P x→Q x):Fit w0 Q w:=
 let ⟨x,hx,hp⟩:=h.sat
 ⟨⟨x,hx,i x hp⟩,h.os,h.tape,h.output,h.size⟩
theorem Fit.eq(h:Fit w0 P w)(e:P=Q):Fit w0 Q w:=e▸ h
theorem Fit.perm(h:Fit w0 (an L) w)(p:L.Perm M):Fit w0 (an M) w:=h.eq (J9 p)
theorem Fit.pick(h:Fit w0 (an L) w)(i:Nat):Fit w0 (an (pick i L)) w:=h.eq (zV i L).symm
theorem Fit.trans{w1:World}{R:bE}(h:Fit w0 R w1)(k:Fit w1 P w):Fit w0 P w:=
 ⟨k.sat,k.os.trans h.os,k.tape.trans h.tape,k.output.trans h.output,Nat.le_trans h.size k.size⟩
theorem Fit.self(h:Fit w0 P w):Fit w P w:=⟨h.sat,rfl,rfl,rfl,Nat.le_refl _⟩
theorem LQ{P P' Q Q':bE}(hp:∀x,P x→P' x)(hq:∀x,Q x→Q' x)(x:Hp)(h:sep P Q x):sep P' Q' x:=
 let ⟨a,b,hd,e,p,q⟩:=h
 ⟨a,b,hd,e,hp a p,hq b q⟩
theorem Fit.head(h:Fit w0 (an (P::L)) w)(i:∀x,P x→Q x):Fit w0 (an (Q::L)) w:=h.imp (LQ i λ_ q=>q)
theorem Fit.drop(h:Fit w0 (an (P::L)) w):Fit w0 (an L) w:=
 let ⟨x,hx,a,b,hd,e,p,q⟩:=h.sat
 ⟨⟨b,λk o hk=>hx k o (by
  rw[e]
  unfold Hp.add
  rcases hd k with h1 | h1
  ·rw[h1];exact hk
  ·rw[h1]at hk;cases hk),q⟩,h.os,h.tape,h.output,h.size⟩
theorem Fit.kU{α:Type}{F:α→bE}(h:Fit w0 (an (exs F::L)) w) :∃x,Fit w0 (an (F x::L)) w:=
 let ⟨x,hx,a,b,hd,e,⟨y,p⟩,q⟩:=h.sat
 ⟨y,⟨⟨x,hx,a,b,hd,e,p,q⟩,h.os,h.tape,h.output,h.size⟩⟩
theorem Fit.iK{α:Type}{F:α→bE}(x:α)(h:Fit w0 (an (F x::L)) w):Fit w0 (an (exs F::L)) w:=h.head λ_ p=>⟨x,p⟩
theorem Fit.wo{p:Prop}(h:Fit w0 (an (LP p::L)) w):p∧Fit w0 (an L) w:=
 let ⟨_,_,_,_,_,_,⟨hp,_⟩,_⟩:=h.sat
 ⟨hp,h.drop⟩
theorem Fit.uF{p:Prop}(hp:p)(h:Fit w0 (an L) w):Fit w0 (an (LP p::L)) w:=
 h.imp λx hx=>⟨Hp.none,x,Hp.DJ x,(Hp.FA x).symm,⟨hp,rfl⟩,hx⟩
theorem Fit.pT(h:Fit w0 (an (an M::L)) w):Fit w0 (an (M++L)) w:=h.eq (wm M L).symm
theorem Fit.oL(M L:List bE)(h:Fit w0 (an (M++L)) w):Fit w0 (an (an M::L)) w:=h.eq (wm M L)
theorem Fit.block{b:Nat}{o:Obj}(h:Fit w0 (an (pts b o::L)) w):w.heap[b]? = some o:=by
 obtain⟨x,hx,a,c,hd,e,p,q⟩:=h.sat
 refine hx b o ?_
 rw[e,p]
 unfold Hp.add
 simp
theorem Fit.lt{b:Nat}{o:Obj}(h:Fit w0 (an (pts b o::L)) w):b<w.heap.size:=(Array.getElem?_eq_some_iff.1 h.block).1
theorem Fit.cell{b:Nat}{cs:Array Value}{t:TypeId}{z:Nat×Nat}(h:Fit w0 (an (pts b (.cells cs t z)::L)) w)(i:Nat){v:Value}(hv:cs[i]? = some v):w.cell? ⟨b,i,none⟩=some v:=by
 simp only[World.cell?,h.block]
 simpa using hv
theorem Fit.news{b:Nat}{cs:Array Value}{t:TypeId}{z:Nat×Nat}(h:Fit w0 (an (pts b (.cells cs t z)::L)) w){xs:List Value}(hx:cs.toList=xs):∀j u,xs[j]? = some u→w.cell? ((⟨b,0,none⟩:Addr).add j)=some u:=by
 subst hx
 intro j u hu
 have e:(⟨b,0,none⟩:Addr).add j=⟨b,j,none⟩:=by unfold Addr.add;split<;>simp_all
 rw[e]
 exact h.cell j (by simpa using hu)
theorem Fit.free{b:Nat}{cs:Array Value}{t:TypeId}(h:Fit w0 (an (pts b (.cells cs t)::L)) w)(i:Nat):w.frozen? ⟨b,i,none⟩=false:=by
 simp[World.frozen?,h.block]
theorem Fit.ne{b b':Nat}{o o':Obj}(h:Fit w0 (an (pts b o::pts b' o'::L)) w):b≠b':=by
 obtain⟨x,hx,a,c,hd,e,p,a',c',hd',e',p',q⟩:=h.sat
 rintro rfl
 rcases hd b with h1 | h1
 ·rw[p]at h1;simp at h1
 ·rw[e',p']at h1;unfold Hp.add at h1;simp at h1
theorem Fit.alloc(h:Fit w0 (an L) w)(o:Obj):Fit w0 (an (pts w.heap.size o::L)) (w.alloc o):=by
 obtain⟨x,hx,hp⟩:=h.sat
 have hlt:∀k o',x k=some o'→k<w.heap.size:=λk o' hk=>(Array.getElem?_eq_some_iff.1 (hx k o' hk)).1
 refine⟨⟨_,?_,(λk=>if k=w.heap.size then some o else Option.none),x,?_,rfl,rfl,hp⟩,h.os,h.tape,h.output,?_⟩
 ·intro k o' hk
  unfold Hp.add at hk
  by_cases e:k=w.heap.size
  ·subst e
   simp at hk
   subst hk
   exact heap_alloc_new w o
  ·simp only[e,if_false]at hk
   rw[Below.heap_alloc w o k (hlt k o' hk)]
   exact hx k o' hk
 ·intro k
  by_cases e:k=w.heap.size
  ·right
   cases hk:x k with
   | none=>rfl
   | some o'=>have:=hlt k o' hk;omega
  ·left;simp[e]
 ·have:=h.size;simp;omega
theorem Fit.drew(h:Fit w0 P w):Fit w0 P w.drew:=⟨h.sat,h.os,h.tape,h.output,h.size⟩
theorem Fit.turn{b:Nat}{o o':Obj}{w':World}(h:Fit w0 (an (pts b o::L)) w)(hb:w'.heap[b]? = some o')(hr:∀k,k≠b→k<w.heap.size→w'.heap[k]? = w.heap[k]?)
 (hos:w'.os=w.os) (ht:w'.tape=w.tape) (ho:w'.output=w.output) (hs:w.heap.size≤w'.heap.size):Fit w0 (an (pts b o'::L)) w':=by
 obtain⟨x,hx,a,c,hd,e,p,q⟩:=h.sat
 refine⟨⟨_,?_,(λk=>if k=b then some o' else Option.none),c,?_,rfl,rfl,q⟩,hos.trans h.os,ht.trans h.tape,ho.trans h.output,Nat.le_trans h.size hs⟩
 ·intro k o'' hk
  unfold Hp.add at hk
  by_cases ek:k=b
  ·subst ek
   simp at hk
   subst hk
   exact hb
  ·simp only[ek,if_false]at hk
   have hk':x k=some o'':=by rw[e,p];unfold Hp.add;simp[ek,hk]
   have hw:=hx k o'' hk'
   rw[hr k ek (Array.getElem?_eq_some_iff.1 hw).1]
   exact hw
 ·intro k
  by_cases ek:k=b
  ·right
   rcases hd k with h1 | h1
   ·rw[p]at h1;simp[ek]at h1
   ·exact h1
  ·left;simp[ek]
theorem Fit.set{b:Nat}{cs:Array Value}{t:TypeId}(h:Fit w0 (an (pts b (.cells cs t)::L)) w)(i:Nat)(v:Value) :
 Fit w0 (an (pts b (.cells (cs.setIfInBounds i v) t)::L)) (w.setCell ⟨b,i,none⟩ v):=by
 refine h.turn (w':=w.setCell ⟨b,i,none⟩ v) ?_ ?_ rfl rfl rfl (by simp)
 ·simp[World.setCell,Array.getElem?_modify,h.block]
 ·intro k hk _
  exact Below.heap_setCell _ _ _ _ hk
theorem Fit.same{w':World}(h:Fit w0 P w)(hb:∀k,k<w.heap.size→w'.heap[k]? = w.heap[k]?)(hos:w'.os=w.os)(ht:w'.tape=w.tape)(ho:w'.output=w.output)(hs:w.heap.size≤w'.heap.size):Fit w0 P w':=by
 obtain⟨x,hx,p⟩:=h.sat
 exact⟨⟨x,λk o hk=>by have:=hx k o hk;rw[hb k (Array.getElem?_eq_some_iff.1 this).1];exact this,p⟩,hos.trans h.os,ht.trans h.tape,ho.trans h.output,Nat.le_trans h.size hs⟩
end
def old(W:World):bE:=λh=>h=λk=>W.heap[k]?
theorem Fit.begin(W:World):Fit W (an [old W]) W:=
 ⟨⟨λk=>W.heap[k]?,λ_ _ h=>h,by show sep (old W) Hf _;rw[Bk];exact rfl⟩,rfl,rfl,rfl,Nat.le_refl _⟩
theorem Fit.below{W w:World}{L:List bE}(h:Fit W (an (old W::L)) w):Below W.heap.size W w:=by
 obtain⟨x,hx,a,c,hd,e,p,q⟩:=h.sat
 refine⟨h.os,h.tape,h.output,h.size,λk hk => ?_⟩
 have hk':W.heap[k]? = some W.heap[k]:=Array.getElem?_eq_getElem hk
 rw[hk']
 refine hx k _ ?_
 rw[e,p]
 unfold Hp.add
 simp[hk']
theorem Fit.Ka{z W w:World}{L:List bE}(h:Fit z (an (old W::L)) w){k:Nat}{o:Obj}(hk:W.heap[k]? = some o):w.heap[k]? = some o:=by
 obtain⟨x,hx,a,c,hd,e,p,q⟩:=h.sat
 refine hx k _ ?_
 rw[e,p]
 unfold Hp.add
 simp[hk]
theorem Fit.FC{z W w:World}{L:List bE}{ad:Addr}{u:Value}(h:Fit z (an (old W::L)) w)(hc:W.cell? ad=some u):w.cell? ad=some u:=by
 have hlt:=World.block_lt_of_cell? W ad hc
 have hk:W.heap[ad.block]? = some W.heap[ad.block]:=Array.getElem?_eq_getElem hlt
 have:=h.Ka hk
 simp only[World.cell?]at hc⊢
 rw[this]
 rw[hk]at hc
 exact hc
end SL
end
section
namespace SL
open Go Go.RowKit
structure pU{α:Type}(enc:α→List Value)(sz:Nat):Prop where
 len:∀x,(enc x).length=sz
 one:∀x,∀u∈enc x,u.oneCell'=true
 pos:0<sz
theorem pU.flat{α:Type}{enc:α→List Value}{sz:Nat}(he:pU enc sz)(l:List α):(l.flatMap enc).length=l.length*sz:=by
 induction l with
 | nil=>simp
 | cons x l ih=>rw[List.flatMap_cons,List.length_append,he.len,ih,List.length_cons,Nat.add_mul,Nat.one_mul,Nat.add_comm]
theorem pU.wu{α:Type}{enc:α→List Value}{sz:Nat}(he:pU enc sz)(l:List α):∀u∈l.flatMap enc,u.oneCell'=true:=by
 intro u hu
 obtain⟨x,_,hx⟩:=List.mem_flatMap.1 hu
 exact he.one x u hx
theorem pU.get{α:Type}{enc:α→List Value}{sz:Nat}(he:pU enc sz)(l:List α)(i f:Nat)(x:α)(hi:l[i]? = some x)(hf:f<sz):(l.flatMap enc)[i*sz+f]? = (enc x)[f]?:=by
 induction l generalizing i with
 | nil=>simp at hi
 | cons y l ih =>
  rw[List.flatMap_cons]
  cases i with
  | zero =>
   simp at hi
   subst hi
   rw[Nat.zero_mul,Nat.zero_add,List.getElem?_append_left (by rw[he.len];exact hf)]
  | succ i =>
   rw[List.getElem?_append_right (by rw[he.len,Nat.add_mul];omega),he.len,show(i+1)*sz+f-sz=i*sz+f by rw[Nat.add_mul];omega]
   exact ih i (by simpa using hi)
theorem pU.set{α:Type}{enc:α→List Value}{sz:Nat}(he:pU enc sz)(l:List α)(i:Nat)(x:α)(hi:i<l.length) :
 (l.set i x).flatMap enc=(l.flatMap enc).take (i*sz)++enc x++(l.flatMap enc).drop (i*sz+sz):=by
 induction l generalizing i with
 | nil=>simp at hi
 | cons y l ih =>
  cases i with
  | zero =>
   simp only[List.set_cons_zero,List.flatMap_cons,Nat.zero_mul,List.take_zero,List.nil_append,Nat.zero_add]
   congr 1
   rw[List.drop_append_of_le_length (by rw[he.len];exact Nat.le_refl _),List.drop_of_length_le (by rw[he.len];exact Nat.le_refl _),List.nil_append]
  | succ i =>
   simp only[List.set_cons_succ,List.flatMap_cons]
   rw[ih i (by simpa using hi)]
   have h1:(i+1)*sz=sz+i*sz:=by rw[Nat.add_mul];omega
   have t1:(enc y).take (sz+i*sz)=enc y:=List.take_of_length_le (by rw[he.len];omega)
   have d1:(enc y).drop (sz+i*sz+sz)=[]:=List.drop_of_length_le (by rw[he.len];omega)
   rw[h1,List.take_append,t1,he.len,show sz+i*sz-sz=i*sz by omega,List.drop_append,d1,he.len,show sz+i*sz+sz-sz=i*sz+sz by omega]
   simp only[List.nil_append,List.append_assoc]
def rowOf{α:Type}(e:TypeId)(sz:Nat)(enc:α→List Value)(v:Value)(l:List α):bE:=λh =>
 (v= .slice none 0 0∧l=[]∧h=Hp.none)∨
 ∃g cap cur,v= .slice (some ⟨g,0,none⟩) l.length cap∧l.length≤cap∧cap≤maxLen∧cur.size=cap*sz∧cur.toList.take (l.length*sz)=l.flatMap enc∧pts g (.cells cur e) h
def slc{α:Type}(e:TypeId)(sz:Nat)(enc:α→List Value)(g cap:Nat)(l:List α):bE:=λh =>
 l.length≤cap∧cap≤maxLen∧∃cur:Array Value,cur.size=cap*sz∧cur.toList.take (l.length*sz)=l.flatMap enc∧pts g (.cells cur e) h
section
variable {w0 w:World}{L:List bE}{α:Type}{e:TypeId}{sz:Nat}{enc:α→List Value}{v:Value}{l:List α}{g cap:Nat}
theorem Fit.rows(h:Fit w0 (an (rowOf e sz enc v l::L)) w):(v= .slice none 0 0∧l=[]∧Fit w0 (an L) w)∨∃g cap,v= .slice (some ⟨g,0,none⟩) l.length cap∧l.length≤cap∧Fit w0 (an (slc e sz enc g cap l::L)) w:=by
 obtain⟨x,hx,a,c,hd,ee,hp,q⟩:=h.sat
 rcases hp with ⟨h1,h2,h3⟩ | ⟨g,cap,cur,h1,h2,h3,h4,h5,h6⟩
 ·left
  exact⟨h1,h2,h.drop⟩
 ·right
  exact⟨g,cap,h1,h2,⟨x,hx,a,c,hd,ee,⟨h2,h3,cur,h4,h5,h6⟩,q⟩,h.os,h.tape,h.output,h.size⟩
theorem Fit.LR(h:Fit w0 (an (rowOf e sz enc v l::L)) w)(hl:0<l.length) :∃g cap,v= .slice (some ⟨g,0,none⟩) l.length cap∧l.length≤cap∧Fit w0 (an (slc e sz enc g cap l::L)) w:=by
 rcases h.rows with ⟨_,h2,_⟩ | h
 ·rw[h2]at hl;simp at hl
 ·exact h
theorem Fit.Of{ca:Option Addr}{m cc:Nat}(h:Fit w0 (an (rowOf e sz enc (.slice ca m cc) l::L)) w)(hl:0<l.length) :
 ∃g,ca=some ⟨g,0,none⟩∧Fit w0 (an (slc e sz enc g cc l::L)) w:=by
 obtain⟨g,cap,e,_,h⟩:=h.LR hl
 simp only[Value.slice.injEq]at e
 obtain⟨rfl,_,rfl⟩:=e
 exact⟨g,rfl,h⟩
theorem Fit.Qf(h:Fit w0 (an (slc e sz enc g cap l::L)) w):Fit w0 (an (rowOf e sz enc (.slice (some ⟨g,0,none⟩) l.length cap) l::L)) w:=
 h.head λ_ ⟨h1,h2,cur,h3,h4,h5⟩=>.inr ⟨g,cap,cur,rfl,h1,h2,h3,h4,h5⟩
theorem Fit.Og{m:Nat}(hm:m=l.length)(h:Fit w0 (an (slc e sz enc g cap l::L)) w):Fit w0 (an (rowOf e sz enc (.slice (some ⟨g,0,none⟩) m cap) l::L)) w:=hm▸ h.Qf
theorem Fit.Oh{ca:Option Addr}{m:Nat}(hca:ca=some ⟨g,0,none⟩)(hm:m=l.length)(h:Fit w0 (an (slc e sz enc g cap l::L)) w):Fit w0 (an (rowOf e sz enc (.slice ca m cap) l::L)) w:=by
 subst hca;subst hm;exact h.Qf
theorem Fit.jX(h:Fit w0 (an L) w):Fit w0 (an (rowOf e sz enc (.slice none 0 0) ([]:List α)::L)) w:=
 h.imp λx hx=>⟨Hp.none,x,Hp.DJ x,(Hp.FA x).symm,.inl ⟨rfl,rfl,rfl⟩,hx⟩
theorem Fit.Bl(h:Fit w0 (an (rowOf e sz enc v l::L)) w) :∃a cap,v= .slice a l.length cap∧(a=none→l=[]∧cap=0)∧l.length≤cap:=by
 rcases h.rows with ⟨rfl,rfl,_⟩ | ⟨g,cap,rfl,hc,_⟩
 ·exact⟨none,0,rfl,λ_=>⟨rfl,rfl⟩,Nat.le_refl _⟩
 ·exact⟨_,cap,rfl,(λh=>by cases h),hc⟩
theorem Fit.eY{ca:Option Addr}{m cc:Nat}(h:Fit w0 (an (rowOf e sz enc (.slice ca m cc) l::L)) w):m=l.length:=by
 obtain⟨a,cap,e,_,_⟩:=h.Bl
 simp only[Value.slice.injEq]at e
 exact e.2.1
theorem Fit.u7(h:Fit w0 (an (slc e sz enc g cap l::L)) w):l.length≤cap∧cap≤maxLen:=by
 obtain⟨x,hx,a,c,hd,ee,⟨h1,h2,_⟩,q⟩:=h.sat
 exact⟨h1,h2⟩
theorem Fit.ot(h:Fit w0 (an (slc e sz enc g cap l::L)) w) :∃cur:Array Value,cur.size=cap*sz∧cur.toList.take (l.length*sz)=l.flatMap enc∧Fit w0 (an (pts g (.cells cur e)::L)) w:=by
 obtain⟨x,hx,a,c,hd,ee,⟨h1,h2,cur,h3,h4,h5⟩,q⟩:=h.sat
 exact⟨cur,h3,h4,⟨x,hx,a,c,hd,ee,h5,q⟩,h.os,h.tape,h.output,h.size⟩
theorem Fit.I6(he:pU enc sz)(h:Fit w0 (an (slc e sz enc g cap l::L)) w)(i f:Nat)(x:α)(u:Value)(hi:l[i]? = some x)(hf:(enc x)[f]? = some u):w.cell? ⟨g,i*sz+f,none⟩=some u:=by
 obtain⟨cur,h1,h2,h3⟩:=h.ot
 have Xo:f<sz:=by rw[←he.len x];exact(List.getElem?_eq_some_iff.1 hf).1
 have BE:i<l.length:=(List.getElem?_eq_some_iff.1 hi).1
 refine h3.cell _ ?_
 have h4:=he.get l i f x hi Xo
 rw[←h2,List.getElem?_take]at h4
 have:i*sz+f<l.length*sz:=by
  have:(i+1)*sz≤l.length*sz:=Nat.mul_le_mul_right _ BE
  rw[Nat.add_mul]at this
  omega
 rw[fQ this,hf]at h4
 simpa using h4
theorem Fit.LS(h:Fit w0 (an (slc e sz enc g cap l::L)) w)(j:Nat):w.frozen? ⟨g,j,none⟩=false:=by
 obtain⟨cur,h1,h2,h3⟩:=h.ot
 exact h3.free j
theorem Da{β:Type}(cur xs:List β)(n i:Nat)(v:β)(h:cur.take n=xs)(_hi:i<n):(cur.set i v).take n=xs.set i v:=by
 subst h
 rw[List.take_set]
theorem Oi{β:Type}(A B C:List β)(k f:Nat)(u:β)(hk:k=A.length)(hf:f<B.length):(A++B++C).set (k+f) u=A++B.set f u++C:=by
 subst hk
 rw[List.append_assoc,List.set_append_right _ _ (by omega),show A.length+f-A.length=f by omega,List.set_append_left _ _ hf,List.append_assoc]
theorem Fit.Oj(he:pU enc sz)(h:Fit w0 (an (slc e sz enc g cap l::L)) w)(i f:Nat)(x y:α)(u:Value)(hi:l[i]? = some x)(hf:f<sz)(hy:enc y=(enc x).set f u) :
 Fit w0 (an (slc e sz enc g cap (l.set i y)::L)) (w.setCell ⟨g,i*sz+f,none⟩ u):=by
 obtain⟨Ws,TA⟩:=h.u7
 obtain⟨cur,h1,h2,h3⟩:=h.ot
 have BE:i<l.length:=(List.getElem?_eq_some_iff.1 hi).1
 refine(h3.set (i*sz+f) u).head λz hz=>⟨by simpa using Ws,TA,cur.setIfInBounds (i*sz+f) u,by simpa using h1,?_,hz⟩
 have hlt:i*sz+f<l.length*sz:=by
  have:(i+1)*sz≤l.length*sz:=Nat.mul_le_mul_right _ BE
  rw[Nat.add_mul]at this
  omega
 have BF:l.set i x=l:=by
  apply List.ext_getElem?
  intro j
  by_cases hj:i=j
  ·subst hj;rw[List.getElem?_set_self BE,hi]
  ·rw[List.getElem?_set_ne hj]
 have hA:((l.flatMap enc).take (i*sz)).length=i*sz:=by
  have hle:i*sz≤l.length*sz:=Nat.mul_le_mul_right _ (Nat.le_of_lt BE)
  rw[List.length_take,he.flat];exact Nat.min_eq_left hle
 have e1:=he.set l i x BE
 rw[BF]at e1
 rw[Array.toList_setIfInBounds,List.length_set,Da _ _ _ _ _ h2 hlt,he.set l i y BE,hy]
 conv=>lhs;rw[e1]
 exact Oi _ _ _ _ _ _ hA.symm (by rw[he.len];exact hf)
end
section
variable {P:Program}{w0 w:World}{L:List bE}{α:Type}{e:TypeId}{sz:Nat}{enc:α→List Value}{v:Value}{l:List α}
theorem BG(he:pU enc sz)(t ty:TypeId)(i:TypeInfo)(z:Value)(bytes:Nat)(ht:P.underlying t=some (.slice e))(hi:P.info? e=some i)(hz:i.zero=some z)
 (hsize:i.size=sz) (hby:i.bytes=bytes) (hzs:z.cells.size=sz) (h:Fit w0 (an (rowOf e sz enc v l::L)) w)
 (ad:Addr) (m c:Nat) (news:List α) (hm:news.length=m) (hnews:∀j u,(news.flatMap enc)[j]? = some u→w.cell? (ad.add j)=some u)
 (h63:l.length+m≤maxLen) (hbytes:(l.length+m)*bytes≤140737488355328) :
 ∃v' w',(Builtin.append_ #[t,t] ty #[v,.slice (some ad) m c]).run P w= .ok v' w'∧Fit w0 (an (rowOf e sz enc v' (l++news)::L)) w':=by
 subst hsize
 subst hby
 have hlen:(news.flatMap enc).length=m*i.size:=by rw[he.flat,hm]
 have Ok:((l.length+m:Nat):Int)≤9223372036854775807:=by simp only[maxLen]at h63;omega
 have grown:∀old,old<l.length+m→Fit w0 (an L) w→
  Fit w0 (an (rowOf e i.size enc (.slice (some ⟨w.heap.size,0,none⟩) (l.length+m) (grownCap w (l.length+m) old e)) (l++news)::L))
   (w.drew.alloc (.cells ((l.flatMap enc).toArray++(news.flatMap enc).toArray++Builtin.zeroCells z.cells (grownCap w (l.length+m) old e-(l.length+m))) e)):=by
  intro old ho hF
  have hge:=grownCap_ge w (l.length+m) old e
  have SO:grownCap w (l.length+m) old e≤maxLen:=grownCap_le_maxLen w (l.length+m) old e h63
  refine(hF.drew.alloc _).head λx hx=>.inr ⟨w.heap.size,_,_,by rw[List.length_append,hm],by rw[List.length_append,hm];exact hge,SO,?_,?_,hx⟩
  ·simp only[Array.size_append,List.size_toArray,size_zeroCells,hzs,he.flat,hm,←Nat.add_mul]
   congr 1
   omega
  ·rw[List.flatMap_append,List.length_append,hm]
   simp only[Array.toList_append]
   rw[show(l.length+m)*i.size=((l.flatMap enc)++(news.flatMap enc)).length by rw[List.length_append,hlen,he.flat,Nat.add_mul]]
   exact List.take_left
 rcases h.rows with ⟨rfl,rfl,hF⟩ | ⟨g,cap,rfl,hc,hF⟩
 ·by_cases LU:m=0
  ·subst LU
   have hn:news=[]:=List.eq_nil_of_length_eq_zero hm
   subst hn
   refine⟨.slice none 0 0,w,?_,hF.jX⟩
   simp[Builtin.append_,run_underlying ht,sizeOf,typeInfo,hi,Builtin.lenOf,Builtin.firstCells,loadCells,loadCellsFrom]
  ·have hr:=run_append_nil (P:=P) w t ty e i z ht hi hz ad m c (news.flatMap enc) hlen hnews (by omega) (by simp at Ok;omega) (by have hb:=hbytes;simp only[List.length_nil,Nat.zero_add]at hb;omega)
   have hg:=grown 0 (by omega) hF
   simp only[List.length_nil,Nat.zero_add,List.nil_append,List.flatMap_nil,Array.empty_append]at hg
   exact⟨_,_,hr,by simpa using hg⟩
 ·obtain⟨cur,hs,SP,hP⟩:=hF.ot
  obtain⟨_,SO⟩:=hF.u7
  by_cases hroom:l.length+m≤cap
  ·have hfit:l.length*i.size+(news.flatMap enc).length≤cur.size:=by rw[hlen,hs,←Nat.add_mul];exact Nat.mul_le_mul_right _ hroom
   have hr:=run_append_room (P:=P) w t ty e i ht hi g l.length cap cur hP.block ad m c (news.flatMap enc) hlen hnews (he.wu news) hroom hfit
   refine⟨_,_,hr,?_⟩
   refine(hP.turn (w':=w.setRow g (cur.toList.take (l.length*i.size)++news.flatMap enc++cur.toList.drop (l.length*i.size+(news.flatMap enc).length)).toArray) (setRow_heap w g cur _ e _ hP.block) (λk hk _=>setRow_other w g k _ hk) rfl rfl rfl (by simp)).head ?_
   intro x hx
   refine .inr ⟨g,cap,_,by rw[List.length_append,hm],by rw[List.length_append,hm];exact hroom,SO,?_,?_,hx⟩
   ·simp only[List.size_toArray,List.length_append,List.length_take,List.length_drop,Array.length_toList]
    omega
   ·rw[SP,List.flatMap_append,List.length_append,hm]
    rw[show(l.length+m)*i.size=((l.flatMap enc)++(news.flatMap enc)).length by rw[List.length_append,hlen,he.flat,Nat.add_mul]]
    exact List.take_left
  ·have holds:∀j u,(l.flatMap enc)[j]? = some u→w.cell? ((⟨g,0,none⟩:Addr).add j)=some u:=by
    intro j u hu
    rw[Addr.add_lit,Nat.zero_add]
    refine hP.cell j ?_
    rw[←SP,List.getElem?_take]at hu
    split at hu
    ·simpa using hu
    ·cases hu
   have hr:=run_append_grow (P:=P) w t ty e i z ht hi hz ⟨g,0,none⟩ l.length cap (l.flatMap enc) (he.flat l) holds ad m c (news.flatMap enc) hlen hnews (by omega) Ok (growslice_fits (by omega) hbytes)
   exact⟨_,_,hr,grown cap (by omega) hP.drop⟩
end
end SL
end
section
namespace GX
open Go Go.RowKit SL
def lk:List (Nat×Value)→(Nat→Value)→Nat→Value
 | [],j,t=>j t
 | (k,v)::r,j,t=>bif Nat.beq t k then v else lk r j t
def eJ(e:Nat→Value):Operand→Value
 | .tmp t=>e t
 | .const v=>v
 | .global g=>.pointer (some ⟨g,0,none⟩)
 | .func f=>.func (.func f) #[] #[]
structure cy(D:List Deferred)(n:Nat)(e:Nat→Value)(a:Act):Prop where
 size:a.tmps.size=n
 get:∀t,a.tmps.getD t undef=e t
 defers:a.defers=D
abbrev kP(n:Nat)(e:Nat→Value)(a:Act):Prop:=cy [] n e a
section
variable {P:Program}{ops:Array Oper}{Q:Exit→Act→World→Prop}{a:Act}{w w0 w1:World}{rest:List Oper}{o:Oper}{n d t:Nat}{v:Value}{l:List (Nat×Value)}{j e:Nat→Value}{L:List bE}{H:bE}{Df:List Deferred}
theorem cy.eval(h:cy Df n e a):a.eval=eJ e:=by
 funext x
 cases x with
 | tmp t=>exact h.get t
 | _=>rfl
theorem cy.put(h:cy Df n (lk l j) a)(d:Nat)(v:Value)(hd:Nat.blt d n=true):cy Df n (lk ((d,v)::l) j) (a.put (some d) v):=by
 have hd':d<a.tmps.size:=by rw[h.size];exact Nat.le_of_ble_eq_true hd
 refine⟨by simp[Act.put,h.size],λt => ?_,h.defers⟩
 show(a.tmps.setIfInBounds d v).getD t undef=bif Nat.beq t d then v else lk l j t
 rw[←h.get t]
 by_cases e:t=d
 ·subst e
  simp[Array.getD_eq_getD_getElem?,hd']
 ·have hb:Nat.beq t d=false:=by
   cases hb:Nat.beq t d with
   | false=>rfl
   | true=>exact absurd (Nat.eq_of_beq_eq_true hb) e
  rw[hb]
  simp[Array.getD_eq_getD_getElem?,Array.getElem?_setIfInBounds_ne (Ne.symm e)]
def allEq(e:Nat→Value):List (Nat×Value)→Prop
 | []=>True
 | (t,v)::r=>e t=v∧allEq e r
theorem rO:∀{l:List (Nat×Value)},allEq e l→lk l e=e
 | [],_=>rfl
 | (k,v)::r,h=>by
  funext t
  show(bif Nat.beq t k then v else lk r e t)=e t
  rw[rO h.2]
  cases hb:Nat.beq t k with
  | false=>rfl
  | true=>have:=Nat.eq_of_beq_eq_true hb;subst this;exact h.1.symm
theorem cy.fold(h:cy Df n e a)(l:List (Nat×Value))(hl:allEq e l) :∃j,cy Df n (lk l j) a:=⟨e,by rw[rO hl];exact h⟩
theorem wn(h:o.guard=none):Region.wanted o (yielded ops a.tmps)=true:=by simp[Region.wanted,h]
theorem wg{i:Nat}{b b':Bool}(hr:cy Df n e a)(hg:o.guard=some (i,b))(hi:(ops[i]?).bind (·.dst)=some t)(ht:Nat.blt t n=true)(he:e t= .bool b') :
 Region.wanted o (yielded ops a.tmps)=(b'==b):=by
 have ht':t<a.tmps.size:=by rw[hr.size];exact Nat.le_of_ble_eq_true ht
 have Xp:a.tmps[t]? = some (.bool b'):=by
  have:=hr.get t
  rw[he,Array.getD_eq_getD_getElem?,Array.getElem?_eq_getElem ht']at this
  rw[Array.getElem?_eq_getElem ht']
  simpa using this
 simp only[Region.wanted,hg,yielded,hi,Option.bind_some,Xp]
 cases b'<;>cases b<;>rfl
theorem sO(hw:Region.wanted o (yielded ops a.tmps)=true)(h:o.wp P a w (wpList P ops Q rest) Q):wpList P ops Q (o::rest) a w:=by
 unfold wpList
 rw[fQ hw]
 exact .inl h
theorem u9(hw:Region.wanted o (yielded ops a.tmps)=true)(hd:o.dst=some d)(hn:Nat.blt d n=true)(hr:cy Df n (lk l j) a)
 (hrun:(execOp (eJ (lk l j)) o).run P w= .ok (.value v) w) (k:∀a,cy Df n (lk ((d,v)::l) j) a→wpList P ops Q rest a w):wpList P ops Q (o::rest) a w:=by
 refine sO hw ?_
 unfold Oper.wp
 rw[hr.eval,hrun,Oper.upon_value,hd]
 exact k _ (hr.put d v hn)
theorem oM(hw:Region.wanted o (yielded ops a.tmps)=true)(hd:o.dst=some d)(hn:Nat.blt d n=true)(hr:cy Df n (lk l j) a)
 (hrun:(execOp (eJ (lk l j)) o).run P w= .ok (.value v) w1) (k:∀a,cy Df n (lk ((d,v)::l) j) a→wpList P ops Q rest a w1):wpList P ops Q (o::rest) a w:=by
 refine sO hw ?_
 unfold Oper.wp
 rw[hr.eval,hrun,Oper.upon_value,hd]
 exact k _ (hr.put d v hn)
theorem yO(hw:Region.wanted o (yielded ops a.tmps)=true)(hd:o.dst=none)(hr:cy Df n (lk l j) a)
 (hrun:(execOp (eJ (lk l j)) o).run P w= .ok .skip w1) (k:wpList P ops Q rest a w1):wpList P ops Q (o::rest) a w:=by
 refine sO hw ?_
 unfold Oper.wp
 rw[hr.eval,hrun,Oper.upon_skip,hd]
 exact k
theorem Hx(hw:Region.wanted o (yielded ops a.tmps)=false)(hd:o.dst=some d)(hn:Nat.blt d n=true)(hr:cy Df n (lk l j) a)
 (k:∀a,cy Df n (lk ((d,undef)::l) j) a→wpList P ops Q rest a w):wpList P ops Q (o::rest) a w:=by
 unfold wpList
 rw[fh (by rw[hw];decide),hd]
 exact k _ (hr.put d undef hn)
theorem Hy{cs:Array Value}{T:TypeId}{vf:Nat→Value}(hw:Region.wanted o (yielded ops a.tmps)=true)(hd:o.dst=some d)(hn:Nat.blt d n=true)(hr:cy Df n (lk l j) a)(hF:Fit w0 (an L) w)
 (hrun:(execOp (eJ (lk l j)) o).run P w= .ok (.value (vf w.heap.size)) (w.alloc (.cells cs T)))
 (k:∀b w1 a,Fit w0 (an (pts b (.cells cs T)::L)) w1→cy Df n (lk ((d,vf b)::l) j) a→wpList P ops Q rest a w1):wpList P ops Q (o::rest) a w:=
 oM hw hd hn hr hrun λ_ Fm=>k _ _ _ (hF.alloc _) Fm
theorem qc{f:FuncId}{args:Array Value}{R:Ending→World→Prop}(hw:Region.wanted o (yielded ops a.tmps)=true)(hd:o.dst=some d)(hn:Nat.blt d n=true)(hr:cy Df n (lk l j) a)
 (hrun:(execOp (eJ (lk l j)) o).run P w= .ok (.enter f args) w) (hc:Calls P f args w R)
 (k:∀e w1,R e w1→∃v,e= .returned v∧∀a,cy Df n (lk ((d,v)::l) j) a→wpList P ops Q rest a w1):wpList P ops Q (o::rest) a w:=by
 refine sO hw ?_
 unfold Oper.wp
 rw[hr.eval,hrun,Oper.upon_enter,hd]
 refine hc.mono λe w1 h => ?_
 obtain⟨v,rfl,h2⟩:=k e w1 h
 exact h2 _ (hr.put d v hn)
theorem rb{b c:Bool}{s:Sem Next}{w w':World}(h:s.run P w= .ok (.value (.bool b)) w')(hz:b=c):s.run P w= .ok (.value (.bool c)) w':=hz▸ h
theorem i64_in(x:Int)(h:-9223372036854775808≤x∧x≤9223372036854775807):IntKind.i64.wrap x=x:=IntWalk.i64_in _ h
def vb:Option TypeDesc→Bool
 | some (.struct _)=>false
 | some (.array _ _)=>false
 | some _=>true
 | none=>false
theorem Eb{t:TypeId}(h:vb (P.underlying t)=true):(isAgg t).run P w= .ok false w:=by
 cases hu:P.underlying t with
 | none=>rw[hu]at h;cases h
 | some D =>
  rw[hu]at h
  simp only[isAgg,Sem.run_bind,run_underlying hu,Result.andThen_ok]
  cases D<;>first | rfl | cases h
theorem rl{x:Operand}{ad:Addr}(ho:o.op= .load t x)(hx:eJ e x= .pointer (some ad))(hu:vb (P.underlying t)=true)(hc:w.cell? ad=some v) :
 (execOp (eJ e) o).run P w= .ok (.value v) w:=by
 unfold execOp
 simp only[ho,Instr.loadAt,hx,Instr.sureAddr,loadVar,Sem.run_bind,Sem.run_pure,Result.andThen_ok,Eb hu]
 simp[go_sem,hc]
theorem rs{x y:Operand}{ad:Addr}{u:Value}(ho:o.op= .store t x y)(hx:eJ e x= .pointer (some ad))(hy:eJ e y=v)(hv:v.cells=#[v])(h1:v.oneCell'=true)(hs:(P.info? t).map (·.size)=some 1)(hc:w.cell? ad=some u)(hf:w.frozen? ad=false) :
 (execOp (eJ e) o).run P w= .ok .skip (w.setCell ad v):=by
 have hst:(Instr.storeAt t (.pointer (some ad)) v).run P w= .ok () (w.setCell ad v):=by
  cases hi:P.info? t with
  | none=>simp[hi]at hs
  | some i =>
   simp[hi]at hs
   have ha:ad.add 0=ad:=by unfold Addr.add;rw[fQ rfl]
   simp only[Instr.storeAt,Instr.sureAddr,storeVar,Sem.run_bind,Sem.run_pure,Result.andThen_ok,sizeOf,typeInfo,hv,run_program,hi]
   simp[storeCells,ha,hs,run_store P w ad v _ h1,hc,hf]
 unfold execOp
 simp only[ho,hx,hy,Sem.run_bind,hst,Result.andThen_ok,Sem.run_pure]
theorem Kb{c x y:Operand}{b:Bool}(ho:o.op= .pick c x y)(hc:eJ e c= .bool b)(hb:b=true)(hx:eJ e x=v):(execOp (eJ e) o).run P w= .ok (.value v) w:=by
 subst hb;subst hx
 unfold execOp
 simp[ho,hc,asBool]
theorem Kc{c x y:Operand}{b:Bool}(ho:o.op= .pick c x y)(hc:eJ e c= .bool b)(hb:b=false)(hx:eJ e y=v):(execOp (eJ e) o).run P w= .ok (.value v) w:=by
 subst hb;subst hx
 unfold execOp
 simp[ho,hc,asBool]
theorem ri{x y:Operand}{g off len cap:Nat}{k:IntKind}{i:Int}{E:TypeId}{sz:Nat}(ho:o.op= .indexAddr t x y)(hx:eJ e x= .slice (some ⟨g,off,none⟩) len cap)(hy:eJ e y= .int k i)
 (ht:P.underlying t=some (.slice E)) (hs:(P.info? E).map (·.size)=some sz) (h0:0≤i) (h1:i<len):(execOp (eJ e) o).run P w= .ok (.value (.pointer (some ⟨g,off+i.toNat*sz,none⟩))) w:=by
 unfold execOp
 simp only[ho,hx,hy]
 cases hi:P.info? E with
 | none=>simp[hi]at hs
 | some q =>
  simp[hi]at hs
  simp[Instr.indexAt,run_underlying ht,asIntOf,h0,h1,sizeOf,typeInfo,hi,hs,Addr.add_lit]
theorem ri0{x y:Operand}{g len cap:Nat}{k:IntKind}{i:Int}{E:TypeId}{sz:Nat}(ho:o.op= .indexAddr t x y)(hx:eJ e x= .slice (some ⟨g,0,none⟩) len cap)(hy:eJ e y= .int k i)
 (ht:P.underlying t=some (.slice E)) (hs:(P.info? E).map (·.size)=some sz) (h0:0≤i) (h1:i<len):(execOp (eJ e) o).run P w= .ok (.value (.pointer (some ⟨g,i.toNat*sz,none⟩))) w:=by
 have:=ri (w:=w) ho hx hy ht hs h0 h1
 rwa [Nat.zero_add]at this
theorem Q0{x y:Operand}{g len cap:Nat}{ca:Option Addr}{k:IntKind}{i:Int}{E:TypeId}{sz:Nat}(hca:ca=some ⟨g,0,none⟩)(ho:o.op= .indexAddr t x y)(hx:eJ e x= .slice ca len cap)(hy:eJ e y= .int k i)
 (ht:P.underlying t=some (.slice E)) (hs:(P.info? E).map (·.size)=some sz) (h0:0≤i) (h1:i<len):(execOp (eJ e) o).run P w= .ok (.value (.pointer (some ⟨g,i.toNat*sz,none⟩))) w:=
 ri0 ho (hca▸ hx) hy ht hs h0 h1
theorem Xq{x y:Operand}{g off len cap:Nat}{ca:Option Addr}{k:IntKind}{i:Int}{E:TypeId}{sz:Nat}(hca:ca=some ⟨g,off,none⟩)(ho:o.op= .indexAddr t x y)(hx:eJ e x= .slice ca len cap)(hy:eJ e y= .int k i)
 (ht:P.underlying t=some (.slice E)) (hs:(P.info? E).map (·.size)=some sz) (h0:0≤i) (h1:i<len):(execOp (eJ e) o).run P w= .ok (.value (.pointer (some ⟨g,off+i.toNat*sz,none⟩))) w:=
 ri ho (hca▸ hx) hy ht hs h0 h1
theorem LV{x y:Operand}{k:IntKind}{p q:Int}{T T':TypeId}(ho:o.op= .binOp .rem T x y T')(hx:eJ e x= .int k p)(hy:eJ e y= .int k q)(hq:q≠0):(execOp (eJ e) o).run P w= .ok (.value (.int k (p.tmod q))) w:=by
 unfold execOp
 simp[ho,hx,hy,eqGuard,binOp,Op.intDiv,hq]
theorem Xr{x y:Operand}{k:IntKind}{p q:Int}{T T':TypeId}(ho:o.op= .binOp .quo T x y T')(hx:eJ e x= .int k p)(hy:eJ e y= .int k q)(hq:q≠0):(execOp (eJ e) o).run P w= .ok (.value (.int k (k.wrap (p.tdiv q)))) w:=by
 unfold execOp
 simp[ho,hx,hy,eqGuard,binOp,Op.intDiv,hq]
theorem FD{K:Act→World→Prop}(h:K a w):Exit.then K Q .normal a w:=h
theorem BH{i:Nat}(h:Q .normal a w):Exit.inBlock i Q .normal a w:=h
theorem LW{i:Nat}(h:Q .normal a w):Exit.inBlock i Q (.exit i) a w:=by show(if i=i then _ else _);rw[fQ rfl];exact h
theorem Kd{i i':Nat}(hne:i'≠i)(h:Q (.exit i') a w):Exit.inBlock i Q (.exit i') a w:=by show(if i'=i then _ else _);rw[fh hne];exact h
theorem BI{c:Operand}{x y:Code}{b:Bool}(hr:cy Df n e a)(hc:eJ e c= .bool b)(hb:b=true)(h:x.wp P Q a w):(Code.cond c x y).wp P Q a w:=
 wp_cond_true (by rw[hr.eval,hc,hb]) h
theorem BJ{c:Operand}{x y:Code}{b:Bool}(hr:cy Df n e a)(hc:eJ e c= .bool b)(hb:b=false)(h:y.wp P Q a w):(Code.cond c x y).wp P Q a w:=
 wp_cond_false (by rw[hr.eval,hc,hb]) h
theorem dP{β:Type}{c:Code}(μ:β→Nat)(I:β→Act→World→Prop)(x0:β)(h0:I x0 a w)
 (round:∀x a w,I x a w→c.wp P (Exit.then (λa w =>∃x',I x' a w∧μ x'<μ x) Q) a w):(Code.loop c).wp P Q a w:=by
 have key:∀m x a w,μ x=m→I x a w→∀b k cs,∃e a' w',Q e a' w'∧Arrives P (lone (b.at a (.code c:: .inLoop c::k)) cs w) b k cs e a' w':=by
  intro m
  induction m using Nat.strongRecOn with
  | _ m ih =>
   intro x a w hm hI b k cs
   obtain⟨e,a1,w1,hq,FE⟩:=round x a w hI b (.inLoop c::k) cs
   cases e with
   | normal =>
    obtain⟨x',hI',hlt⟩:=hq
    obtain⟨e2,a2,w2,hq2,TB⟩:=ih (μ x') (hm▸ hlt) x' a1 w1 rfl hI' b k cs
    exact⟨e2,a2,w2,hq2,.of_steps (Steps.trans FE (.one step_inLoop)) TB⟩
   | exit id=>exact⟨_,a1,w1,hq,.pass (x:=.inLoop c) rfl (λ_ _=>.inl (by simp)) FE⟩
   | goto l=>exact⟨_,a1,w1,hq,.pass (x:=.inLoop c) rfl (λ_ _=>.inl (by simp)) FE⟩
   | ret=>exact⟨_,a1,w1,hq,.pass (x:=.inLoop c) rfl (λ_ _=>.inl (by simp)) FE⟩
   | panic ch=>exact⟨_,a1,w1,hq,.pass (x:=.inLoop c) rfl (λ_ _=>.inl (by simp)) FE⟩
   | outgrown=>exact⟨_,a1,w1,hq,.pass (x:=.inLoop c) rfl (λ_ _=>.inl (by simp)) FE⟩
 intro b k cs
 obtain⟨e,a',w',hq,FE⟩:=key _ x0 a w rfl h0 b k cs
 exact⟨e,a',w',hq,.of_steps (.one step_loop) FE⟩
theorem dw{β:Type}{x y:Code}(I:β→Act→World→Prop)(h:x.wp P (Exit.then (λa w =>∃g,I g a w) Q) a w)(k:∀g a w,I g a w→y.wp P Q a w):(Code.seq x y).wp P Q a w:=
 wp_seq (Code.wp_mono (λe a w q=>by
  cases e with
  | normal=>obtain⟨g,hg⟩:=q;exact k g a w hg
  | _=>exact q) h)
theorem BK(args:Array Value)(m t:Nat):(args++Array.replicate m undef).getD t undef=args.getD t undef:=by
 simp only[Array.getD_eq_getD_getElem?,Array.getElem?_append,Array.getElem?_replicate]
 by_cases h:t<args.size
 ·rw[fQ h]
 ·rw[fh h,Array.getElem?_eq_none (by omega)]
  split<;>rfl
theorem enter{f:FuncId}{fn:Func}{c:Code}{args:Array Value}{R:Ending→World→Prop}(hf:P.funcs[f]? = some fn)(hb:fn.body=some c)(n:Nat)(hn:fn.ntmps=n)(hs:Nat.ble args.size n=true)
 (l:List (Nat×Value)) (hl:allEq (λt=>args.getD t undef) l) (k:∀j a,kP n (lk l j) a→c.wp P (bodyPost P fn R) a w):Calls P f args w R:=by
 refine calls_of_wp hf hb (k (λt=>args.getD t undef) _ ?_)
 rw[rO hl]
 refine⟨?_,λt=>BK args _ t,rfl⟩
 have:=Nat.le_of_ble_eq_true hs
 simp[hn]
 omega
theorem ez{fn:Func}{R:Ending→World→Prop}{t:Nat}(hres:fn.results=#[.tmp t])(hr:kP n e a)(hv:e t=v)(h:R (.returned v) w):bodyPost P fn R .ret a w:=
 bodyPost_ret (by rw[results_tmp hres,hr.get,hv]) hr.defers h
theorem lC{fn:Func}{R:Ending→World→Prop}{t t':Nat}{v':Value}(hres:fn.results=#[.tmp t,.tmp t'])(hr:kP n e a)(hv:e t=v)(Xs:e t'=v')(h:R (.returned (.tuple #[v,v'])) w):bodyPost P fn R .ret a w:=
 bodyPost_ret (by rw[results_tmp2 hres,hr.get,hr.get,hv,Xs]) hr.defers h
theorem FF{fn:Func}{R:Ending→World→Prop}(hres:fn.results=#[])(hr:kP n e a)(h:R (.returned (.tuple #[])) w):bodyPost P fn R .ret a w:=
 bodyPost_ret (results_none hres _ _ _) hr.defers h
theorem nH{fn:Func}{R:Ending→World→Prop}(hres:fn.results=#[])(hr:kP n e a)(h:R (.returned (.tuple #[])) w):bodyPost P fn R .normal a w:=
 bodyPost_end (results_none hres _ _ _) hr.defers h
end
end GX
end
section
namespace GX
open Go Go.RowKit SL
def ag{α:Type}[Inhabited α](l:List α)(i:Nat):α:=l.getD i default
theorem get_at{α:Type}[Inhabited α]{l:List α}{i:Nat}(h:i<l.length):l[i]? = some (ag l i):=by
 unfold ag;rw[List.getD_eq_getElem?_getD,List.getElem?_eq_getElem h];rfl
theorem pV{α:Type}[Inhabited α]{l:List α}{i:Nat}{x:α}(h:i<l.length):ag (l.set i x) i=x:=by
 unfold ag;rw[List.getD_eq_getElem?_getD,List.getElem?_set_self h];rfl
theorem uG{α:Type}[Inhabited α]{l:List α}{i k:Nat}{x:α}(h:i≠k):ag (l.set i x) k=ag l k:=by
 unfold ag;rw[List.getD_eq_getElem?_getD,List.getElem?_set_ne h,List.getD_eq_getElem?_getD]
theorem oE{α:Type}[Inhabited α]{l m:List α}{i:Nat}(h:i<l.length):ag (l++m) i=ag l i:=by
 unfold ag;rw[List.getD_eq_getElem?_getD,List.getElem?_append_left h,List.getD_eq_getElem?_getD]
theorem su{α:Type}[Inhabited α]{l m:List α}{i:Nat}(h:l.length≤i):ag (l++m) i=ag m (i-l.length):=by
 unfold ag;rw[List.getD_eq_getElem?_getD,List.getElem?_append_right h,List.getD_eq_getElem?_getD]
theorem cU{α:Type}{l:List α}{i:Nat}{x:α}(h:i<l.length):(l.set i x)[i]? = some x:=List.getElem?_set_self h
def oS(w:World)(b:Nat):Nat→List Value→Prop
 | _,[]=>True
 | off,v::r=>w.cell? ⟨b,off,none⟩=some v∧oS w b (off+1) r
theorem s9{w:World}{b:Nat}:∀{cs:List Value} {off:Nat},oS w b off cs→∀j v,cs[j]? = some v→w.cell? ((⟨b,off,none⟩:Addr).add j)=some v
 | [],_,_,j,v,h=>by simp at h
 | u::r,off,hh,j,v,h=>by
  cases j with
  | zero=>simp at h;subst h;rw[Addr.add_lit];exact hh.1
  | succ j =>
   have:=s9 hh.2 j v (by simpa using h)
   rw[Addr.add_lit]at this⊢
   rw[show off+(j+1)=off+1+j by omega]
   exact this
section
variable {P:Program}{ops:Array Oper}{Q:Exit→Act→World→Prop}{a:Act}{w w0 w1:World}{rest:List Oper}{o:Oper}{n d t:Nat}{v:Value}{l:List (Nat×Value)}{j e:Nat→Value}{L:List bE}{H:bE}{Df:List Deferred}
def sv:Option TypeDesc→Bool
 | some (.struct _)=>true
 | some (.array _ _)=>true
 | _=>false
theorem rD{t:TypeId}(h:sv (P.underlying t)=true):(isAgg t).run P w= .ok true w:=by
 cases hu:P.underlying t with
 | none=>rw[hu]at h;cases h
 | some D =>
  rw[hu]at h
  simp only[isAgg,Sem.run_bind,run_underlying hu,Result.andThen_ok]
  cases D<;>first | rfl | cases h
theorem Xt{x:Operand}{b off:Nat}{cs:List Value}(ho:o.op= .load t x)(hx:eJ e x= .pointer (some ⟨b,off,none⟩))(hu:sv (P.underlying t)=true)
 (hs:(P.info? t).map (·.size)=some cs.length) (hc:oS w b off cs):(execOp (eJ e) o).run P w= .ok (.value (.agg cs.toArray)) w:=by
 have hl:=run_loadCells_list (P:=P) w ⟨b,off,none⟩ cs (s9 hc)
 unfold execOp
 cases hi:P.info? t with
 | none=>simp[hi]at hs
 | some q =>
  simp[hi]at hs
  simp only[ho,Instr.loadAt,hx,Instr.sureAddr,loadVar,Sem.run_bind,Sem.run_pure,Result.andThen_ok,rD hu,if_true,sizeOf,typeInfo,run_program,hi,hs,hl]
theorem LX{fn:Func}{R:Ending→World→Prop}{t T b off:Nat}{cs:List Value}(hres:fn.results=#[.cell t T])(hr:kP n e a)(hv:e t= .pointer (some ⟨b,off,none⟩))(hu:sv (P.underlying T)=true)
 (hs:(P.info? T).map (·.size)=some cs.length) (hc:oS w b off cs) (h:R (.returned (.agg cs.toArray)) w):bodyPost P fn R .ret a w:=by
 have hl:=run_loadCells_list (P:=P) w ⟨b,off,none⟩ cs (s9 hc)
 refine bodyPost_ret ?_ hr.defers h
 cases hi:P.info? T with
 | none=>simp[hi]at hs
 | some q =>
  simp[hi]at hs
  have hg:=hr.get t
  rw[hv,Array.getD_eq_getD_getElem?]at hg
  simp[results,hres,hg,asAddr,loadVar,rD hu,sizeOf,typeInfo,hi,hs,hl]
theorem dA{fn:Func}{R:Ending→World→Prop}{t T b off u:Nat}{cs:List Value}(hres:fn.results=#[.cell t T,.tmp u])(hr:kP n e a)(hv:e t= .pointer (some ⟨b,off,none⟩))(Xs:e u=v)(hu:sv (P.underlying T)=true)
 (hs:(P.info? T).map (·.size)=some cs.length) (hc:oS w b off cs) (h:R (.returned (.tuple #[.agg cs.toArray,v])) w):bodyPost P fn R .ret a w:=by
 have hl:=run_loadCells_list (P:=P) w ⟨b,off,none⟩ cs (s9 hc)
 refine bodyPost_ret ?_ hr.defers h
 cases hi:P.info? T with
 | none=>simp[hi]at hs
 | some q =>
  simp[hi]at hs
  have hg:=hr.get t
  rw[hv,Array.getD_eq_getD_getElem?]at hg
  have I7:=hr.get u
  rw[Xs,Array.getD_eq_getD_getElem?]at I7
  simp[results,hres,hg,I7,asAddr,loadVar,rD hu,sizeOf,typeInfo,hi,hs,hl]
theorem LY{x y:Operand}{b i:Nat}{cs:Array Value}{T:TypeId}{u:Value}(hw:Region.wanted o (yielded ops a.tmps)=true)(hd:o.dst=none)(hr:cy Df n (lk l j) a)(ho:o.op= .store t x y)
 (hx:eJ (lk l j) x= .pointer (some ⟨b,i,none⟩)) (hy:eJ (lk l j) y=v) (hv:v.cells=#[v]) (h1:v.oneCell'=true) (hs:(P.info? t).map (·.size)=some 1)
 (hF:Fit w0 (an (pts b (.cells cs T)::L)) w) (hc:cs[i]? = some u) (k:∀w1,Fit w0 (an (pts b (.cells (cs.setIfInBounds i v) T)::L)) w1→wpList P ops Q rest a w1):wpList P ops Q (o::rest) a w:=
 yO hw hd hr (rs ho hx hy hv h1 hs (hF.cell i hc) (hF.free i)) (k _ (hF.set i v))
theorem DK{x y:Operand}{b:Nat}{cs cs':Array Value}{T:TypeId}{vs:List Value}(hw:Region.wanted o (yielded ops a.tmps)=true)(hd:o.dst=none)(hr:cy Df n (lk l j) a)(ho:o.op= .store t x y)
 {i:Nat} (hx:eJ (lk l j) x= .pointer (some ⟨b,i,none⟩)) (hy:eJ (lk l j) y= .agg vs.toArray) (h1:vs.all (·.oneCell')=true) (hfit:Nat.ble (i+vs.length) cs.size=true) (hs:(P.info? t).map (·.size)=some vs.length)
 (hF:Fit w0 (an (pts b (.cells cs T)::L)) w) (hcs:(cs.toList.take i++vs++cs.toList.drop (i+vs.length)).toArray=cs') (k:∀w1,Fit w0 (an (pts b (.cells cs' T)::L)) w1→wpList P ops Q rest a w1):wpList P ops Q (o::rest) a w:=by
 have hst:=run_storeCells_at P b i T vs 0 cs w hF.block (by simpa using Nat.le_of_ble_eq_true hfit) (by simpa using h1)
 simp only[Nat.add_zero,hcs]at hst
 refine yO (w1:=w.setRow b cs') hw hd hr ?_ (k _ ?_)
 ·unfold execOp
  cases hi:P.info? t with
  | none=>simp[hi]at hs
  | some q =>
   simp[hi]at hs
   simp only[ho,hx,hy,Instr.storeAt,Instr.sureAddr,storeVar,Sem.run_bind,Sem.run_pure,Result.andThen_ok,sizeOf,typeInfo,run_program,hi,Value.cells]
   simp[hs,hst]
 ·exact hF.turn (w':=w.setRow b cs') (setRow_heap w b cs cs' T (0,0) hF.block) (λk hk _=>setRow_other w b k _ hk) rfl rfl rfl (by simp)
section
variable {α:Type}{E:TypeId}{sz g cap:Nat}{enc:α→List Value}{xs:List α}
theorem Ec{x y:Operand}(hw:Region.wanted o (yielded ops a.tmps)=true)(hd:o.dst=none)(hr:cy Df n (lk l j) a)(ho:o.op= .store t x y)
 {i f:Nat} (hx:eJ (lk l j) x= .pointer (some ⟨g,i*sz+f,none⟩)) (hy:eJ (lk l j) y=v) (hv:v.cells=#[v]) (h1:v.oneCell'=true) (hs:(P.info? t).map (·.size)=some 1)
 (he:pU enc sz) (hF:Fit w0 (an (slc E sz enc g cap xs::L)) w) {p q:α} (hp:xs[i]? = some p) (hf:f<sz) (hq:enc q=(enc p).set f v)
 (k:∀w1,Fit w0 (an (slc E sz enc g cap (xs.set i q)::L)) w1→wpList P ops Q rest a w1):wpList P ops Q (o::rest) a w:=by
 have hu:(enc p)[f]? = some (enc p)[f]!:=by
  have:f<(enc p).length:=by rw[he.len];exact hf
  rw[List.getElem?_eq_getElem this,List.getElem!_eq_getElem?_getD,List.getElem?_eq_getElem this]
  rfl
 exact yO hw hd hr (rs ho hx hy hv h1 hs (hF.I6 he i f p _ hp hu) (hF.LS _)) (k _ (hF.Oj he i f p q v hp hf hq))
theorem Db{x y:Operand}{vs:List Value}(hw:Region.wanted o (yielded ops a.tmps)=true)(hd:o.dst=none)(hr:cy Df n (lk l j) a)(ho:o.op= .store t x y)
 {i:Nat} (hx:eJ (lk l j) x= .pointer (some ⟨g,i*sz,none⟩)) (hy:eJ (lk l j) y= .agg vs.toArray) (h1:vs.all (·.oneCell')=true) (hs:(P.info? t).map (·.size)=some vs.length)
 (he:pU enc sz) (hF:Fit w0 (an (slc E sz enc g cap xs::L)) w) {q:α} (hi:i<xs.length) (hq:enc q=vs)
 (k:∀w1,Fit w0 (an (slc E sz enc g cap (xs.set i q)::L)) w1→wpList P ops Q rest a w1):wpList P ops Q (o::rest) a w:=by
 obtain⟨C1,BL⟩:=hF.u7
 obtain⟨cur,SQ,LZ,hP⟩:=hF.ot
 have hvl:vs.length=sz:=by rw[←hq,he.len]
 have hle:i*sz+sz≤xs.length*sz:=by
  have:(i+1)*sz≤xs.length*sz:=Nat.mul_le_mul_right _ hi
  rw[Nat.add_mul]at this
  omega
 have Q1:xs.length*sz≤cap*sz:=Nat.mul_le_mul_right _ C1
 have hst:=run_storeCells_at P g (i*sz) E vs 0 cur w hP.block (by rw[hvl];omega) (by simpa using h1)
 simp only[Nat.add_zero]at hst
 refine yO (w1:=w.setRow g (cur.toList.take (i*sz)++vs++cur.toList.drop (i*sz+vs.length)).toArray) hw hd hr ?_ (k _ ?_)
 ·unfold execOp
  cases ym:P.info? t with
  | none=>simp[ym]at hs
  | some q =>
   simp[ym]at hs
   simp only[ho,hx,hy,Instr.storeAt,Instr.sureAddr,storeVar,Sem.run_bind,Sem.run_pure,Result.andThen_ok,sizeOf,typeInfo,run_program,ym,Value.cells]
   simp[hs,hst]
 ·refine(hP.turn (w':=w.setRow g (cur.toList.take (i*sz)++vs++cur.toList.drop (i*sz+vs.length)).toArray) (setRow_heap w g cur _ E (0,0) hP.block) (λk hk _=>setRow_other w g k _ hk) rfl rfl rfl (by simp)).head λz hz=>⟨by simpa using C1,BL,_,?_,?_,hz⟩
  ·simp only[List.size_toArray,List.length_append,List.length_take,List.length_drop,Array.length_toList,hvl]
   omega
  ·rw[List.length_set,he.set xs i q hi,hq,←LZ]
   have hA:(cur.toList.take (i*sz)).length=i*sz:=by rw[List.length_take,Array.length_toList];omega
   have e1:(cur.toList.take (i*sz)++vs++cur.toList.drop (i*sz+vs.length)).take (xs.length*sz)=cur.toList.take (i*sz)++vs++(cur.toList.drop (i*sz+vs.length)).take (xs.length*sz-(i*sz+sz)):=by
    rw[List.take_append,List.take_of_length_le (by rw[List.length_append,hA,hvl];exact hle),List.length_append,hA,hvl]
   rw[List.toList_toArray,e1,List.take_take,Nat.min_eq_left (by omega),List.drop_take,hvl]
theorem mO{ca:Option Addr}{n0 cc bytes:Nat}{s x:Operand}{ad:Addr}{m c:Nat}(hw:Region.wanted o (yielded ops a.tmps)=true)(hd:o.dst=some d)(hn:Nat.blt d n=true)(hr:cy Df n (lk l j) a)
 (ho:o.op= .call {callee:=.builtin .append,args:=#[s,x],argTypes:=#[t,t]}) (hs:eJ (lk l j) s= .slice ca n0 cc) (hx:eJ (lk l j) x= .slice (some ad) m c)
 (he:pU enc sz) (hty:P.underlying t=some (.slice E)) (nX:(P.info? E).map (λi=>(i.size,i.bytes,i.zero.map (·.cells.size)))=some (sz,bytes,some sz))
 (hF:Fit w0 (an (rowOf E sz enc (.slice ca n0 cc) xs::L)) w) {news:List α} (hm:news.length=m) (hnews:∀j u,(news.flatMap enc)[j]? = some u→w.cell? (ad.add j)=some u)
 (hb:(xs.length+m)*bytes≤140737488355328) (Hg:Nat.blt 0 bytes=true)
 (k:∀ca cc w1 a,Fit w0 (an (rowOf E sz enc (.slice ca (xs++news).length cc) (xs++news)::L)) w1→cy Df n (lk ((d,.slice ca (xs++news).length cc)::l) j) a→wpList P ops Q rest a w1):wpList P ops Q (o::rest) a w:=by
 have Ke:=hF.eY
 subst Ke
 cases hi:P.info? E with
 | none=>simp[hi]at nX
 | some i =>
  simp only[hi,Option.map_some,Option.some.injEq,Prod.mk.injEq]at nX
  obtain⟨i1,i2,i3⟩:=nX
  cases hz:i.zero with
  | none=>simp[hz]at i3
  | some zv =>
   simp only[hz,Option.map_some,Option.some.injEq]at i3
   have FG:0<bytes:=Nat.le_of_ble_eq_true Hg
   have h63:xs.length+m≤maxLen:=by
    have:xs.length+m≤(xs.length+m)*bytes:=Nat.le_mul_of_pos_right _ FG
    simp only[maxLen];omega
   obtain⟨v',w',hrun,zW⟩:=BG (P:=P) he t o.type i zv bytes hty hi hz i1 i2 i3 hF ad m c news hm hnews h63 hb
   obtain⟨a',cap',e,_,_⟩:=zW.Bl
   subst e
   refine oM hw hd hn hr ?_ (λa hr=>k a' cap' w' a zW hr)
   unfold execOp
   simp only[ho,resolve,invoke,builtin,Sem.run_bind,Sem.run_pure,Result.andThen_ok,List.map_toArray,List.map_cons,List.map_nil,hs,hx,hrun]
end
end
end GX
end
section
namespace GX
open Go Go.RowKit SL
section
variable {α:Type}{sz:Nat}{enc:α→List Value}
theorem BM(he:pU enc sz)(zc:Array Value)(z0:α)(hz:zc.toList=enc z0)(n:Nat) :
 ((Array.range (n*sz)).map λi=>zc[i%zc.size]!).toList=(List.replicate n z0).flatMap enc:=by
 have hs:zc.size=sz:=by rw[←Array.length_toList,hz,he.len]
 have hpos:=he.pos
 apply List.ext_getElem?
 intro i
 rw[Array.toList_map,Array.toList_range,List.getElem?_map]
 by_cases hi:i<n*sz
 ·have hd:i/sz<n:=(Nat.div_lt_iff_lt_mul hpos).2 hi
  have hm:i%sz<sz:=Nat.mod_lt _ hpos
  have hg:=he.get (List.replicate n z0) (i/sz) (i%sz) z0 (by rw[List.getElem?_replicate,fQ hd]) hm
  rw[show i/sz*sz+i%sz=i by rw[Nat.mul_comm];exact Nat.div_add_mod i sz]at hg
  rw[hg,List.getElem?_range hi,←hz,hs]
  have hm':i%sz<zc.size:=by omega
  simp[hm']
 ·rw[List.getElem?_eq_none (by simp;omega),List.getElem?_eq_none (by rw[he.flat,List.length_replicate];omega)]
  rfl
end
section
variable {P:Program}{ops:Array Oper}{Q:Exit→Act→World→Prop}{a:Act}{w w0 w1:World}{rest:List Oper}{o:Oper}{n d t:Nat}{v:Value}{l:List (Nat×Value)}{j e:Nat→Value}{L:List bE}{H:bE}{Df:List Deferred}
variable {α:Type}{E:TypeId}{sz g cap:Nat}{enc:α→List Value}{xs:List α}
theorem I8{bytes:Nat}{zc:Array Value}(h:(P.info? E).map (λi=>(i.size,i.bytes,i.zero.map (·.cells)))=some (sz,bytes,some zc)) :
 ∃i z,P.info? E=some i∧i.size=sz∧i.bytes=bytes∧i.zero=some z∧z.cells=zc:=by
 cases hi:P.info? E with
 | none=>simp[hi]at h
 | some i =>
  simp only[hi,Option.map_some,Option.some.injEq,Prod.mk.injEq]at h
  obtain⟨h1,h2,h3⟩:=h
  cases hz:i.zero with
  | none=>simp[hz]at h3
  | some z=>exact⟨i,z,rfl,h1,h2,hz,by simpa [hz]using h3⟩
theorem Ol{x y:Operand}{c:Nat}{i:Int}{bytes:Nat}{zc:Array Value}(z0:α)(hw:Region.wanted o (yielded ops a.tmps)=true)(hd:o.dst=some d)(hn:Nat.blt d n=true)(hr:cy Df n (lk l j) a)
 (ho:o.op= .makeSlice t x y) (hx:eJ (lk l j) x= .int .i64 i) (hy:eJ (lk l j) y= .int .i64 i) (hi:i=c) (he:pU enc sz) (hty:P.underlying t=some (.slice E))
 (nX:(P.info? E).map (λi=>(i.size,i.bytes,i.zero.map (·.cells)))=some (sz,bytes,some zc)) (hz:zc.toList=enc z0) (hb:c*bytes≤140737488355328) (Hg:Nat.blt 0 bytes=true) (hF:Fit w0 (an L) w)
 (k:∀g w1 a,Fit w0 (an (slc E sz enc g c (List.replicate c z0)::L)) w1→cy Df n (lk ((d,.slice (some ⟨g,0,none⟩) c c)::l) j) a→wpList P ops Q rest a w1):wpList P ops Q (o::rest) a w:=by
 obtain⟨q,z,hq,h1,h2,h3,h4⟩:=I8 nX
 have FG:0<bytes:=Nat.le_of_ble_eq_true Hg
 have hc:c≤c*bytes:=Nat.le_mul_of_pos_right _ FG
 subst hi
 have hcb:((q.bytes:Nat):Int)*(c:Int)≤281474976710656:=by
  have Xu:((c*bytes:Nat):Int)≤140737488355328:=by omega
  rw[h2,Int.mul_comm]
  simp only[Int.natCast_mul]at Xu
  omega
 have hrun:=run_make (P:=P) w t E q z hty hq h3 .i64 .i64 (c:Int) (c:Int) (by omega) (by omega) hcb (by omega)
 have hs:zc.size=sz:=by rw[←Array.length_toList,hz,he.len]
 have hcells:(madeCells z.cells ((c:Int).toNat*q.size)).toList=(List.replicate c z0).flatMap enc:=by
  rw[h1,h4,Int.toNat_natCast]
  exact BM he zc z0 hz c
 refine oM (w1:=w.alloc (.cells (madeCells z.cells ((c:Int).toNat*q.size)) E)) hw hd hn hr (v:=.slice (some ⟨w.heap.size,0,none⟩) c c) ?_ (λa hr=>k w.heap.size _ a ?_ hr)
 ·unfold execOp
  simp only[ho,hx,hy,Sem.run_bind,hrun,Result.andThen_ok,Sem.run_pure,Int.toNat_natCast]
 ·refine(hF.alloc _).head λx hx=>⟨by simp,by simp only[maxLen];omega,_,?_,?_,hx⟩
  ·rw[←Array.length_toList,hcells,he.flat,List.length_replicate]
  ·rw[hcells,List.length_replicate,List.take_of_length_le (by rw[he.flat,List.length_replicate];exact Nat.le_refl _)]
theorem abt{s x:Operand}{ca:Option Addr}{n0 n1 cc:Nat}{ys:List α}(hw:Region.wanted o (yielded ops a.tmps)=true)(hd:o.dst=some d)(hn:Nat.blt d n=true)(hr:cy Df n (lk l j) a)
 (ho:o.op= .call {callee:=.builtin .copy,args:=#[s,x],argTypes:=#[t,t]}) (hs:eJ (lk l j) s= .slice (some ⟨g,0,none⟩) n0 cap) (hx:eJ (lk l j) x= .slice ca n1 cc) (Ke:n0=xs.length)
 (he:pU enc sz) (hty:P.underlying t=some (.slice E)) (hsz:(P.info? E).map (·.size)=some sz) (hlen:ys.length=xs.length)
 (hF:Fit w0 (an (slc E sz enc g cap xs::rowOf E sz enc (.slice ca n1 cc) ys::L)) w)
 (k:∀w1 a,Fit w0 (an (slc E sz enc g cap ys::rowOf E sz enc (.slice ca n1 cc) ys::L)) w1→cy Df n (lk ((d,.int .i64 ((xs.length:Nat):Int))::l) j) a→wpList P ops Q rest a w1):wpList P ops Q (o::rest) a w:=by
 have N0:=(hF.pick 1).eY
 subst N0
 subst Ke
 obtain⟨C1,BL⟩:=hF.u7
 obtain⟨cur,SQ,LZ,hP⟩:=hF.ot
 have hcells:(Builtin.firstCells sz (Nat.min ys.length xs.length) (.slice ca ys.length cc)).run P w= .ok (ys.flatMap enc).toArray w:=by
  rw[hlen,show Nat.min xs.length xs.length=xs.length from Nat.min_self _,←hlen]
  rcases(hF.pick 1).rows with ⟨e1,e2,_⟩ | ⟨g',cap',e1,_,zW⟩
  ·simp only[Value.slice.injEq]at e1
   rw[e1.1,e2]
   exact run_firstCells_none (P:=P) w sz _ _ _
  ·simp only[Value.slice.injEq]at e1
   rw[e1.1]
   obtain⟨cur',aaH,Xx,hP'⟩:=zW.ot
   refine run_firstCells_some (P:=P) w sz ys.length _ _ _ (ys.flatMap enc) (he.flat ys) ?_
   intro j u hu
   rw[Addr.add_lit,Nat.zero_add]
   refine hP'.cell j ?_
   rw[←Xx,List.getElem?_take]at hu
   split at hu
   ·simpa using hu
   ·cases hu
 have hfl:(ys.flatMap enc).length=xs.length*sz:=by rw[he.flat,hlen]
 have hle:xs.length*sz≤cap*sz:=Nat.mul_le_mul_right _ C1
 have hst:=run_storeCells_at P g 0 E (ys.flatMap enc) 0 cur w hP.block (by rw[hfl,SQ];omega) (he.wu ys)
 simp only[Nat.add_zero,Nat.zero_add,List.take_zero,List.nil_append]at hst
 refine oM (w1:=w.setRow g (ys.flatMap enc++cur.toList.drop (ys.flatMap enc).length).toArray) (v:=.int .i64 ((xs.length:Nat):Int)) hw hd hn hr ?_ (λa hr=>k _ a ?_ hr)
 ·unfold execOp
  cases ym:P.info? E with
  | none=>simp[ym]at hsz
  | some q =>
   simp[ym]at hsz
   have hmin:Nat.min ys.length xs.length=xs.length:=by rw[hlen];exact Nat.min_self _
   have abB:Nat.min xs.length xs.length=xs.length:=Nat.min_self _
   simp only[ho,resolve,invoke,builtin,Sem.run_bind,Sem.run_pure,Result.andThen_ok,List.map_toArray,List.map_cons,List.map_nil,hs,hx]
   rw[hmin]at hcells
   rw[hlen]at hcells
   simp[Builtin.copy_,run_underlying hty,Builtin.lenOf,sizeOf,typeInfo,ym,hsz,hlen,abB,hcells,hst,goInt]
 ·refine((hP.turn (w':=w.setRow g (ys.flatMap enc++cur.toList.drop (ys.flatMap enc).length).toArray) (setRow_heap w g cur _ E (0,0) hP.block) (λk hk _=>setRow_other w g k _ hk) rfl rfl rfl (by simp)).head λz hz=>⟨by rw[hlen];exact C1,BL,_,?_,?_,hz⟩)
  ·simp only[List.size_toArray,List.length_append,List.length_drop,Array.length_toList,hfl]
   omega
  ·rw[List.toList_toArray,←he.flat ys]
   exact List.take_left
theorem Kf{ca:Option Addr}{n0 cc bytes:Nat}{s x:Operand}{tx:TypeId}{m:Nat}{i:Int}{zc:Array Value}{kx:IntKind}(z0:α)(hw:Region.wanted o (yielded ops a.tmps)=true)(hd:o.dst=some d)(hn:Nat.blt d n=true)(hr:cy Df n (lk l j) a)
 (ho:o.op= .call {callee:=.builtin .append,args:=#[s,x],argTypes:=#[t,tx]}) (hs:eJ (lk l j) s= .slice ca n0 cc) (hx:eJ (lk l j) x= .int .i64 i) (hi:i=m)
 (he:pU enc sz) (hty:P.underlying t=some (.slice E)) (TC:P.underlying tx=some (.int kx)) (nX:(P.info? E).map (λi=>(i.size,i.bytes,i.zero.map (·.cells)))=some (sz,bytes,some zc)) (hz:zc.toList=enc z0)
 (hF:Fit w0 (an (rowOf E sz enc (.slice ca n0 cc) xs::L)) w) (hb:(xs.length+m)*bytes≤140737488355328) (Hg:Nat.blt 0 bytes=true)
 (k:∀ca cc w1 a,Fit w0 (an (rowOf E sz enc (.slice ca (xs++List.replicate m z0).length cc) (xs++List.replicate m z0)::L)) w1→cy Df n (lk ((d,.slice ca (xs++List.replicate m z0).length cc)::l) j) a→wpList P ops Q rest a w1):wpList P ops Q (o::rest) a w:=by
 have Ke:=hF.eY
 subst Ke
 obtain⟨q,zv,hq,h1,h2,h3,h4⟩:=I8 nX
 have FG:0<bytes:=Nat.le_of_ble_eq_true Hg
 have hmm:m≤m*bytes:=Nat.le_mul_of_pos_right _ FG
 have hxx:xs.length≤xs.length*bytes:=Nat.le_mul_of_pos_right _ FG
 have aaG:(xs.length+m)*bytes=xs.length*bytes+m*bytes:=Nat.add_mul _ _ _
 subst hi
 have hzs:zv.cells.size=sz:=by rw[h4,←Array.length_toList,hz,he.len]
 have hzl:(Builtin.zeroCells zv.cells m).toList=(List.replicate m z0).flatMap enc:=by
  have:=BM he zc z0 hz m
  rw[←h4]at this
  rw[←this,←hzs]
  rfl
 have hpos:=he.pos
 have TD:∀w,(zeroValue E).run P w= .ok zv w:=λw=>by
  simp only[zeroValue,typeInfo,Sem.run_bind,run_program,hq,Result.andThen_ok,Sem.run_pure,h3]
 have Q2:((List.replicate m z0).flatMap enc).length=m*sz:=by rw[he.flat,List.length_replicate]
 have TE:=he.wu (List.replicate m z0)
 have I9:IntKind.i64.wrap (m:Int)=m:=IntWalk.i64_in _ (by omega)
 have N0:¬((m:Int)<0):=by omega
 have SR:¬(281474976710656<(m:Int)*(q.bytes:Int)):=by
  have:((m*bytes:Nat):Int)≤140737488355328:=by omega
  rw[h2];simp only[Int.natCast_mul]at this;omega
 have main :∃v' w',(Builtin.append_ #[t,tx] o.type #[.slice ca xs.length cc,.int .i64 (m:Int)]).run P w= .ok v' w'∧Fit w0 (an (rowOf E sz enc v' (xs++List.replicate m z0)::L)) w':=by
  by_cases hroom:xs.length+m≤cc
  ·rcases hF.rows with ⟨e1,e2,zW⟩ | ⟨g,cap,e1,_,zW⟩
   ·simp only[Value.slice.injEq]at e1
    obtain⟨rfl,e3,rfl⟩:=e1
    have LU:m=0:=by omega
    subst LU
    subst e2
    refine⟨.slice none 0 0,w,?_,by simpa using zW.jX⟩
    have hw0:IntKind.i64.wrap 0=0:=by rfl
    simp[Builtin.append_,run_underlying hty,run_underlying TC,sizeOf,typeInfo,hq,asInt,asIntOf,hw0]
   ·simp only[Value.slice.injEq]at e1
    obtain⟨rfl,_,rfl⟩:=e1
    obtain⟨cur,Xv,SP,hP⟩:=zW.ot
    obtain⟨C1,BL⟩:=zW.u7
    have hle:(xs.length+m)*sz≤cc*sz:=Nat.mul_le_mul_right _ hroom
    rw[Nat.add_mul]at hle
    have TF:(xs++List.replicate m z0).flatMap enc=xs.flatMap enc++(List.replicate m z0).flatMap enc:=List.flatMap_append
    generalize hZ:(List.replicate m z0).flatMap enc=zl at *
    have hst:=run_storeCells_at P g (xs.length*sz) E zl 0 cur w hP.block (by rw[Q2,Xv];omega) TE
    simp only[Nat.add_zero]at hst
    refine⟨.slice (some ⟨g,0,none⟩) (xs.length+m) cc,w.setRow g (cur.toList.take (xs.length*sz)++zl++cur.toList.drop (xs.length*sz+zl.length)).toArray,?_,?_⟩
    ·generalize w.setRow g (cur.toList.take (xs.length*sz)++zl++cur.toList.drop (xs.length*sz+zl.length)).toArray=w9 at hst
     by_cases LU:m*sz=0
     ·have Xw:zl=[]:=List.eq_nil_of_length_eq_zero (by omega)
      subst Xw
      simp[Builtin.append_,run_underlying hty,run_underlying TC,sizeOf,typeInfo,hq,asInt,asIntOf,I9,N0,SR,hroom,h1,Addr.add_lit,LU,hst]
     ·simp[Builtin.append_,run_underlying hty,run_underlying TC,sizeOf,typeInfo,hq,asInt,asIntOf,I9,N0,SR,hroom,h1,Addr.add_lit,LU,TD,hzl,hst]
    ·refine(hP.turn (w':=w.setRow g (cur.toList.take (xs.length*sz)++zl++cur.toList.drop (xs.length*sz+zl.length)).toArray) (setRow_heap w g cur _ E (0,0) hP.block) (λk hk _=>setRow_other w g k _ hk) rfl rfl rfl (by simp)).head λz Kg=>.inr ⟨g,cc,_,by simp,by simpa using hroom,BL,?_,?_,Kg⟩
     ·simp only[List.size_toArray,List.length_append,List.length_take,List.length_drop,Array.length_toList,Q2]
      omega
     ·rw[SP,TF,List.length_append,List.length_replicate]
      rw[show(xs.length+m)*sz=((xs.flatMap enc)++zl).length by rw[List.length_append,Q2,he.flat,Nat.add_mul]]
      exact List.take_left
  ·have hge:=grownCap_ge w (xs.length+m) cc E
   have h63:xs.length+m≤maxLen:=by simp only[maxLen];omega
   have SO:grownCap w (xs.length+m) cc E≤maxLen:=grownCap_le_maxLen w (xs.length+m) cc E h63
   have hfit:=growslice_fits (need:=xs.length+m) (old:=cc) (bytes:=bytes) (by omega) hb
   have Qg:¬(281474976710656<Builtin.nextslicecap (xs.length+m) cc*q.bytes):=by rw[h2];omega
   have TG:¬(9223372036854775807<(xs.length:Int)+(m:Int)):=by omega
   have hold:(Builtin.firstCells sz xs.length (.slice ca xs.length cc)).run P w.drew= .ok (xs.flatMap enc).toArray w.drew:=by
    rcases hF.rows with ⟨e1,e2,_⟩ | ⟨g',cap',e1,_,zW⟩
    ·simp only[Value.slice.injEq]at e1
     rw[e1.1,e2]
     exact run_firstCells_none (P:=P) w.drew sz _ _ _
    ·simp only[Value.slice.injEq]at e1
     rw[e1.1]
     obtain⟨cur',aaH,Xx,hP'⟩:=zW.ot
     refine run_firstCells_some (P:=P) w.drew sz xs.length _ _ _ (xs.flatMap enc) (he.flat xs) ?_
     intro j u hu
     rw[Addr.add_lit,Nat.zero_add]
     refine hP'.cell j ?_
     rw[←Xx,List.getElem?_take]at hu
     split at hu
     ·simpa using hu
     ·cases hu
   refine⟨.slice (some ⟨w.heap.size,0,none⟩) (xs.length+m) (grownCap w (xs.length+m) cc E),w.drew.alloc (.cells ((xs.flatMap enc).toArray++((List.replicate m z0).flatMap enc).toArray++Builtin.zeroCells zv.cells (grownCap w (xs.length+m) cc E-(xs.length+m))) E),?_,?_⟩
   ·generalize hZ:(List.replicate m z0).flatMap enc=zl at *
    by_cases LU:m*sz=0
    ·have Xw:zl=[]:=List.eq_nil_of_length_eq_zero (by omega)
     subst Xw
     simp[Builtin.append_,run_underlying hty,run_underlying TC,sizeOf,typeInfo,hq,asInt,asIntOf,I9,N0,SR,hroom,Question.forced,h1,Qg,TG,LU,hold,TD,newRow,grownCap]
    ·have hza:Builtin.zeroCells zv.cells m=zl.toArray:=by rw[←hzl,Array.toArray_toList]
     simp[Builtin.append_,run_underlying hty,run_underlying TC,sizeOf,typeInfo,hq,asInt,asIntOf,I9,N0,SR,hroom,Question.forced,h1,Qg,TG,LU,hold,TD,hza,newRow,grownCap]
     congr 2
     apply Array.ext'
     simp[List.append_assoc]
   ·refine(hF.drop.drew.alloc _).head λx hx=>.inr ⟨w.heap.size,_,_,by simp,by simpa using hge,SO,?_,?_,hx⟩
    ·simp only[Array.size_append,List.size_toArray,size_zeroCells,hzs,he.flat,List.length_replicate,←Nat.add_mul]
     congr 1
     omega
    ·rw[List.flatMap_append,List.length_append,List.length_replicate]
     simp only[Array.toList_append]
     rw[show(xs.length+m)*sz=((xs.flatMap enc)++((List.replicate m z0).flatMap enc)).length by rw[List.length_append,he.flat,he.flat,List.length_replicate,Nat.add_mul]]
     exact List.take_left
 obtain⟨v',w',hrun,zW⟩:=main
 obtain⟨a',cap',e,_,_⟩:=zW.Bl
 subst e
 refine oM hw hd hn hr ?_ (λa hr=>k a' cap' w' a zW hr)
 unfold execOp
 simp only[ho,resolve,invoke,builtin,Sem.run_bind,Sem.run_pure,Result.andThen_ok,List.map_toArray,List.map_cons,List.map_nil,hs,hx,hrun]
end
end GX
end
section
namespace GX
open Go Go.RowKit SL
def gF{α:Type}:Sem α→Prop
 | .pure _=>True
 | .load _ _ k=>∀v,gF (k v)
 | .store .. => False
 | .new _ k=>∀r,gF (k r)
 | .shape _ k=>∀s,gF (k s)
 | .freeze .. => False
 | .frozen _ k=>∀b,gF (k b)
 | .getObj _ k=>∀o,gF (k o)
 | .setObj .. => False
 | .choose _ k=>∀n,gF (k n)
 | .sys .. => False
 | .program k=>∀p,gF (k p)
 | .mark _ k=>gF k
 | .halt _=>True
def mS(w w':World):Prop:=∀ad v,w.cell? ad=some v→w'.cell? ad=some v
theorem mS.refl(w:World):mS w w:=λ_ _ h=>h
theorem mS.trans{a b c:World}(h:mS a b)(k:mS b c):mS a c:=λad v hv=>k ad v (h ad v hv)
theorem gF.run{α:Type}{P:Program}(s:Sem α):∀(w:World),gF s→∀x w',s.run P w= .ok x w'→mS w w':=by
 induction s with
 | pure a=>intro w _ x w' h;simp only[Sem.run,Result.ok.injEq]at h;rw[←h.2];exact .refl _
 | load m a k ih =>
  intro w hk x w' h
  simp only[Sem.run]at h
  split at h
  ·exact ih _ w (hk _) x w' h
  ·split at h
   ·exact ih _ w (hk _) x w' h
   ·cases h
 | store m a v k ih=>intro w hk;exact hk.elim
 | new o k ih =>
  intro w hk x w' h
  simp only[Sem.run]at h
  have h1:=ih _ _ (hk _) x w' h
  refine mS.trans (λad v hv => ?_) h1
  exact(World.cell?_alloc_lt w o ad (World.block_lt_of_cell? w ad hv)).trans hv
 | shape r k ih=>intro w hk x w' h;simp only[Sem.run]at h;exact ih _ w (hk _) x w' h
 | freeze a n k ih=>intro w hk;exact hk.elim
 | frozen a k ih=>intro w hk x w' h;simp only[Sem.run]at h;exact ih _ w (hk _) x w' h
 | getObj r k ih =>
  intro w hk x w' h
  simp only[Sem.run]at h
  split at h
  ·cases h
  ·exact ih _ w (hk _) x w' h
  ·cases h
 | setObj r o k ih=>intro w hk;exact hk.elim
 | choose q k ih =>
  intro w hk x w' h
  simp only[Sem.run]at h
  split at h
  ·exact ih _ w (hk _) x w' h
  ·exact(ih _ {w with drawn:=w.drawn+1} (hk _) x w' h:mS w w')
 | sys c k ih=>intro w hk;exact hk.elim
 | program k ih=>intro w hk x w' h;simp only[Sem.run]at h;exact ih _ w (hk _) x w' h
 | mark m k ih=>intro w hk x w' h;simp only[Sem.run]at h;exact ih w hk x w' h
 | halt e=>intro w _ x w' h;simp only[Sem.run]at h;cases h
theorem gF.bind{α β:Type}:∀(s:Sem α) (f:α→Sem β),gF s→(∀a,gF (f a))→gF (s >>= f)
 | .pure a,f,_,hf=>hf a
 | .load m a k,f,hk,hf=>λv=>gF.bind (k v) f (hk v) hf
 | .new o k,f,hk,hf=>λv=>gF.bind (k v) f (hk v) hf
 | .shape r k,f,hk,hf=>λv=>gF.bind (k v) f (hk v) hf
 | .frozen a k,f,hk,hf=>λv=>gF.bind (k v) f (hk v) hf
 | .getObj r k,f,hk,hf=>λv=>gF.bind (k v) f (hk v) hf
 | .choose q k,f,hk,hf=>λv=>gF.bind (k v) f (hk v) hf
 | .program k,f,hk,hf=>λv=>gF.bind (k v) f (hk v) hf
 | .mark m k,f,hk,hf=>gF.bind k f hk hf
 | .halt e,_,_,_=>trivial
theorem tg{α:Type}(a:α):gF (pure a:Sem α):=trivial
theorem xT:gF program:=λ_=>trivial
theorem uH(t:TypeId):gF (underlying t):=by
 unfold underlying
 refine gF.bind _ _ xT (λp => ?_)
 split
 ·exact trivial
 ·exact trivial
theorem wz(t:TypeId):gF (typeInfo t):=by
 unfold typeInfo
 refine gF.bind _ _ xT (λp => ?_)
 split
 ·exact trivial
 ·exact trivial
theorem yP(t:TypeId):gF (sizeOf t):=gF.bind _ _ (wz t) λ_=>trivial
theorem vF(t:TypeId):gF (zeroValue t):=by
 unfold zeroValue
 refine gF.bind _ _ (wz t) (λp => ?_)
 split
 ·exact trivial
 ·exact trivial
theorem FH(t:TypeId):gF (isAgg t):=by
 unfold isAgg
 refine gF.bind _ _ (uH t) (λp => ?_)
 split<;>exact trivial
theorem sG(a:Addr):∀(n i:Nat) (acc:Array Value),gF (loadCellsFrom a i n acc)
 | 0,_,_=>trivial
 | n+1,i,acc=>gF.bind _ _ (λ_=>trivial) λv=>sG a n (i+1) _
theorem Dc(t:TypeId)(a:Addr):gF (loadVar t a):=by
 unfold loadVar
 refine gF.bind _ _ (FH t) (λb => ?_)
 split
 ·exact gF.bind _ _ (yP t) λ_=>gF.bind _ _ (sG _ _ _ _) λ_=>trivial
 ·exact λ_=>trivial
theorem ve(t:TypeId)(cs:Array Value):gF (newRow t cs):=by
 unfold newRow newObj
 exact λ_=>trivial
theorem yQ(t:TypeId)(v:Value):gF (newVar t v):=ve t _
def zX(o:Oper):Bool:=
 match o.op with
 | .move _ | .assign _ | .pick .. | .alloc _ | .box .. | .load .. | .buildSlice .. | .extract .. => true
 | _=>false
theorem FJ{P:Program}{o:Oper}(h:zX o=true)(ρ:Operand→Value)(w w':World)(x:Next)(hr:(execOp ρ o).run P w= .ok x w'):(∃u,x= .value u)∧mS w w':=by
 have main:∀s:Sem Value,gF s→execOp ρ o=(do pure (.value (←s)))→(∃u,x= .value u)∧mS w w':=by
  intro s hs e
  rw[e]at hr
  refine⟨?_,gF.run _ w (gF.bind _ _ hs λ_=>tg _) x w' hr⟩
  simp only[Sem.run_bind,Sem.run_pure]at hr
  cases hx:s.run P w with
  | ok v w2 =>
   rw[hx]at hr
   simp only[Result.andThen_ok,Result.ok.injEq]at hr
   exact⟨v,hr.1.symm⟩
  | halt e w2=>rw[hx]at hr;cases hr
 unfold zX at h
 cases ho:o.op with
 | move y =>
  refine main (pure (ρ y)) trivial ?_
  unfold execOp;rw[ho];rfl
 | assign y =>
  refine main (pure (ρ y)) trivial ?_
  unfold execOp;rw[ho];rfl
 | pick c a b =>
  refine main (do pure (if←asBool (ρ c)then ρ a else ρ b)) ?_ ?_
  ·refine gF.bind _ _ ?_ (λ_=>trivial)
   unfold asBool
   split<;>exact trivial
  ·unfold execOp
   rw[ho]
   cases hc:ρ c<;>simp[asBool,stuck,hc]<;>rfl
 | alloc t =>
  refine main (Instr.alloc t true (.tuple #[])) ?_ ?_
  ·unfold Instr.alloc
   exact gF.bind _ _ (vF t) λz=>gF.bind _ _ (yQ t z) λ_=>trivial
  ·unfold execOp;rw[ho]
 | box t y =>
  refine main (Instr.box t (ρ y)) (gF.bind _ _ (yQ t _) λ_=>trivial) ?_
  unfold execOp;rw[ho]
 | load t y =>
  refine main (Instr.loadAt t (ρ y)) (gF.bind _ _ ?_ λ_=>Dc _ _) ?_
  ·unfold Instr.sureAddr
   split<;>exact trivial
  ·unfold execOp;rw[ho]
 | buildSlice t n ps =>
  refine main (Instr.buildSlice t n (ps.map λ(i,x)=>(i,ρ x))) ?_ ?_
  ·unfold Instr.buildSlice
   refine gF.bind _ _ (uH t) (λd => ?_)
   split
   ·refine gF.bind _ _ (yP _) (λsz => ?_)
    dsimp only
    split
    ·exact trivial
    ·split
     ·refine gF.bind _ _ (tg _) (λz => ?_)
      split
      ·exact gF.bind _ _ (ve _ _) λ_=>tg _
      ·exact trivial
     ·refine gF.bind _ _ (vF _) (λv=>gF.bind _ _ (tg _) (λz => ?_))
      split
      ·exact gF.bind _ _ (ve _ _) λ_=>tg _
      ·exact trivial
   ·exact trivial
  ·unfold execOp;rw[ho]
 | extract y i =>
  refine main (Instr.extract (ρ y) i) ?_ ?_
  ·unfold Instr.extract
   split
   ·split<;>exact trivial
   ·exact trivial
  ·unfold execOp;rw[ho]
 | _=>rw[ho]at h;cases h
section
variable {P:Program}{ops:Array Oper}{Q:Exit→Act→World→Prop}{a:Act}{w w0 w1:World}{o:Oper}{n d t:Nat}{v:Value}{l:List (Nat×Value)}{j e:Nat→Value}{H:bE}{md:Region.Mode}{Df:List Deferred}
def th(Q:Exit→Act→World→Prop):Prop:=∀ch (a:Act) w dst v,Q (.panic ch) (a.put dst v) w→Q (.panic ch) a w
theorem FK{fn:Func}{R:Ending→World→Prop}:th (bodyPost P fn R):=by
 intro ch a w dst v h
 cases dst<;>exact h
theorem FL{K:Act→World→Prop}(h:th Q):th (Exit.then K Q):=λch a w dst v k=>h ch a w dst v k
theorem Ed{i:Nat}(h:th Q):th (Exit.inBlock i Q):=λch a w dst v k=>h ch a w dst v k
def YD(P:Program)(ops:Array Oper)(D:World→Prop)(o:Oper)(v:Value)(a:Act):Prop:=
 (Region.wanted o (yielded ops a.tmps)=true∧∀w,D w→(execOp a.eval o).run P w= .ok (.value v) w)∨(Region.wanted o (yielded ops a.tmps)=false∧v=undef)
theorem YD.of_same{D:World→Prop}{a':Act}(hy:YD P ops D o v a)(he:execOp a'.eval o=execOp a.eval o)
 (hw:Region.wanted o (yielded ops a'.tmps)=Region.wanted o (yielded ops a.tmps)):YD P ops D o v a':=by
 unfold YD at *;rw[he,hw];exact hy
theorem YD.wpOp{D:World→Prop}{i:Nat}(hi:ops[i]? = some o)(hy:YD P ops D o v a)(hD:D w){K:Act→World→Prop}(h:K (a.put o.dst v) w):wpOp P ops Q i K a w:=by
 unfold Go.wpOp
 simp only[hi]
 rcases hy with ⟨hw,hv⟩ | ⟨hw,rfl⟩
 ·rw[fQ hw]
  left
  unfold Oper.wp
  rw[hv w hD]
  exact h
 ·rw[fh (by rw[hw];decide)]
  exact h
def FM(md:Region.Mode)(ops:Array Oper)(listed:Array Bool)(i:Nat):Nat→Nat→Bool
 | 0,_=>true
 | f+1,k=>k != i&&match ops[k]? with
  | none=>false
  | some ok=>ok.after.all λe => !Region.binds md e||listed.getD e.on false||FM md ops listed i f e.on
theorem Om{id:Nat}{lo:List Oper}(hF:Fit w0 H w)(hm:P.follows .mixedOrders=true)(k:∀w,Fit w0 H w→wpAny P .any lo.toArray Q lo.toArray.size (Array.replicate lo.toArray.size false) a w) :
 (Code.region id lo.toArray true).wp P Q a w:=wp_region_any hm (k _ hF.drew)
end
end GX
end
section
namespace GX
open Go Go.RowKit SL
section
variable {P:Program}{ops:Array Oper}{Q:Exit→Act→World→Prop}{a:Act}{w w0 w1:World}{o:Oper}{n d t:Nat}{v:Value}{l:List (Nat×Value)}{j e:Nat→Value}{H:bE}{md:Region.Mode}{C:World→Prop}{W:List Nat}{Lk:Array Bool→Act→Prop}{Df:List Deferred}
theorem L0{i:Nat}{b:Bool}(hr:cy Df n e a)(hg:o.guard=some (i,b))(hi:(ops[i]?).bind (·.dst)=some t)(ht:Nat.blt t n=true)(he:e t=undef) :
 Region.wanted o (yielded ops a.tmps)=false:=by
 have ht':t<a.tmps.size:=by rw[hr.size];exact Nat.le_of_ble_eq_true ht
 have Xp:a.tmps[t]? = some undef:=by
  have:=hr.get t
  rw[he,Array.getD_eq_getD_getElem?,Array.getElem?_eq_getElem ht']at this
  rw[Array.getElem?_eq_getElem ht']
  simpa using this
 simp only[Region.wanted,hg,yielded,hi,Option.bind_some,Xp]
 cases b<;>rfl
end
end GX
end
section
namespace GX
open Go Go.RowKit SL
section
variable {P:Program}{ops:Array Oper}{Q:Exit→Act→World→Prop}{a:Act}{w w0 w1:World}{o:Oper}{n d t:Nat}{v:Value}{l:List (Nat×Value)}{j e:Nat→Value}{md:Region.Mode}{W A:List Nat}{pre:List bE→List bE}{Ls:List bE}{Df:List Deferred}
def Ee(X:Nat→Prop):List Nat→Prop
 | []=>True
 | i::r=>X i∧Ee X r
theorem Ee.mem{X:Nat→Prop}:∀{r:List Nat},Ee X r→∀i∈r,X i
 | _::_,h,_,.head _=>h.1
 | _::_,h,_,.tail _ hm=>Ee.mem h.2 _ hm
theorem gG{X:Nat→Prop}:Ee X []:=trivial
theorem cx{X:Nat→Prop}{i:Nat}{r:List Nat}(h:X i)(k:Ee X r):Ee X (i::r):=⟨h,k⟩
end
end GX
end
section
namespace SL
open Go Go.RowKit Go.ChangeShapes Go.WideShapes
end SL
namespace GX
open Go Go.RowKit SL
section
variable {P:Program}{ops:Array Oper}{Q:Exit→Act→World→Prop}{a:Act}{w w0 w1:World}{rest:List Oper}{o:Oper}{n d t:Nat}{v:Value}{l:List (Nat×Value)}{j e:Nat→Value}{L:List bE}{H:bE}{Df:List Deferred}
variable {α:Type}{E:TypeId}{sz g cap:Nat}{enc:α→List Value}{xs:List α}
end
end GX
end
section
namespace GX
open Go Go.RowKit SL
def qd:List Value→List Value→Bool
 | .int _ a::xs,.int _ b::ys=>(a==b)&&qd xs ys
 | .bool a::xs,.bool b::ys=>(a==b)&&qd xs ys
 | _,_=>true
def xU(P:Program):Nat→List Field→List Value→List Value→Bool
 | _,[],[],[]=>true
 | i,f::fs,.int k _::xs,.int k' _::ys=>(f.name != "_")&&f.offset==i&&(match P.underlying f.type with | some (.int _)=>true | _=>false)&&k==k'&&xU P (i+1) fs xs ys
 | i,f::fs,.bool _::xs,.bool _::ys=>(f.name != "_")&&f.offset==i&&(match P.underlying f.type with | some .bool=>true | _=>false)&&xU P (i+1) fs xs ys
 | _,_,_,_=>false
section
variable {P:Program}{w:World}{o:Oper}{e:Nat→Value}
theorem ou{t:TypeId}{cs:Array Value}{i:Nat}{v:Value}(h:(match P.underlying t with | some (.int _)=>true | some .bool=>true | _=>false)=true)(hv:cs[i]? = some v):(part t cs i).run P w= .ok v w:=by
 have hu :∃d,P.underlying t=some d∧(∀fs,d≠.struct fs)∧∀n q,d≠.array n q:=by
  revert h
  cases hq:P.underlying t with
  | none=>simp
  | some d=>cases d<;>simp
 obtain⟨d,hd,h1,h2⟩:=hu
 unfold part isAgg
 simp only[Sem.run_bind,run_underlying hd,Result.andThen_ok]
 cases d<;>simp_all
theorem Ef(d:Nat)(xs ys:Array Value):∀(fs:List Field) (i:Nat) (us vs:List Value),xU P i fs us vs=true→(∀j,us[j]? = xs[i+j]?∨us.length≤j)→(∀j,vs[j]? = ys[i+j]?∨vs.length≤j)→
 (Op.eqFields (d+1) xs ys fs).run P w= .ok (qd us vs) w
 | [],_,[],[],_,_,_=>by simp[Op.eqFields,qd]
 | f::fs,i,.int k a::us,.int k' b::vs,h,hx,hy=>by
  simp only[xU,Bool.and_eq_true,bne_iff_ne,ne_eq,beq_iff_eq]at h
  obtain⟨⟨⟨⟨hn,ho⟩,ht⟩,hk⟩,hr⟩:=h
  subst hk
  have hx0:xs[i]? = some (.int k a):=by rcases hx 0 with h | h;simpa using h.symm;simp at h
  have hy0:ys[i]? = some (.int k b):=by rcases hy 0 with h | h;simpa using h.symm;simp at h
  have hty :∃kk,P.underlying f.type=some (.int kk):=by
   revert ht
   cases hq:P.underlying f.type with
   | none=>simp
   | some d=>cases d<;>simp
  obtain⟨kk,hty⟩:=hty
  have ih:=Ef d xs ys fs (i+1) us vs hr (λj=>by rcases hx (j+1)with h | h;left;simpa [Nat.add_comm,Nat.add_left_comm]using h;right;simpa using h) (λj=>by rcases hy (j+1)with h | h;left;simpa [Nat.add_comm,Nat.add_left_comm]using h;right;simpa using h)
  have pa:=ou (P:=P) (w:=w) (t:=f.type) (cs:=xs) (i:=f.offset) (v:=.int k a) (by rw[hty]) (by rw[ho];exact hx0)
  have pb:=ou (P:=P) (w:=w) (t:=f.type) (cs:=ys) (i:=f.offset) (v:=.int k b) (by rw[hty]) (by rw[ho];exact hy0)
  rw[Op.eqFields]
  simp only[fQ hn,Sem.run_bind,pa,pb,run_equalIn_int w d f.type k kk a b hty,Result.andThen_ok]
  cases hab:(a==b)
  ·simp[qd,hab]
  ·simp[qd,hab,ih]
 | f::fs,i,.bool a::us,.bool b::vs,h,hx,hy=>by
  simp only[xU,Bool.and_eq_true,bne_iff_ne,ne_eq,beq_iff_eq]at h
  obtain⟨⟨⟨hn,ho⟩,ht⟩,hr⟩:=h
  have hx0:xs[i]? = some (.bool a):=by rcases hx 0 with h | h;simpa using h.symm;simp at h
  have hy0:ys[i]? = some (.bool b):=by rcases hy 0 with h | h;simpa using h.symm;simp at h
  have hty:P.underlying f.type=some .bool:=by
   revert ht
   cases hq:P.underlying f.type with
   | none=>simp
   | some d=>cases d<;>simp
  have ih:=Ef d xs ys fs (i+1) us vs hr (λj=>by rcases hx (j+1)with h | h;left;simpa [Nat.add_comm,Nat.add_left_comm]using h;right;simpa using h) (λj=>by rcases hy (j+1)with h | h;left;simpa [Nat.add_comm,Nat.add_left_comm]using h;right;simpa using h)
  have pa:=ou (P:=P) (w:=w) (t:=f.type) (cs:=xs) (i:=f.offset) (v:=.bool a) (by rw[hty]) (by rw[ho];exact hx0)
  have pb:=ou (P:=P) (w:=w) (t:=f.type) (cs:=ys) (i:=f.offset) (v:=.bool b) (by rw[hty]) (by rw[ho];exact hy0)
  rw[Op.eqFields]
  simp only[fQ hn,Sem.run_bind,pa,pb,run_equalIn_bool' w d f.type a b hty,Result.andThen_ok]
  cases hab:(a==b)
  ·simp[qd,hab]
  ·simp[qd,hab,ih]
end
end GX
end
section
namespace GX
open Go Go.RowKit SL
theorem gd{γ:Type}{p:Prop}[Decidable p]{x:Option γ}{r:γ}(h:(if p then x else none)=some r):p∧x=some r:=by
 by_cases c:p
 ·rw[fQ c]at h;exact⟨c,h⟩
 ·rw[fh c]at h;cases h
theorem ifT{γ:Type}{p:Prop}[Decidable p]{x y:Option γ}{r:γ}(c:p)(h:(if p then x else y)=some r):x=some r:=by rw[fQ c]at h;exact h
theorem ifF{γ:Type}{p:Prop}[Decidable p]{x y:Option γ}{r:γ}(c:¬p)(h:(if p then x else y)=some r):y=some r:=by rw[fh c]at h;exact h
theorem bF{b:Bool}(h:¬b=true):b=false:=by cases b<;>simp_all
theorem gH{γ:Type}{x y:γ}(h:some x=some y):x=y:=Option.some.inj h
def Hz{γ:Type}(o:Option (Unit))(f:Option γ):Option γ:=match o with | some ()=>f | none=>none
@[simp] theorem ia{γ:Type}(f:Option γ):Hz (some ()) f=f:=rfl
@[simp] theorem TH{γ:Type}(f:Option γ):Hz none f=none:=rfl
theorem bd0{γ:Type}{o:Option (Unit)}{f:Option γ}{r:γ}(h:Hz o f=some r):o=some ()∧f=some r:=by
 match o,h with | some (),h=>exact⟨rfl,h⟩
def vg{γ:Type}(o:Option ((Unit)⊕γ))(f:Option γ):Option γ:=match o with | some (.inl ())=>f | some (.inr r)=>some r | none=>none
@[simp] theorem eP{γ:Type}(f:Option γ):vg (some (.inl ())) f=f:=rfl
@[simp] theorem sP{γ:Type}(r:γ)(f:Option γ):vg (some (.inr r)) f=some r:=rfl
@[simp] theorem TI{γ:Type}(f:Option γ):vg none f=none:=rfl
def Xy{γ:Type}(o:(Unit)⊕γ)(f:Option γ)(r:γ):Prop:=match o with | .inl ()=>f=some r | .inr x=>x=r
theorem AW{γ:Type}{o:Option ((Unit)⊕γ)}{f:Option γ}{r:γ}(h:vg o f=some r) :∃o',o=some o'∧Xy o' f r:=by
 match o,h with | some (.inl ()),h=>exact⟨_,rfl,h⟩ | some (.inr x),h=>exact⟨_,rfl,gH h⟩
theorem sQ{γ:Type}{o:(Unit)⊕γ}{f:Option γ}{r x:γ}(h:some (.inr x)=some o)(k:Xy o f r):some x=some r:=by
 have e:=gH h;subst e;exact congrArg some k
def Xz{γ:Type}(o:Unit)(f:Option γ)(r:γ):Prop:=match o with | ()=>f=some r
theorem kd0{γ:Type}{o:Option (Unit)}{f:Option γ}{r:γ}(h:Hz o f=some r) :∃o',o=some o'∧Xz o' f r:=by
 match o,h with | some (),h=>exact⟨_,rfl,h⟩
theorem AX{γ:Type}{f:Option γ}{r:γ}(k:Xy (γ:=γ) (.inl ()) f r):f=some r:=k
theorem kk0{γ:Type}{f:Option γ}{r:γ}(k:Xz (γ:=γ) () f r):f=some r:=k
def eL{cR:Type}{γ:Type}(o:Option (cR))(f:cR→Option γ):Option γ:=match o with | some x0=>f x0 | none=>none
@[simp] theorem aE{cR:Type}{γ:Type}(x0:cR)(f:cR→Option γ):eL (some x0) f=f x0:=rfl
@[simp] theorem TJ{cR:Type}{γ:Type}(f:cR→Option γ):eL none f=none:=rfl
theorem bd1{cR:Type}{γ:Type}{o:Option (cR)}{f:cR→Option γ}{r:γ}(h:eL o f=some r) :∃x0,o=some x0∧f x0=some r:=by
 match o,h with | some x0,h=>exact⟨x0,rfl,h⟩
def TK{cR:Type}{γ:Type}(o:Option ((cR)⊕γ))(f:cR→Option γ):Option γ:=match o with | some (.inl x0)=>f x0 | some (.inr r)=>some r | none=>none
@[simp] theorem Ja{cR:Type}{γ:Type}(x0:cR)(f:cR→Option γ):TK (some (.inl x0)) f=f x0:=rfl
@[simp] theorem Wt{cR:Type}{γ:Type}(r:γ)(f:cR→Option γ):TK (some (.inr r)) f=some r:=rfl
@[simp] theorem TL{cR:Type}{γ:Type}(f:cR→Option γ):TK none f=none:=rfl
def XA{cR:Type}{γ:Type}(o:(cR)⊕γ)(f:cR→Option γ)(r:γ):Prop:=match o with | .inl x0=>f x0=some r | .inr x=>x=r
theorem jd1{cR:Type}{γ:Type}{o:Option ((cR)⊕γ)}{f:cR→Option γ}{r:γ}(h:TK o f=some r) :∃o',o=some o'∧XA o' f r:=by
 match o,h with | some (.inl x0),h=>exact⟨_,rfl,h⟩ | some (.inr x),h=>exact⟨_,rfl,gH h⟩
theorem jx1{cR:Type}{γ:Type}{o:(cR)⊕γ}{f:cR→Option γ}{r x:γ}(h:some (.inr x)=some o)(k:XA o f r):some x=some r:=by
 have e:=gH h;subst e;exact congrArg some k
def SS{cR:Type}{γ:Type}(o:cR)(f:cR→Option γ)(r:γ):Prop:=match o with | x0=>f x0=some r
theorem kd1{cR:Type}{γ:Type}{o:Option (cR)}{f:cR→Option γ}{r:γ}(h:eL o f=some r) :∃o',o=some o'∧SS o' f r:=by
 match o,h with | some x0,h=>exact⟨_,rfl,h⟩
theorem jk1{cR:Type}{γ:Type}{f:cR→Option γ}{r:γ}{x0:cR}(k:XA (γ:=γ) (.inl x0) f r):f x0=some r:=k
theorem Eg{cR:Type}{γ:Type}{f:cR→Option γ}{r:γ}{x0:cR}(k:SS (γ:=γ) x0 f r):f x0=some r:=k
def pL{cR dI:Type}{γ:Type}(o:Option (cR×dI))(f:cR→dI→Option γ):Option γ:=match o with | some (x0,x1)=>f x0 x1 | none=>none
@[simp] theorem ej{cR dI:Type}{γ:Type}(x0:cR)(x1:dI)(f:cR→dI→Option γ):pL (some (x0,x1)) f=f x0 x1:=rfl
@[simp] theorem TM{cR dI:Type}{γ:Type}(f:cR→dI→Option γ):pL none f=none:=rfl
theorem bd2{cR dI:Type}{γ:Type}{o:Option (cR×dI)}{f:cR→dI→Option γ}{r:γ}(h:pL o f=some r) :∃x0 x1,o=some (x0,x1)∧f x0 x1=some r:=by
 match o,h with | some (x0,x1),h=>exact⟨x0,x1,rfl,h⟩
def TN{cR dI:Type}{γ:Type}(o:Option ((cR×dI)⊕γ))(f:cR→dI→Option γ):Option γ:=match o with | some (.inl (x0,x1))=>f x0 x1 | some (.inr r)=>some r | none=>none
@[simp] theorem On{cR dI:Type}{γ:Type}(x0:cR)(x1:dI)(f:cR→dI→Option γ):TN (some (.inl (x0,x1))) f=f x0 x1:=rfl
@[simp] theorem Oo{cR dI:Type}{γ:Type}(r:γ)(f:cR→dI→Option γ):TN (some (.inr r)) f=some r:=rfl
@[simp] theorem TP{cR dI:Type}{γ:Type}(f:cR→dI→Option γ):TN none f=none:=rfl
def XB{cR dI:Type}{γ:Type}(o:(cR×dI)⊕γ)(f:cR→dI→Option γ)(r:γ):Prop:=match o with | .inl (x0,x1)=>f x0 x1=some r | .inr x=>x=r
theorem jd2{cR dI:Type}{γ:Type}{o:Option ((cR×dI)⊕γ)}{f:cR→dI→Option γ}{r:γ}(h:TN o f=some r) :∃o',o=some o'∧XB o' f r:=by
 match o,h with | some (.inl (x0,x1)),h=>exact⟨_,rfl,h⟩ | some (.inr x),h=>exact⟨_,rfl,gH h⟩
theorem jx2{cR dI:Type}{γ:Type}{o:(cR×dI)⊕γ}{f:cR→dI→Option γ}{r x:γ}(h:some (.inr x)=some o)(k:XB o f r):some x=some r:=by
 have e:=gH h;subst e;exact congrArg some k
def SU{cR dI:Type}{γ:Type}(o:cR×dI)(f:cR→dI→Option γ)(r:γ):Prop:=match o with | (x0,x1)=>f x0 x1=some r
theorem kd2{cR dI:Type}{γ:Type}{o:Option (cR×dI)}{f:cR→dI→Option γ}{r:γ}(h:pL o f=some r) :∃o',o=some o'∧SU o' f r:=by
 match o,h with | some (x0,x1),h=>exact⟨_,rfl,h⟩
theorem jk2{cR dI:Type}{γ:Type}{f:cR→dI→Option γ}{r:γ}{x0:cR}{x1:dI}(k:XB (γ:=γ) (.inl (x0,x1)) f r):f x0 x1=some r:=k
theorem kk2{cR dI:Type}{γ:Type}{f:cR→dI→Option γ}{r:γ}{x0:cR}{x1:dI}(k:SU (γ:=γ) (x0,x1) f r):f x0 x1=some r:=k
def nC{cR dI eK:Type}{γ:Type}(o:Option (cR×dI×eK))(f:cR→dI→eK→Option γ):Option γ:=match o with | some (x0,x1,x2)=>f x0 x1 x2 | none=>none
@[simp] theorem cW{cR dI eK:Type}{γ:Type}(x0:cR)(x1:dI)(x2:eK)(f:cR→dI→eK→Option γ):nC (some (x0,x1,x2)) f=f x0 x1 x2:=rfl
@[simp] theorem TQ{cR dI eK:Type}{γ:Type}(f:cR→dI→eK→Option γ):nC none f=none:=rfl
theorem bd3{cR dI eK:Type}{γ:Type}{o:Option (cR×dI×eK)}{f:cR→dI→eK→Option γ}{r:γ}(h:nC o f=some r) :∃x0 x1 x2,o=some (x0,x1,x2)∧f x0 x1 x2=some r:=by
 match o,h with | some (x0,x1,x2),h=>exact⟨x0,x1,x2,rfl,h⟩
def TR{cR dI eK:Type}{γ:Type}(o:Option ((cR×dI×eK)⊕γ))(f:cR→dI→eK→Option γ):Option γ:=match o with | some (.inl (x0,x1,x2))=>f x0 x1 x2 | some (.inr r)=>some r | none=>none
@[simp] theorem Oq{cR dI eK:Type}{γ:Type}(x0:cR)(x1:dI)(x2:eK)(f:cR→dI→eK→Option γ):TR (some (.inl (x0,x1,x2))) f=f x0 x1 x2:=rfl
@[simp] theorem Wu{cR dI eK:Type}{γ:Type}(r:γ)(f:cR→dI→eK→Option γ):TR (some (.inr r)) f=some r:=rfl
@[simp] theorem TS{cR dI eK:Type}{γ:Type}(f:cR→dI→eK→Option γ):TR none f=none:=rfl
def XC{cR dI eK:Type}{γ:Type}(o:(cR×dI×eK)⊕γ)(f:cR→dI→eK→Option γ)(r:γ):Prop:=match o with | .inl (x0,x1,x2)=>f x0 x1 x2=some r | .inr x=>x=r
theorem jd3{cR dI eK:Type}{γ:Type}{o:Option ((cR×dI×eK)⊕γ)}{f:cR→dI→eK→Option γ}{r:γ}(h:TR o f=some r) :∃o',o=some o'∧XC o' f r:=by
 match o,h with | some (.inl (x0,x1,x2)),h=>exact⟨_,rfl,h⟩ | some (.inr x),h=>exact⟨_,rfl,gH h⟩
theorem jx3{cR dI eK:Type}{γ:Type}{o:(cR×dI×eK)⊕γ}{f:cR→dI→eK→Option γ}{r x:γ}(h:some (.inr x)=some o)(k:XC o f r):some x=some r:=by
 have e:=gH h;subst e;exact congrArg some k
def SV{cR dI eK:Type}{γ:Type}(o:cR×dI×eK)(f:cR→dI→eK→Option γ)(r:γ):Prop:=match o with | (x0,x1,x2)=>f x0 x1 x2=some r
theorem kd3{cR dI eK:Type}{γ:Type}{o:Option (cR×dI×eK)}{f:cR→dI→eK→Option γ}{r:γ}(h:nC o f=some r) :∃o',o=some o'∧SV o' f r:=by
 match o,h with | some (x0,x1,x2),h=>exact⟨_,rfl,h⟩
theorem jk3{cR dI eK:Type}{γ:Type}{f:cR→dI→eK→Option γ}{r:γ}{x0:cR}{x1:dI}{x2:eK}(k:XC (γ:=γ) (.inl (x0,x1,x2)) f r):f x0 x1 x2=some r:=k
theorem kk3{cR dI eK:Type}{γ:Type}{f:cR→dI→eK→Option γ}{r:γ}{x0:cR}{x1:dI}{x2:eK}(k:SV (γ:=γ) (x0,x1,x2) f r):f x0 x1 x2=some r:=k
def C2{cR dI eK fN:Type}{γ:Type}(o:Option (cR×dI×eK×fN))(f:cR→dI→eK→fN→Option γ):Option γ:=match o with | some (x0,x1,x2,x3)=>f x0 x1 x2 x3 | none=>none
@[simp] theorem fz{cR dI eK fN:Type}{γ:Type}(x0:cR)(x1:dI)(x2:eK)(x3:fN)(f:cR→dI→eK→fN→Option γ):C2 (some (x0,x1,x2,x3)) f=f x0 x1 x2 x3:=rfl
@[simp] theorem TT{cR dI eK fN:Type}{γ:Type}(f:cR→dI→eK→fN→Option γ):C2 none f=none:=rfl
theorem bd4{cR dI eK fN:Type}{γ:Type}{o:Option (cR×dI×eK×fN)}{f:cR→dI→eK→fN→Option γ}{r:γ}(h:C2 o f=some r) :∃x0 x1 x2 x3,o=some (x0,x1,x2,x3)∧f x0 x1 x2 x3=some r:=by
 match o,h with | some (x0,x1,x2,x3),h=>exact⟨x0,x1,x2,x3,rfl,h⟩
def XD{cR dI eK fN:Type}{γ:Type}(o:Option ((cR×dI×eK×fN)⊕γ))(f:cR→dI→eK→fN→Option γ):Option γ:=match o with | some (.inl (x0,x1,x2,x3))=>f x0 x1 x2 x3 | some (.inr r)=>some r | none=>none
@[simp] theorem Wv{cR dI eK fN:Type}{γ:Type}(x0:cR)(x1:dI)(x2:eK)(x3:fN)(f:cR→dI→eK→fN→Option γ):XD (some (.inl (x0,x1,x2,x3))) f=f x0 x1 x2 x3:=rfl
@[simp] theorem Ww{cR dI eK fN:Type}{γ:Type}(r:γ)(f:cR→dI→eK→fN→Option γ):XD (some (.inr r)) f=some r:=rfl
@[simp] theorem TU{cR dI eK fN:Type}{γ:Type}(f:cR→dI→eK→fN→Option γ):XD none f=none:=rfl
def XE{cR dI eK fN:Type}{γ:Type}(o:cR×dI×eK×fN)(f:cR→dI→eK→fN→Option γ)(r:γ):Prop:=match o with | (x0,x1,x2,x3)=>f x0 x1 x2 x3=some r
def TV{cR dI eK fN gI:Type}{γ:Type}(o:Option (cR×dI×eK×fN×gI))(f:cR→dI→eK→fN→gI→Option γ):Option γ:=match o with | some (x0,x1,x2,x3,x4)=>f x0 x1 x2 x3 x4 | none=>none
@[simp] theorem L1{cR dI eK fN gI:Type}{γ:Type}(x0:cR)(x1:dI)(x2:eK)(x3:fN)(x4:gI)(f:cR→dI→eK→fN→gI→Option γ):TV (some (x0,x1,x2,x3,x4)) f=f x0 x1 x2 x3 x4:=rfl
@[simp] theorem TW{cR dI eK fN gI:Type}{γ:Type}(f:cR→dI→eK→fN→gI→Option γ):TV none f=none:=rfl
theorem bd5{cR dI eK fN gI:Type}{γ:Type}{o:Option (cR×dI×eK×fN×gI)}{f:cR→dI→eK→fN→gI→Option γ}{r:γ}(h:TV o f=some r) :∃x0 x1 x2 x3 x4,o=some (x0,x1,x2,x3,x4)∧f x0 x1 x2 x3 x4=some r:=by
 match o,h with | some (x0,x1,x2,x3,x4),h=>exact⟨x0,x1,x2,x3,x4,rfl,h⟩
theorem yR{cR dI eK fN gI:Type}{x0 y0:cR}{x1 y1:dI}{x2 y2:eK}{x3 y3:fN}{x4 y4:gI}(h:some (x0,x1,x2,x3,x4)=some (y0,y1,y2,y3,y4)):x0=y0∧x1=y1∧x2=y2∧x3=y3∧x4=y4:=by
 simpa using h
def XF{cR dI eK fN gI:Type}{γ:Type}(o:Option ((cR×dI×eK×fN×gI)⊕γ))(f:cR→dI→eK→fN→gI→Option γ):Option γ:=match o with | some (.inl (x0,x1,x2,x3,x4))=>f x0 x1 x2 x3 x4 | some (.inr r)=>some r | none=>none
@[simp] theorem Wx{cR dI eK fN gI:Type}{γ:Type}(x0:cR)(x1:dI)(x2:eK)(x3:fN)(x4:gI)(f:cR→dI→eK→fN→gI→Option γ):XF (some (.inl (x0,x1,x2,x3,x4))) f=f x0 x1 x2 x3 x4:=rfl
@[simp] theorem Wy{cR dI eK fN gI:Type}{γ:Type}(r:γ)(f:cR→dI→eK→fN→gI→Option γ):XF (some (.inr r)) f=some r:=rfl
@[simp] theorem TX{cR dI eK fN gI:Type}{γ:Type}(f:cR→dI→eK→fN→gI→Option γ):XF none f=none:=rfl
def TY{cR dI eK fN gI:Type}{γ:Type}(o:cR×dI×eK×fN×gI)(f:cR→dI→eK→fN→gI→Option γ)(r:γ):Prop:=match o with | (x0,x1,x2,x3,x4)=>f x0 x1 x2 x3 x4=some r
def ob6{cR dI eK fN gI iV:Type}{γ:Type}(o:Option (cR×dI×eK×fN×gI×iV))(f:cR→dI→eK→fN→gI→iV→Option γ):Option γ:=match o with | some (x0,x1,x2,x3,x4,x5)=>f x0 x1 x2 x3 x4 x5 | none=>none
@[simp] theorem TZ{cR dI eK fN gI iV:Type}{γ:Type}(x0:cR)(x1:dI)(x2:eK)(x3:fN)(x4:gI)(x5:iV)(f:cR→dI→eK→fN→gI→iV→Option γ):ob6 (some (x0,x1,x2,x3,x4,x5)) f=f x0 x1 x2 x3 x4 x5:=rfl
@[simp] theorem T0{cR dI eK fN gI iV:Type}{γ:Type}(f:cR→dI→eK→fN→gI→iV→Option γ):ob6 none f=none:=rfl
def XG{cR dI eK fN gI iV:Type}{γ:Type}(o:Option ((cR×dI×eK×fN×gI×iV)⊕γ))(f:cR→dI→eK→fN→gI→iV→Option γ):Option γ:=match o with | some (.inl (x0,x1,x2,x3,x4,x5))=>f x0 x1 x2 x3 x4 x5 | some (.inr r)=>some r | none=>none
@[simp] theorem Wz{cR dI eK fN gI iV:Type}{γ:Type}(x0:cR)(x1:dI)(x2:eK)(x3:fN)(x4:gI)(x5:iV)(f:cR→dI→eK→fN→gI→iV→Option γ):XG (some (.inl (x0,x1,x2,x3,x4,x5))) f=f x0 x1 x2 x3 x4 x5:=rfl
@[simp] theorem WA{cR dI eK fN gI iV:Type}{γ:Type}(r:γ)(f:cR→dI→eK→fN→gI→iV→Option γ):XG (some (.inr r)) f=some r:=rfl
@[simp] theorem T1{cR dI eK fN gI iV:Type}{γ:Type}(f:cR→dI→eK→fN→gI→iV→Option γ):XG none f=none:=rfl
def XH{cR dI eK fN gI iV:Type}{γ:Type}(o:cR×dI×eK×fN×gI×iV)(f:cR→dI→eK→fN→gI→iV→Option γ)(r:γ):Prop:=match o with | (x0,x1,x2,x3,x4,x5)=>f x0 x1 x2 x3 x4 x5=some r
def ob7{cR dI eK fN gI iV jW:Type}{γ:Type}(o:Option (cR×dI×eK×fN×gI×iV×jW))(f:cR→dI→eK→fN→gI→iV→jW→Option γ):Option γ:=match o with | some (x0,x1,x2,x3,x4,x5,x6)=>f x0 x1 x2 x3 x4 x5 x6 | none=>none
@[simp] theorem T3{cR dI eK fN gI iV jW:Type}{γ:Type}(x0:cR)(x1:dI)(x2:eK)(x3:fN)(x4:gI)(x5:iV)(x6:jW)(f:cR→dI→eK→fN→gI→iV→jW→Option γ):ob7 (some (x0,x1,x2,x3,x4,x5,x6)) f=f x0 x1 x2 x3 x4 x5 x6:=rfl
@[simp] theorem T4{cR dI eK fN gI iV jW:Type}{γ:Type}(f:cR→dI→eK→fN→gI→iV→jW→Option γ):ob7 none f=none:=rfl
def XI{cR dI eK fN gI iV jW:Type}{γ:Type}(o:Option ((cR×dI×eK×fN×gI×iV×jW)⊕γ))(f:cR→dI→eK→fN→gI→iV→jW→Option γ):Option γ:=match o with | some (.inl (x0,x1,x2,x3,x4,x5,x6))=>f x0 x1 x2 x3 x4 x5 x6 | some (.inr r)=>some r | none=>none
@[simp] theorem WB{cR dI eK fN gI iV jW:Type}{γ:Type}(x0:cR)(x1:dI)(x2:eK)(x3:fN)(x4:gI)(x5:iV)(x6:jW)(f:cR→dI→eK→fN→gI→iV→jW→Option γ):XI (some (.inl (x0,x1,x2,x3,x4,x5,x6))) f=f x0 x1 x2 x3 x4 x5 x6:=rfl
@[simp] theorem WC{cR dI eK fN gI iV jW:Type}{γ:Type}(r:γ)(f:cR→dI→eK→fN→gI→iV→jW→Option γ):XI (some (.inr r)) f=some r:=rfl
@[simp] theorem T5{cR dI eK fN gI iV jW:Type}{γ:Type}(f:cR→dI→eK→fN→gI→iV→jW→Option γ):XI none f=none:=rfl
def XJ{cR dI eK fN gI iV jW:Type}{γ:Type}(o:cR×dI×eK×fN×gI×iV×jW)(f:cR→dI→eK→fN→gI→iV→jW→Option γ)(r:γ):Prop:=match o with | (x0,x1,x2,x3,x4,x5,x6)=>f x0 x1 x2 x3 x4 x5 x6=some r
def ob8{cR dI eK fN gI iV jW lD:Type}{γ:Type}(o:Option (cR×dI×eK×fN×gI×iV×jW×lD))(f:cR→dI→eK→fN→gI→iV→jW→lD→Option γ):Option γ:=match o with | some (x0,x1,x2,x3,x4,x5,x6,x7)=>f x0 x1 x2 x3 x4 x5 x6 x7 | none=>none
@[simp] theorem T6{cR dI eK fN gI iV jW lD:Type}{γ:Type}(x0:cR)(x1:dI)(x2:eK)(x3:fN)(x4:gI)(x5:iV)(x6:jW)(x7:lD)(f:cR→dI→eK→fN→gI→iV→jW→lD→Option γ):ob8 (some (x0,x1,x2,x3,x4,x5,x6,x7)) f=f x0 x1 x2 x3 x4 x5 x6 x7:=rfl
@[simp] theorem T7{cR dI eK fN gI iV jW lD:Type}{γ:Type}(f:cR→dI→eK→fN→gI→iV→jW→lD→Option γ):ob8 none f=none:=rfl
def XK{cR dI eK fN gI iV jW lD:Type}{γ:Type}(o:Option ((cR×dI×eK×fN×gI×iV×jW×lD)⊕γ))(f:cR→dI→eK→fN→gI→iV→jW→lD→Option γ):Option γ:=match o with | some (.inl (x0,x1,x2,x3,x4,x5,x6,x7))=>f x0 x1 x2 x3 x4 x5 x6 x7 | some (.inr r)=>some r | none=>none
@[simp] theorem WD{cR dI eK fN gI iV jW lD:Type}{γ:Type}(x0:cR)(x1:dI)(x2:eK)(x3:fN)(x4:gI)(x5:iV)(x6:jW)(x7:lD)(f:cR→dI→eK→fN→gI→iV→jW→lD→Option γ):XK (some (.inl (x0,x1,x2,x3,x4,x5,x6,x7))) f=f x0 x1 x2 x3 x4 x5 x6 x7:=rfl
@[simp] theorem WE{cR dI eK fN gI iV jW lD:Type}{γ:Type}(r:γ)(f:cR→dI→eK→fN→gI→iV→jW→lD→Option γ):XK (some (.inr r)) f=some r:=rfl
@[simp] theorem T8{cR dI eK fN gI iV jW lD:Type}{γ:Type}(f:cR→dI→eK→fN→gI→iV→jW→lD→Option γ):XK none f=none:=rfl
def XL{cR dI eK fN gI iV jW lD:Type}{γ:Type}(o:cR×dI×eK×fN×gI×iV×jW×lD)(f:cR→dI→eK→fN→gI→iV→jW→lD→Option γ)(r:γ):Prop:=match o with | (x0,x1,x2,x3,x4,x5,x6,x7)=>f x0 x1 x2 x3 x4 x5 x6 x7=some r
def ob9{cR dI eK fN gI iV jW lD nY:Type}{γ:Type}(o:Option (cR×dI×eK×fN×gI×iV×jW×lD×nY))(f:cR→dI→eK→fN→gI→iV→jW→lD→nY→Option γ):Option γ:=match o with | some (x0,x1,x2,x3,x4,x5,x6,x7,x8)=>f x0 x1 x2 x3 x4 x5 x6 x7 x8 | none=>none
@[simp] theorem T9{cR dI eK fN gI iV jW lD nY:Type}{γ:Type}(x0:cR)(x1:dI)(x2:eK)(x3:fN)(x4:gI)(x5:iV)(x6:jW)(x7:lD)(x8:nY)(f:cR→dI→eK→fN→gI→iV→jW→lD→nY→Option γ):ob9 (some (x0,x1,x2,x3,x4,x5,x6,x7,x8)) f=f x0 x1 x2 x3 x4 x5 x6 x7 x8:=rfl
@[simp] theorem Ua{cR dI eK fN gI iV jW lD nY:Type}{γ:Type}(f:cR→dI→eK→fN→gI→iV→jW→lD→nY→Option γ):ob9 none f=none:=rfl
def XM{cR dI eK fN gI iV jW lD nY:Type}{γ:Type}(o:Option ((cR×dI×eK×fN×gI×iV×jW×lD×nY)⊕γ))(f:cR→dI→eK→fN→gI→iV→jW→lD→nY→Option γ):Option γ:=match o with | some (.inl (x0,x1,x2,x3,x4,x5,x6,x7,x8))=>f x0 x1 x2 x3 x4 x5 x6 x7 x8 | some (.inr r)=>some r | none=>none
@[simp] theorem WG{cR dI eK fN gI iV jW lD nY:Type}{γ:Type}(x0:cR)(x1:dI)(x2:eK)(x3:fN)(x4:gI)(x5:iV)(x6:jW)(x7:lD)(x8:nY)(f:cR→dI→eK→fN→gI→iV→jW→lD→nY→Option γ):XM (some (.inl (x0,x1,x2,x3,x4,x5,x6,x7,x8))) f=f x0 x1 x2 x3 x4 x5 x6 x7 x8:=rfl
@[simp] theorem WH{cR dI eK fN gI iV jW lD nY:Type}{γ:Type}(r:γ)(f:cR→dI→eK→fN→gI→iV→jW→lD→nY→Option γ):XM (some (.inr r)) f=some r:=rfl
@[simp] theorem Ub{cR dI eK fN gI iV jW lD nY:Type}{γ:Type}(f:cR→dI→eK→fN→gI→iV→jW→lD→nY→Option γ):XM none f=none:=rfl
def WI{cR dI eK fN gI iV jW lD nY:Type}{γ:Type}(o:cR×dI×eK×fN×gI×iV×jW×lD×nY)(f:cR→dI→eK→fN→gI→iV→jW→lD→nY→Option γ)(r:γ):Prop:=match o with | (x0,x1,x2,x3,x4,x5,x6,x7,x8)=>f x0 x1 x2 x3 x4 x5 x6 x7 x8=some r
def Uc{cR dI eK fN gI iV jW lD nY qf:Type}{γ:Type}(o:Option (cR×dI×eK×fN×gI×iV×jW×lD×nY×qf))(f:cR→dI→eK→fN→gI→iV→jW→lD→nY→qf→Option γ):Option γ:=match o with | some (x0,x1,x2,x3,x4,x5,x6,x7,x8,x9)=>f x0 x1 x2 x3 x4 x5 x6 x7 x8 x9 | none=>none
@[simp] theorem SW{cR dI eK fN gI iV jW lD nY qf:Type}{γ:Type}(x0:cR)(x1:dI)(x2:eK)(x3:fN)(x4:gI)(x5:iV)(x6:jW)(x7:lD)(x8:nY)(x9:qf)(f:cR→dI→eK→fN→gI→iV→jW→lD→nY→qf→Option γ):Uc (some (x0,x1,x2,x3,x4,x5,x6,x7,x8,x9)) f=f x0 x1 x2 x3 x4 x5 x6 x7 x8 x9:=rfl
@[simp] theorem SX{cR dI eK fN gI iV jW lD nY qf:Type}{γ:Type}(f:cR→dI→eK→fN→gI→iV→jW→lD→nY→qf→Option γ):Uc none f=none:=rfl
def Q3{cR dI eK fN gI iV jW lD nY qf:Type}{γ:Type}(o:Option ((cR×dI×eK×fN×gI×iV×jW×lD×nY×qf)⊕γ))(f:cR→dI→eK→fN→gI→iV→jW→lD→nY→qf→Option γ):Option γ:=match o with | some (.inl (x0,x1,x2,x3,x4,x5,x6,x7,x8,x9))=>f x0 x1 x2 x3 x4 x5 x6 x7 x8 x9 | some (.inr r)=>some r | none=>none
@[simp] theorem Ud{cR dI eK fN gI iV jW lD nY qf:Type}{γ:Type}(x0:cR)(x1:dI)(x2:eK)(x3:fN)(x4:gI)(x5:iV)(x6:jW)(x7:lD)(x8:nY)(x9:qf)(f:cR→dI→eK→fN→gI→iV→jW→lD→nY→qf→Option γ):Q3 (some (.inl (x0,x1,x2,x3,x4,x5,x6,x7,x8,x9))) f=f x0 x1 x2 x3 x4 x5 x6 x7 x8 x9:=rfl
@[simp] theorem Ue{cR dI eK fN gI iV jW lD nY qf:Type}{γ:Type}(r:γ)(f:cR→dI→eK→fN→gI→iV→jW→lD→nY→qf→Option γ):Q3 (some (.inr r)) f=some r:=rfl
@[simp] theorem SY{cR dI eK fN gI iV jW lD nY qf:Type}{γ:Type}(f:cR→dI→eK→fN→gI→iV→jW→lD→nY→qf→Option γ):Q3 none f=none:=rfl
def Q4{cR dI eK fN gI iV jW lD nY qf:Type}{γ:Type}(o:cR×dI×eK×fN×gI×iV×jW×lD×nY×qf)(f:cR→dI→eK→fN→gI→iV→jW→lD→nY→qf→Option γ)(r:γ):Prop:=match o with | (x0,x1,x2,x3,x4,x5,x6,x7,x8,x9)=>f x0 x1 x2 x3 x4 x5 x6 x7 x8 x9=some r
def Uf{cR dI eK fN gI iV jW lD nY qf oc:Type}{γ:Type}(o:Option (cR×dI×eK×fN×gI×iV×jW×lD×nY×qf×oc))(f:cR→dI→eK→fN→gI→iV→jW→lD→nY→qf→oc→Option γ):Option γ:=match o with | some (x0,x1,x2,x3,x4,x5,x6,x7,x8,x9,xV)=>f x0 x1 x2 x3 x4 x5 x6 x7 x8 x9 xV | none=>none
@[simp] theorem S1{cR dI eK fN gI iV jW lD nY qf oc:Type}{γ:Type}(x0:cR)(x1:dI)(x2:eK)(x3:fN)(x4:gI)(x5:iV)(x6:jW)(x7:lD)(x8:nY)(x9:qf)(xV:oc)(f:cR→dI→eK→fN→gI→iV→jW→lD→nY→qf→oc→Option γ):Uf (some (x0,x1,x2,x3,x4,x5,x6,x7,x8,x9,xV)) f=f x0 x1 x2 x3 x4 x5 x6 x7 x8 x9 xV:=rfl
@[simp] theorem S2{cR dI eK fN gI iV jW lD nY qf oc:Type}{γ:Type}(f:cR→dI→eK→fN→gI→iV→jW→lD→nY→qf→oc→Option γ):Uf none f=none:=rfl
def Q5{cR dI eK fN gI iV jW lD nY qf oc:Type}{γ:Type}(o:Option ((cR×dI×eK×fN×gI×iV×jW×lD×nY×qf×oc)⊕γ))(f:cR→dI→eK→fN→gI→iV→jW→lD→nY→qf→oc→Option γ):Option γ:=match o with | some (.inl (x0,x1,x2,x3,x4,x5,x6,x7,x8,x9,xV))=>f x0 x1 x2 x3 x4 x5 x6 x7 x8 x9 xV | some (.inr r)=>some r | none=>none
@[simp] theorem Ug{cR dI eK fN gI iV jW lD nY qf oc:Type}{γ:Type}(x0:cR)(x1:dI)(x2:eK)(x3:fN)(x4:gI)(x5:iV)(x6:jW)(x7:lD)(x8:nY)(x9:qf)(xV:oc)(f:cR→dI→eK→fN→gI→iV→jW→lD→nY→qf→oc→Option γ):Q5 (some (.inl (x0,x1,x2,x3,x4,x5,x6,x7,x8,x9,xV))) f=f x0 x1 x2 x3 x4 x5 x6 x7 x8 x9 xV:=rfl
@[simp] theorem Uh{cR dI eK fN gI iV jW lD nY qf oc:Type}{γ:Type}(r:γ)(f:cR→dI→eK→fN→gI→iV→jW→lD→nY→qf→oc→Option γ):Q5 (some (.inr r)) f=some r:=rfl
@[simp] theorem S4{cR dI eK fN gI iV jW lD nY qf oc:Type}{γ:Type}(f:cR→dI→eK→fN→gI→iV→jW→lD→nY→qf→oc→Option γ):Q5 none f=none:=rfl
def Q6{cR dI eK fN gI iV jW lD nY qf oc:Type}{γ:Type}(o:cR×dI×eK×fN×gI×iV×jW×lD×nY×qf×oc)(f:cR→dI→eK→fN→gI→iV→jW→lD→nY→qf→oc→Option γ)(r:γ):Prop:=match o with | (x0,x1,x2,x3,x4,x5,x6,x7,x8,x9,xV)=>f x0 x1 x2 x3 x4 x5 x6 x7 x8 x9 xV=some r
def Ui{cR dI eK fN gI iV jW lD nY qf oc wA:Type}{γ:Type}(o:Option (cR×dI×eK×fN×gI×iV×jW×lD×nY×qf×oc×wA))(f:cR→dI→eK→fN→gI→iV→jW→lD→nY→qf→oc→wA→Option γ):Option γ:=match o with | some (x0,x1,x2,x3,x4,x5,x6,x7,x8,x9,xV,tN)=>f x0 x1 x2 x3 x4 x5 x6 x7 x8 x9 xV tN | none=>none
@[simp] theorem S5{cR dI eK fN gI iV jW lD nY qf oc wA:Type}{γ:Type}(x0:cR)(x1:dI)(x2:eK)(x3:fN)(x4:gI)(x5:iV)(x6:jW)(x7:lD)(x8:nY)(x9:qf)(xV:oc)(tN:wA)(f:cR→dI→eK→fN→gI→iV→jW→lD→nY→qf→oc→wA→Option γ):Ui (some (x0,x1,x2,x3,x4,x5,x6,x7,x8,x9,xV,tN)) f=f x0 x1 x2 x3 x4 x5 x6 x7 x8 x9 xV tN:=rfl
@[simp] theorem Ta{cR dI eK fN gI iV jW lD nY qf oc wA:Type}{γ:Type}(f:cR→dI→eK→fN→gI→iV→jW→lD→nY→qf→oc→wA→Option γ):Ui none f=none:=rfl
def Q7{cR dI eK fN gI iV jW lD nY qf oc wA:Type}{γ:Type}(o:Option ((cR×dI×eK×fN×gI×iV×jW×lD×nY×qf×oc×wA)⊕γ))(f:cR→dI→eK→fN→gI→iV→jW→lD→nY→qf→oc→wA→Option γ):Option γ:=match o with | some (.inl (x0,x1,x2,x3,x4,x5,x6,x7,x8,x9,xV,tN))=>f x0 x1 x2 x3 x4 x5 x6 x7 x8 x9 xV tN | some (.inr r)=>some r | none=>none
@[simp] theorem Uj{cR dI eK fN gI iV jW lD nY qf oc wA:Type}{γ:Type}(x0:cR)(x1:dI)(x2:eK)(x3:fN)(x4:gI)(x5:iV)(x6:jW)(x7:lD)(x8:nY)(x9:qf)(xV:oc)(tN:wA)(f:cR→dI→eK→fN→gI→iV→jW→lD→nY→qf→oc→wA→Option γ):Q7 (some (.inl (x0,x1,x2,x3,x4,x5,x6,x7,x8,x9,xV,tN))) f=f x0 x1 x2 x3 x4 x5 x6 x7 x8 x9 xV tN:=rfl
@[simp] theorem Uk{cR dI eK fN gI iV jW lD nY qf oc wA:Type}{γ:Type}(r:γ)(f:cR→dI→eK→fN→gI→iV→jW→lD→nY→qf→oc→wA→Option γ):Q7 (some (.inr r)) f=some r:=rfl
@[simp] theorem Tb{cR dI eK fN gI iV jW lD nY qf oc wA:Type}{γ:Type}(f:cR→dI→eK→fN→gI→iV→jW→lD→nY→qf→oc→wA→Option γ):Q7 none f=none:=rfl
abbrev wi(x:Int):Int:=IntKind.i64.wrap x
theorem eM{x:Int}(h:-9223372036854775808≤x∧x≤9223372036854775807):wi x=x:=i64_in x h
abbrev bT(i:Int)(n:Nat):Prop:=0≤i∧i<(n:Int)
theorem bf{α:Type}[Inhabited α]{l:List α}{i:Int}(h:bT i l.length):l[i.toNat]? = some (ag l i.toNat):=get_at (by have:=h.1;have:=h.2;omega)
theorem ef{α:Type}[Inhabited α]{l:List α}{i:Int}(h:bT i l.length):i.toNat<l.length:=by have:=h.1;have:=h.2;omega
def dK(x:Int):List Value:=[.int .i64 x]
theorem bq:pU dK 1:=⟨λ_=>rfl,λx u h=>by simp only[dK,List.mem_cons,List.not_mem_nil,or_false]at h;subst h;rfl,by decide⟩
def FN(x:Bool):List Value:=[.bool x]
def bg:Option Addr→Nat | some a=>a.block | none=>0
def jY:Option Addr→Nat | some a=>a.off | none=>0
section
variable {P:Program}{w0 w:World}{L:List bE}{α:Type}{E:TypeId}{sz n cc:Nat}{enc:α→List Value}{l:List α}{ca:Option Addr}{o:Oper}{e:Nat→Value}{t:TypeId}{Df:List Deferred}
theorem _root_.Go.Proofs.YtpikpffbcjpmcaaGreatDoor.SL.Fit.oZ(h:Fit w0 (an (rowOf E sz enc (.slice ca n cc) l::L)) w)(hl:0<l.length):ca=some ⟨bg ca,0,none⟩∧Fit w0 (an (slc E sz enc (bg ca) cc l::L)) w:=by
 obtain⟨g,e,h'⟩:=h.Of hl
 subst e
 exact⟨rfl,h'⟩
theorem _root_.Go.Proofs.YtpikpffbcjpmcaaGreatDoor.SL.Fit.cL(he:pU enc sz)(h:Fit w0 (an (rowOf E sz enc (.slice ca n cc) l::L)) w){i f:Nat}{x:α}{u:Value}(hi:l[i]? = some x)(hf:(enc x)[f]? = some u):w.cell? ⟨bg ca,i*sz+f,none⟩=some u:=by
 have hlt:i<l.length:=(List.getElem?_eq_some_iff.1 hi).1
 exact(h.oZ (by omega)).2.I6 he i f x u hi hf
theorem _root_.Go.Proofs.YtpikpffbcjpmcaaGreatDoor.SL.Fit.uI(h:Fit w0 (an (slc E sz enc (bg ca) cc l::L)) w)(hca:ca=some ⟨bg ca,0,none⟩)(hn:n=l.length):Fit w0 (an (rowOf E sz enc (.slice ca n cc) l::L)) w:=h.Oh hca hn
theorem kW{w':World}{x y:Operand}{k:IntKind}{i:Int}(ho:o.op= .indexAddr t x y)(hx:eJ e x= .slice ca n cc)(hy:eJ e y= .int k i)
 (ht:P.underlying t=some (.slice E)) (hs:(P.info? E).map (·.size)=some sz) (hF:Fit w0 (an (rowOf E sz enc (.slice ca n cc) l::L)) w) (hi:bT i l.length):(execOp (eJ e) o).run P w'= .ok (.value (.pointer (some ⟨bg ca,i.toNat*sz,none⟩))) w':=by
 have hn:=hF.eY
 have h0:=hi.1;have h1:=hi.2
 have hca:=(hF.oZ (by omega)).1
 exact Q0 hca ho hx hy ht hs h0 (by omega)
end
section
variable {P:Program}{ops:Array Oper}{Q:Exit→Act→World→Prop}{a:Act}{w w0 w1:World}{rest:List Oper}{o:Oper}{n d t:Nat}{v:Value}{l:List (Nat×Value)}{j e:Nat→Value}{L:List bE}{H:bE}{Df:List Deferred}
variable {α:Type}{E:TypeId}{sz n0 cc:Nat}{enc:α→List Value}{xs:List α}{ca:Option Addr}
theorem bx{x y:Operand}(hw:Region.wanted o (yielded ops a.tmps)=true)(hd:o.dst=none)(hr:cy Df n (lk l j) a)(ho:o.op= .store t x y)
 {i f:Nat} (hx:eJ (lk l j) x= .pointer (some ⟨bg ca,i*sz+f,none⟩)) (hy:eJ (lk l j) y=v) (hv:v.cells=#[v]) (h1:v.oneCell'=true) (hs:(P.info? t).map (·.size)=some 1)
 (he:pU enc sz) (hF:Fit w0 (an (rowOf E sz enc (.slice ca n0 cc) xs::L)) w) {p q:α} (hp:xs[i]? = some p) (hf:f<sz) (hq:enc q=(enc p).set f v)
 (k:∀w1,Fit w0 (an (rowOf E sz enc (.slice ca n0 cc) (xs.set i q)::L)) w1→wpList P ops Q rest a w1):wpList P ops Q (o::rest) a w:=by
 have hlt:i<xs.length:=(List.getElem?_eq_some_iff.1 hp).1
 have hn:=hF.eY
 obtain⟨hca,zW⟩:=hF.oZ (by omega)
 exact Ec hw hd hr ho hx hy hv h1 hs he zW hp hf hq λw1 h=>k w1 (h.uI hca (by rw[List.length_set];exact hn))
theorem uj{x y:Operand}{vs:List Value}(hw:Region.wanted o (yielded ops a.tmps)=true)(hd:o.dst=none)(hr:cy Df n (lk l j) a)(ho:o.op= .store t x y)
 {i:Nat} (hx:eJ (lk l j) x= .pointer (some ⟨bg ca,i*sz,none⟩)) (hy:eJ (lk l j) y= .agg vs.toArray) (h1:vs.all (·.oneCell')=true) (hs:(P.info? t).map (·.size)=some vs.length)
 (he:pU enc sz) (hF:Fit w0 (an (rowOf E sz enc (.slice ca n0 cc) xs::L)) w) {q:α} (hi:i<xs.length) (hq:enc q=vs)
 (k:∀w1,Fit w0 (an (rowOf E sz enc (.slice ca n0 cc) (xs.set i q)::L)) w1→wpList P ops Q rest a w1):wpList P ops Q (o::rest) a w:=by
 have hn:=hF.eY
 obtain⟨hca,zW⟩:=hF.oZ (by omega)
 exact Db hw hd hr ho hx hy h1 hs he zW hi hq λw1 h=>k w1 (h.uI hca (by rw[List.length_set];exact hn))
theorem pW{x y:Operand}{i:Int}{bytes:Nat}{zc:Array Value}(z0:α)(hw:Region.wanted o (yielded ops a.tmps)=true)(hd:o.dst=some d)(hn:Nat.blt d n=true)(hr:cy Df n (lk l j) a)
 (ho:o.op= .makeSlice t x y) (hx:eJ (lk l j) x= .int .i64 i) (hy:eJ (lk l j) y= .int .i64 i) (hi:0≤i∧i*bytes≤140737488355328) (he:pU enc sz) (hty:P.underlying t=some (.slice E))
 (nX:(P.info? E).map (λi=>(i.size,i.bytes,i.zero.map (·.cells)))=some (sz,bytes,some zc)) (hz:zc.toList=enc z0) (Hg:Nat.blt 0 bytes=true) (hF:Fit w0 (an L) w)
 (k:∀ca w1 a,Fit w0 (an (rowOf E sz enc (.slice ca (List.replicate i.toNat z0).length i.toNat) (List.replicate i.toNat z0)::L)) w1→cy Df n (lk ((d,.slice ca (List.replicate i.toNat z0).length i.toNat)::l) j) a→wpList P ops Q rest a w1):wpList P ops Q (o::rest) a w:=by
 have hb:i.toNat*bytes≤140737488355328:=by
  have h2:=hi.2
  have e:((i.toNat*bytes:Nat):Int)=i*bytes:=by rw[Int.natCast_mul,Int.toNat_of_nonneg hi.1]
  omega
 refine Ol (c:=i.toNat) z0 hw hd hn hr ho hx hy (by have:=hi.1;omega) he hty nX hz hb Hg hF λg w1 a h Fm => ?_
 have hl:(List.replicate i.toNat z0).length=i.toNat:=List.length_replicate
 refine k (some ⟨g,0,none⟩) w1 a (h.Og rfl) ?_
 rw[hl];exact Fm
theorem ZJ{s x:Operand}{cb:Option Addr}{n1 cd:Nat}{ys:List α}(hw:Region.wanted o (yielded ops a.tmps)=true)(hd:o.dst=some d)(hn:Nat.blt d n=true)(hr:cy Df n (lk l j) a)
 (ho:o.op= .call {callee:=.builtin .copy,args:=#[s,x],argTypes:=#[t,t]}) (hs:eJ (lk l j) s= .slice ca n0 cc) (hx:eJ (lk l j) x= .slice cb n1 cd)
 (he:pU enc sz) (hty:P.underlying t=some (.slice E)) (hsz:(P.info? E).map (·.size)=some sz) (hlen:ys.length=xs.length)
 (hF:Fit w0 (an (rowOf E sz enc (.slice ca n0 cc) xs::rowOf E sz enc (.slice cb n1 cd) ys::L)) w)
 (k:∀w1 a,Fit w0 (an (rowOf E sz enc (.slice ca n0 cc) ys::rowOf E sz enc (.slice cb n1 cd) ys::L)) w1→cy Df n (lk ((d,.int .i64 ((xs.length:Nat):Int))::l) j) a→wpList P ops Q rest a w1):wpList P ops Q (o::rest) a w:=by
 have Ke:=hF.eY
 have N0:=(hF.pick 1).eY
 rcases hF.rows with ⟨e1,e2,zW⟩ | ⟨g,cap,e1,_,zW⟩
 ·simp only[Value.slice.injEq]at e1
  obtain⟨rfl,rfl,rfl⟩:=e1
  subst e2
  obtain rfl:ys=[]:=List.eq_nil_of_length_eq_zero hlen
  subst N0
  refine oM (w1:=w) (v:=.int .i64 0) hw hd hn hr ?_ (λa hr=>k w a hF (by simpa using hr))
  have hcells:(Builtin.firstCells sz 0 (.slice cb 0 cd)).run P w= .ok #[] w:=by
   have:=hF.pick 1
   rcases(hF.pick 1).rows with ⟨e3,_,_⟩ | ⟨g',cap',e3,_,_⟩<;>simp only[Value.slice.injEq]at e3<;>rw[e3.1]
   ·have:=run_firstCells_none (P:=P) w sz 0 0 cd;simpa using this
   ·have:=run_firstCells_some (P:=P) w sz 0 ⟨g',0,none⟩ 0 cd [] (by simp) (by intro j u hu;simp at hu);simpa using this
  unfold execOp
  cases ym:P.info? E with
  | none=>simp[ym]at hsz
  | some q =>
   simp[ym]at hsz
   simp only[ho,resolve,invoke,builtin,Sem.run_bind,Sem.run_pure,Result.andThen_ok,List.map_toArray,List.map_cons,List.map_nil,hs,hx]
   simp[Builtin.copy_,run_underlying hty,Builtin.lenOf,sizeOf,typeInfo,ym,hsz,hcells,goInt]
 ·simp only[Value.slice.injEq]at e1
  obtain⟨rfl,_,rfl⟩:=e1
  exact abt hw hd hn hr ho hs hx Ke he hty hsz hlen zW λw1 a h Fm=>k w1 a (h.Og (by omega)) Fm
theorem _root_.Go.Proofs.YtpikpffbcjpmcaaGreatDoor.SL.Fit.dn{w0 w:World}(k:Nat){L:List bE}(h:Fit w0 (an L) w):Fit w0 (an (L.drop k)) w:=by
 induction k generalizing L with
 | zero=>exact h
 | succ k ih =>
  cases L with
  | nil=>exact h
  | cons P L=>exact ih h.drop
def cu{α:Type}(L:List bE)(sz:Nat)(enc:α→List Value)(va:Option Addr)(l:List α):Prop:=
 ∀i x,l[i]? = some x→va=some ⟨bg va,jY va,none⟩∧∀f u,(enc x)[f]? = some u→∀z w,Fit z (an L) w→w.cell? ⟨bg va,jY va+i*sz+f,none⟩=some u
theorem cu.nil{va:Option Addr}:cu L sz enc va ([]:List α):=λi x h=>by simp at h
theorem cu.up(k:Nat){L':List bE}{va:Option Addr}{l:List α}(h:cu (L'.drop k) sz enc va l):cu L' sz enc va l:=
 λi x hx=>⟨(h i x hx).1,λf u hu z w hw=>(h i x hx).2 f u hu z w (hw.dn k)⟩
theorem cu.L2{z0:World}{L' L'' L3:List bE}{n cc:Nat}{l:List α}(he:pU enc sz)(h0:Fit z0 (an (rowOf E sz enc (.slice ca n cc) l::L'')) w)
 (f:∀{z w},Fit z (an L') w→Fit z (an (rowOf E sz enc (.slice ca n cc) l::L3)) w):cu L' sz enc ca l:=by
 intro i x hx
 have hlt:i<l.length:=(List.getElem?_eq_some_iff.1 hx).1
 have hca:=(h0.oZ (by omega)).1
 have ho:jY ca=0:=by rw[hca];rfl
 refine⟨by rw[ho];exact hca,λq u hu z w hw => ?_⟩
 rw[ho,Nat.zero_add]
 exact(f hw).cL he hx hu
theorem cu.take{va:Option Addr}{l:List α}(h:cu L sz enc va l)(k:Nat):cu L sz enc va (l.take k):=by
 intro i x hx
 refine h i x ?_
 rw[List.getElem?_take]at hx
 split at hx
 ·exact hx
 ·cases hx
theorem xW{x y:Operand}{k:IntKind}{i:Int}{n0:Nat}{L:List bE}{va:Option Addr}[Inhabited α]{l:List α}(ho:o.op= .indexAddr t x y)(hx:eJ e x= .slice va n0 cc)(hy:eJ e y= .int k i)(Ke:n0=l.length)
 (ht:P.underlying t=some (.slice E)) (hs:(P.info? E).map (·.size)=some sz) (hF:cu L sz enc va l) (hi:bT i l.length):(execOp (eJ e) o).run P w= .ok (.value (.pointer (some ⟨bg va,jY va+i.toNat*sz,none⟩))) w:=by
 have h0:=hi.1;have h1:=hi.2
 exact Xq (hF _ _ (bf hi)).1 ho hx hy ht hs h0 (by omega)
theorem cu.cell{z:World}{L:List bE}{va:Option Addr}[Inhabited α]{l:List α}{i:Int}(hF:cu L sz enc va l)(hi:bT i l.length)(h:Fit z (an L) w)(f:Nat){u:Value}(hu:(enc (ag l i.toNat))[f]? = some u):w.cell? ⟨bg va,jY va+i.toNat*sz+f,none⟩=some u:=
 (hF _ _ (bf hi)).2 f u hu z w h
theorem BN:∀(n:Nat) (L:List bE),an ((List.range n).map (λi=>L.getD i Hf)++L.drop n)=an L
 | 0,L=>by simp
 | n+1,[]=>by
  have e:∀n,an ((List.range n).map (λi=>([]:List bE).getD i Hf))=an []:=by
   intro n
   induction n with
   | zero=>rfl
   | succ n ih =>
    rw[List.range_succ,List.map_append,wm,ih]
    show sep Hf (sep Hf Hf)=Hf
    rw[Bk,Bk]
  simpa using e (n+1)
 | n+1,P::L=>by
  rw[List.range_succ_eq_map,List.map_cons,List.map_map]
  have ih:=BN n L
  show sep P (an (List.map ((λi=>(P::L).getD i Hf)∘Nat.succ) (List.range n)++L.drop n))=sep P (an L)
  rw[←ih]
  rfl
def Ul(n:Nat)(is:List Nat):Bool:=(is++(List.range n).filter (λi => !is.contains i)).isPerm (List.range n)
theorem _root_.Go.Proofs.YtpikpffbcjpmcaaGreatDoor.SL.Fit.Tc{w0 w:World}{L L':List bE}(h:Fit w0 (an L) w)(n:Nat)(is:List Nat)(hB:Ul n is=true)(e:is.map (λi=>L.getD i Hf)++L.drop n=L'):Fit w0 (an L') w:=by
 subst e
 have hp:=(List.isPerm_iff.1 hB).map (λi=>L.getD i Hf)
 have h1:Fit w0 (an ((List.range n).map (λi=>L.getD i Hf)++L.drop n)) w:=h.eq (BN n L).symm
 rw[List.map_append]at hp
 have h2:=h1.perm (hp.symm.append_right (L.drop n))
 have h3:=h2.perm (List.perm_append_comm.append_right (L.drop n))
 rw[List.append_assoc]at h3
 generalize ((List.range n).filter (λi => !is.contains i)).map (λi=>L.getD i Hf)=X at h3
 clear h h1 h2 hp hB
 induction X with
 | nil=>exact h3
 | cons x X ih=>exact ih h3.drop
theorem yn{f:FuncId}{args:Array Value}(hw:Region.wanted o (yielded ops a.tmps)=true)(hd:o.dst=some d)(hn:Nat.blt d n=true)(hr:cy Df n (lk l j) a)
 (hrun:(execOp (eJ (lk l j)) o).run P w= .ok (.enter f args) w) (hc:Calls P f args w λe w1 =>∃v,e= .returned v∧∀a,cy Df n (lk ((d,v)::l) j) a→wpList P ops Q rest a w1):wpList P ops Q (o::rest) a w:=
 qc hw hd hn hr hrun hc λe w1 h=>h
variable {md:Region.Mode}
def ff(P:Program)(md:Region.Mode)(ops:Array Oper)(Q:Exit→Act→World→Prop)(D:World→Prop)(E:List Nat):Nat→Array Bool→Act→World→Prop
 | 0,listed,a,w=>Region.ready md ops listed=[]∧Q .normal a w
 | fuel+1,listed,a,w=>(Region.ready md ops listed=[]→Q .normal a w)∧
  ∀i∈Region.ready md ops listed,wpOp P ops Q i (λa w=>(i∈E→D w)∧ff P md ops Q D E fuel (listed.setIfInBounds i true) a w) a w
theorem BO{D:World→Prop}{E:List Nat}:∀(fuel:Nat) (listed:Array Bool) (a:Act) (w:World),ff P md ops Q D E fuel listed a w→wpAny P md ops Q fuel listed a w
 | 0,_,_,_,h=>h
 | f+1,listed,a,w,h=>⟨h.1,λi hi=>wpOp_mono (λa w k=>BO f _ a w k.2) (h.2 i hi)⟩
def yS(md:Region.Mode)(ops:Array Oper)(E:List Nat)(listed:Array Bool)(i:Nat):Bool:=
 (List.range ops.size).all λk=>k==i||listed.getD k true || !FM md ops listed i ops.size k||E.contains k||match ops[k]? with | some ok=>zX ok | none=>true
theorem Kh{D D':World→Prop}{E E':List Nat}{k:Nat}{oi ok:Oper}(hk:ops[k]? = some ok)(hap:oi.apart ops ok=true)(N1:th Q)
 (hsi:∀cs b,oi.op≠.select cs b) (hsk:∀cs b,ok.op≠.select cs b) (LG:∀k∈E',k∈E∧∀w,D w→D' w) (XN:∀w w',mS w w'→D' w→D' w') (FO:(∀w,D' w)∨zX ok=true∨k∈E') (hD:D' w) {K:Act→World→Prop}
 (hy:YD P ops D' oi v a) (h:wpOp P ops Q k (λa w=>(k∈E→D w)∧K a w) (a.put oi.dst v) w):wpOp P ops Q k (λa w=>(k∈E→D w)∧D' w∧YD P ops D' oi v a∧K (a.put oi.dst v) w) a w:=by
 obtain⟨h1,h2,h3⟩:=Oper.apart_spec hap
 have keep:∀(a:Act),YD P ops D' oi v a→∀u,YD P ops D' oi v (a.put ok.dst u):=λa hy u=>hy.of_same (execOp_put oi hsi a ok.dst u h3) (wanted_put oi a ok.dst u h3)
 unfold wpOp at *
 simp only[hk]at *
 rw[wanted_put ok a oi.dst v h1]at h
 by_cases hw:Region.wanted ok (yielded ops a.tmps)=true
 ·rw[fQ hw]at h⊢
  rcases h with h | h
  ·left
   unfold Oper.wp at *
   rw[execOp_put ok hsk a oi.dst v h1]at h
   have hkeep:=λ(hb:zX ok=true) x w' hr=>FJ (P:=P) hb a.eval w w' x hr
   generalize (execOp a.eval ok).run P w=r at *
   cases r with
   | ok x w' =>
    have XO:(k∈E→D w')→D' w':=by
     intro hE
     rcases FO with uJ | hb | hb
     ·exact uJ w'
     ·exact XN w w' (hkeep hb x w' rfl).2 hD
     ·exact(LG k hb).2 _ (hE (LG k hb).1)
    cases x<;>simp only[Oper.upon]at h⊢
    case value u=>exact⟨h.1,XO h.1,keep a hy u,by rw[←Act.put_comm a v u h2];exact h.2⟩
    case skip=>exact⟨h.1,XO h.1,keep a hy _,by rw[←Act.put_comm a v undef h2];exact h.2⟩
    case defer df =>
     refine⟨h.1,XO h.1,?_,?_⟩
     ·have:YD P ops D' oi v ({a with defers:=df::a.defers}:Act):=hy
      exact keep _ this _
     ·have e:=Act.put_comm ({a with defers:=df::a.defers}:Act) v undef h2
      rw[←e]
      have e2:({(a.put oi.dst v)with defers:=df::(a.put oi.dst v).defers}:Act)=({a with defers:=df::a.defers}:Act).put oi.dst v:=by cases oi.dst<;>rfl
      rw[←e2]
      exact h.2
    case enter f args =>
     have Um:∀w'',(k∈E→D w'')→D' w'':=by
      intro w'' hE
      rcases FO with uJ | hb | hb
      ·exact uJ w''
      ·obtain⟨⟨u,hu⟩,_⟩:=hkeep hb _ _ rfl
       cases hu
      ·exact(LG k hb).2 _ (hE (LG k hb).1)
     refine h.mono λe w'' he => ?_
     cases e with
     | returned u=>exact⟨he.1,Um _ he.1,keep a hy u,by rw[←Act.put_comm a v u h2];exact he.2⟩
     | panicked ch=>exact N1 ch a w'' _ _ he
     | outgrown=>exact he
    case row rw' args =>
     have Um:∀w'',(k∈E→D w'')→D' w'':=by
      intro w'' hE
      rcases FO with uJ | hb | hb
      ·exact uJ w''
      ·obtain⟨⟨u,hu⟩,_⟩:=hkeep hb _ _ rfl
       cases hu
      ·exact(LG k hb).2 _ (hE (LG k hb).1)
     refine h.mono λu w'' he => ?_
     exact⟨he.1,Um _ he.1,keep a hy u,by rw[←Act.put_comm a v u h2];exact he.2⟩
   | halt x w' =>
    cases x<;>simp only[Oper.upon]at h⊢
    exact N1 _ a w' _ _ h
  ·right
   refine⟨?_,h.2⟩
   have:=h.1
   unfold Oper.asks at *
   rw[execOp_put ok hsk a oi.dst v h1]at this
   exact this
 ·rw[fh hw]at h⊢
  exact⟨h.1,hD,keep a hy _,by rw[←Act.put_comm a v undef h2];exact h.2⟩
theorem qk{D D':World→Prop}{E E':List Nat}{i:Nat}{oi:Oper}(hi:ops[i]? = some oi)(N1:th Q)(hsel:∀(k:Nat) (o:Oper) cs b,ops[k]? = some o→o.op≠.select cs b)(hiD:i∈E→∀w,D' w→D w)(LG:∀k∈E',k∈E∧∀w,D w→D' w)(XN:∀w w',mS w w'→D' w→D' w')
 (oN:Array Bool) (FO:(∀w,D' w)∨yS md ops E' oN i=true) :
 ∀(fuel:Nat) (listed:Array Bool) (a:Act) (w:World),
   (∀k ok,ops[k]? = some ok→k≠i→listed.getD k true=false→(∀e∈ok.after,Region.binds md e=true→e.on≠i)→oi.apart ops ok=true)→
   (∀k,listed.getD k true=false→oN.getD k true=false)→
   (∀k,listed.getD k false=true→oN.getD k false=true∨∀f,FM md ops oN i f k=true)→
   i∈Region.ready md ops listed→D' w→YD P ops D' oi v a→
   ff P md ops Q D E fuel (listed.setIfInBounds i true) (a.put oi.dst v) w→ff P md ops Q D E (fuel+1) listed a w:=by
 intro fuel
 have hcan:∀(listed:Array Bool),(∀k,listed.getD k false=true→oN.getD k false=true∨∀f,FM md ops oN i f k=true)→∀k ok,ops[k]? = some ok→k≠i→(∀e∈ok.after,Region.binds md e=true→listed.getD e.on false=true)→∀f,FM md ops oN i f k=true:=by
  intro listed hl k ok hk FP uJ f
  cases f with
  | zero=>rfl
  | succ f =>
   simp only[FM,hk,Bool.and_eq_true,bne_iff_ne,ne_eq,FP,not_false_eq_true,true_and]
   rw[Array.all_eq_true_iff_forall_mem]
   intro e he
   by_cases hb:Region.binds md e=true
   ·rcases hl _ (uJ e he hb)with h | h
    ·simp[h]
    ·simp[h f]
   ·simp[hb]
 have hp:∀(listed:Array Bool),(∀k,listed.getD k true=false→oN.getD k true=false)→(∀k,listed.getD k false=true→oN.getD k false=true∨∀f,FM md ops oN i f k=true)→∀k ok,ops[k]? = some ok→k≠i→listed.getD k true=false→(∀e∈ok.after,Region.binds md e=true→listed.getD e.on false=true)→(∀w,D' w)∨zX ok=true∨k∈E':=by
  intro listed Un hl k ok hk FP hun uJ
  rcases FO with h | h
  ·exact .inl h
  ·right
   have hc:=hcan listed hl k ok hk FP uJ ops.size
   have h1:=List.all_eq_true.1 h k (List.mem_range.2 (Array.getElem?_eq_some_iff.1 hk).1)
   simp only[hk,Bool.or_eq_true,beq_iff_eq,FP,false_or,Un k hun,Bool.false_eq_true,hc,Bool.not_true,List.contains_iff_mem]at h1
   exact h1.symm
 induction fuel with
 | zero =>
  intro listed a w _ _ _ hr hD hy H
  refine⟨λh=>(by rw[h]at hr;cases hr),λk hk => ?_⟩
  by_cases FP:k=i
  ·subst FP;exact hy.wpOp hi hD ⟨λh=>hiD h _ hD,H⟩
  ·have:=ready_mono hk FP
   rw[H.1]at this
   cases this
 | succ fuel ih =>
  intro listed a w hfree Un hl hr hD hy H
  refine⟨λh=>(by rw[h]at hr;cases hr),λk hk => ?_⟩
  by_cases FP:k=i
  ·subst FP;exact hy.wpOp hi hD ⟨λh=>hiD h _ hD,H⟩
  ·have h1:=H.2 k (ready_mono hk FP)
   obtain⟨Ot,ok,hok,uJ⟩:=mem_ready.1 hk
   have hnot:∀e∈ok.after,Region.binds md e=true→e.on≠i:=λe he hb heq=>by
    have h1:=uJ e he hb
    have h0:=(mem_ready.1 hr).1
    rw[heq]at h1
    rcases Nat.lt_or_ge i listed.size with h' | h'
    ·simp[h']at h0 h1;rw[h0]at h1;cases h1
    ·simp[Array.getElem?_eq_none h']at h1
   have h2:=Kh (D:=D) (E:=E) (E':=E') hok (hfree k ok hok FP Ot hnot) N1 (λcs b=>hsel i oi cs b hi) (λcs b=>hsel k ok cs b hok) LG XN (hp listed Un hl k ok hok FP Ot uJ) hD hy h1
   have Q8:∀m om,ops[m]? = some om→m≠i→(listed.setIfInBounds k true).getD m true=false→
    (∀e∈om.after,Region.binds md e=true→e.on≠i)→oi.apart ops om=true:=λm om hm hmi hun hno=>by
    refine hfree m om hm hmi ?_ hno
    by_cases hkm:k=m
    ·subst hkm;exact Ot
    ·rw[getD_set_ne true hkm]at hun;exact hun
   have XP:∀m,(listed.setIfInBounds k true).getD m true=false→oN.getD m true=false:=λm hm=>by
    by_cases hkm:k=m
    ·subst hkm;exact Un k Ot
    ·rw[getD_set_ne true hkm]at hm;exact Un m hm
   have hl':∀m,(listed.setIfInBounds k true).getD m false=true→oN.getD m false=true∨∀f,FM md ops oN i f m=true:=λm hm=>by
    by_cases hkm:k=m
    ·subst hkm;exact .inr (hcan listed hl k ok hok FP uJ)
    ·rw[getD_set_ne false hkm]at hm;exact hl m hm
   refine wpOp_mono (λa' w' h3=>⟨h3.1,ih (listed.setIfInBounds k true) a' w' Q8 XP hl' (ready_mono hr (Ne.symm FP)) h3.2.1 h3.2.2.1 ?_⟩) h2
   rw[Array.setIfInBounds_comm _ _ FP]
   exact h3.2.2.2
theorem Uo{id:Nat}{lo:List Oper}{H:bE}(D:World→Prop)(E:List Nat)(hF:Fit w0 H w)(hm:P.follows .mixedOrders=true)(k:∀w,Fit w0 H w→ff P .any lo.toArray Q D E lo.toArray.size (Array.replicate lo.toArray.size false) a w) :
 (Code.region id lo.toArray true).wp P Q a w:=Om hF hm λw h=>BO _ _ _ _ (k w h)
theorem e_val{D:World→Prop}{E:List Nat}{fuel i:Nat}{listed:Array Bool}(N1:th Q)(hi:ops[i]? = some o)(Ki:Region.noSelect ops=true)(hrd:(Region.ready .any ops listed).contains i=true)(hfr:Region.free .any ops listed i=true)
 (Up:E.contains i=false) (hw:Region.wanted o (yielded ops a.tmps)=true) (hd:o.dst=some d) (hn:Nat.blt d n=true) (hr:cy Df n (lk l j) a) (hrun:∀w,(execOp (eJ (lk l j)) o).run P w= .ok (.value v) w)
 (k:∀a,cy Df n (lk ((d,v)::l) j) a→ff P .any ops Q D E fuel (listed.setIfInBounds i true) a w):ff P .any ops Q D E (fuel+1) listed a w:=by
 refine qk (D:=D) (D':=λ_=>True) (E:=E) (E':=[]) (v:=v) hi N1 (Region.noSelect_spec Ki) (λh=>absurd h (by simpa using Up)) (λ_ h=>nomatch h) (λ_ _ _ _=>trivial) listed (.inl λ_=>trivial) fuel listed a w (Region.free_spec hi hfr) (λ_ h=>h) (λ_ h=>.inl h) (by simpa using hrd) trivial ?_ ?_
 ·exact .inl ⟨hw,λw _=>by rw[hr.eval];exact hrun w⟩
 ·rw[hd];exact k _ (hr.put d v hn)
theorem e_off{D:World→Prop}{E:List Nat}{fuel i:Nat}{listed:Array Bool}(N1:th Q)(hi:ops[i]? = some o)(Ki:Region.noSelect ops=true)(hrd:(Region.ready .any ops listed).contains i=true)(hfr:Region.free .any ops listed i=true)
 (Up:E.contains i=false) (hw:Region.wanted o (yielded ops a.tmps)=false) (hd:o.dst=some d) (hn:Nat.blt d n=true) (hr:cy Df n (lk l j) a)
 (k:∀a,cy Df n (lk ((d,undef)::l) j) a→ff P .any ops Q D E fuel (listed.setIfInBounds i true) a w):ff P .any ops Q D E (fuel+1) listed a w:=by
 refine qk (D:=D) (D':=λ_=>True) (E:=E) (E':=[]) (v:=undef) hi N1 (Region.noSelect_spec Ki) (λh=>absurd h (by simpa using Up)) (λ_ h=>nomatch h) (λ_ _ _ _=>trivial) listed (.inl λ_=>trivial) fuel listed a w (Region.free_spec hi hfr) (λ_ h=>h) (λ_ h=>.inl h) (by simpa using hrd) trivial ?_ ?_
 ·exact .inr ⟨hw,rfl⟩
 ·rw[hd];exact k _ (hr.put d undef hn)
theorem BP:∀(cs:List Value) (b off:Nat) (w w':World),mS w w'→oS w b off cs→oS w' b off cs
 | [],_,_,_,_,_,_=>trivial
 | _::cs,b,off,w,w',hg,h=>⟨hg _ _ h.1,BP cs b (off+1) w w' hg h.2⟩
theorem Q9{D:World→Prop}{E:List Nat}(E':List Nat){fuel i:Nat}{listed:Array Bool}{b off:Nat}{cs:List Value}(N1:th Q)(LG:∀k∈E',k∈E∧∀w,D w→oS w b off cs)(hi:ops[i]? = some o)(Ki:Region.noSelect ops=true)(hrd:(Region.ready .any ops listed).contains i=true)(hfr:Region.free .any ops listed i=true)
 (Um:yS .any ops E' listed i=true) (Up:E.contains i=false) (hw:Region.wanted o (yielded ops a.tmps)=true) (hd:o.dst=some d) (hn:Nat.blt d n=true) (hr:cy Df n (lk l j) a)
 (hc:oS w b off cs) (hrun:∀w,oS w b off cs→(execOp (eJ (lk l j)) o).run P w= .ok (.value v) w)
 (k:∀a,cy Df n (lk ((d,v)::l) j) a→ff P .any ops Q D E fuel (listed.setIfInBounds i true) a w):ff P .any ops Q D E (fuel+1) listed a w:=by
 refine qk (D:=D) (D':=λw=>oS w b off cs) (E:=E) (E':=E') (v:=v) hi N1 (Region.noSelect_spec Ki) (λh=>absurd h (by simpa using Up)) LG (λw w'=>BP cs b off w w') listed (.inr Um) fuel listed a w (Region.free_spec hi hfr) (λ_ h=>h) (λ_ h=>.inl h) (by simpa using hrd) hc ?_ ?_
 ·exact .inl ⟨hw,λw h=>by rw[hr.eval];exact hrun w h⟩
 ·rw[hd];exact k _ (hr.put d v hn)
theorem kB{D:World→Prop}{E:List Nat}{fuel:Nat}{listed:Array Bool}(r:List Nat)(hrd:Region.ready .any ops listed=r)(hne:r.isEmpty=false)
 (k:Ee (λi =>∃o,ops[i]? = some o∧wpList P ops (Exit.then (λa w=>(i∈E→D w)∧ff P .any ops Q D E fuel (listed.setIfInBounds i true) a w) Q) [o] a w) r):ff P .any ops Q D E (fuel+1) listed a w:=by
 refine⟨(λh=>by rw[hrd]at h;rw[h]at hne;cases hne),λk' hk' => ?_⟩
 rw[hrd]at hk'
 obtain⟨o,hi,k⟩:=Ee.mem k k' hk'
 unfold wpOp
 simp only[hi]
 unfold wpList at k
 have hlo:LetsOut (Exit.then (λa w=>(k'∈E→D w)∧ff P .any ops Q D E fuel (listed.setIfInBounds k' true) a w) Q)→LetsOut Q:=λ⟨a,w,h⟩=>⟨a,w,h⟩
 have hmo:∀{x:Act} {y:World} {K:Act→World→Prop},o.wp P x y K (Exit.then (λa w=>(k'∈E→D w)∧ff P .any ops Q D E fuel (listed.setIfInBounds k' true) a w) Q)→o.wp P x y K Q:=by
  intro x y K h
  unfold Oper.wp at *
  generalize (execOp x.eval o).run P y=r at *
  cases r with
  | ok z w' =>
   cases z<;>simp only[Oper.upon]at h⊢<;> first
    | exact h
    | (refine h.mono λe w'' he => ?_
       cases e with
       | returned u=>exact he
       | panicked ch=>exact he
       | outgrown=>exact hlo he)
  | halt z w'=>cases z<;>simp only[Oper.upon]at h⊢<;> exact h
 split
 ·rename_i hw
  rw[fQ hw]at k
  rcases k with k | k
  ·exact .inl (Oper.wp_mono (λ_ _ h=>h) (hmo k))
  ·exact .inr ⟨k.1,hlo k.2⟩
 ·rename_i hw
  rw[fh hw]at k
  exact k
theorem Uq{D:World→Prop}{E:List Nat}{fuel i:Nat}{listed:Array Bool}(hrd:Region.ready .any ops listed=[i])(hi:ops[i]? = some o)
 (k:wpList P ops (Exit.then (λa w=>(i∈E→D w)∧ff P .any ops Q D E fuel (listed.setIfInBounds i true) a w) Q) [o] a w):ff P .any ops Q D E (fuel+1) listed a w:=
 kB [i] hrd rfl (cx ⟨o,hi,k⟩ gG)
theorem Ur{D:World→Prop}{E:List Nat}{fuel:Nat}{listed:Array Bool}(hrd:Region.ready .any ops listed=[])(k:Q .normal a w):ff P .any ops Q D E fuel listed a w:=by
 cases fuel with
 | zero=>exact⟨hrd,k⟩
 | succ f=>exact⟨λ_=>k,λi hi=>by rw[hrd]at hi;cases hi⟩
theorem n4{c:Code}(I:Act→World→Prop)(h:c.wp P (Exit.then I Q) a w)(k:∀a w,I a w→Q .normal a w):c.wp P Q a w:=
 Code.wp_mono (λe a w q=>by
  cases e with
  | normal=>exact k a w q
  | _=>exact q) h
class PI (Q:Exit→Act→World→Prop):Prop where
 pi:th Q
instance WJ {fn:Func} {R:Ending→World→Prop}:PI (bodyPost P fn R):=⟨FK⟩
instance WK {K:Act→World→Prop} [h:PI Q]:PI (Exit.then K Q):=⟨FL h.pi⟩
instance Us {i:Nat} [h:PI Q]:PI (Exit.inBlock i Q):=⟨Ed h.pi⟩
def okB(ops:Array Oper)(E:List Nat)(listed:Array Bool)(i:Nat):Bool:=Region.noSelect ops&&(Region.ready .any ops listed).contains i&&Region.free .any ops listed i && !E.contains i
theorem L4{E:List Nat}{listed:Array Bool}{i:Nat}(h:okB ops E listed i=true):Region.noSelect ops=true∧(Region.ready .any ops listed).contains i=true∧Region.free .any ops listed i=true∧E.contains i=false:=by
 unfold okB at h
 simp only[Bool.and_eq_true,Bool.not_eq_true']at h
 exact⟨h.1.1.1,h.1.1.2,h.1.2,h.2⟩
theorem ev{D:World→Prop}{E:List Nat}{listed:Array Bool}[hp:PI Q](fuel i:Nat)(hi:ops[i]? = some o)(hB:okB ops E listed i=true)(hw:Region.wanted o (yielded ops a.tmps)=true)(hr:cy Df n (lk l j) a)(v:Value)
 (hrun:∀w,(execOp (eJ (lk l j)) o).run P w= .ok (.value v) w) (k:∀a,cy Df n (lk ((d,v)::l) j) a→ff P .any ops Q D E fuel (listed.setIfInBounds i true) a w) (hd:o.dst=some d:=by rfl) (hn:Nat.blt d n=true:=by rfl) :
 ff P .any ops Q D E (fuel+1) listed a w:=
 have hb:=L4 hB
 e_val hp.pi hi hb.1 hb.2.1 hb.2.2.1 hb.2.2.2 hw hd hn hr hrun k
theorem eo{D:World→Prop}{E:List Nat}{listed:Array Bool}[hp:PI Q](fuel i:Nat)(hi:ops[i]? = some o)(hB:okB ops E listed i=true)(hw:Region.wanted o (yielded ops a.tmps)=false)(hr:cy Df n (lk l j) a)
 (k:∀a,cy Df n (lk ((d,undef)::l) j) a→ff P .any ops Q D E fuel (listed.setIfInBounds i true) a w) (hd:o.dst=some d:=by rfl) (hn:Nat.blt d n=true:=by rfl) :
 ff P .any ops Q D E (fuel+1) listed a w:=
 have hb:=L4 hB
 e_off hp.pi hi hb.1 hb.2.1 hb.2.2.1 hb.2.2.2 hw hd hn hr k
def Ut(ops:Array Oper)(E:List Nat)(listed:Array Bool)(i:Nat):Bool:=Region.noSelect ops&&(Region.ready .any ops listed).contains i&&Region.free .any ops listed i&&yS .any ops E listed i
theorem Qh{E:List Nat}{listed:Array Bool}{i:Nat}(h:Ut ops E listed i=true):Region.noSelect ops=true∧(Region.ready .any ops listed).contains i=true∧Region.free .any ops listed i=true∧yS .any ops E listed i=true:=by
 unfold Ut at h
 simp only[Bool.and_eq_true]at h
 exact⟨h.1.1.1,h.1.1.2,h.1.2,h.2⟩
theorem evD{D:World→Prop}{E:List Nat}{listed:Array Bool}[hp:PI Q](XQ:∀w w',mS w w'→D w→D w')(XR:D w)(fuel i:Nat)(hi:ops[i]? = some o)(hB:Ut ops E listed i=true)(hw:Region.wanted o (yielded ops a.tmps)=true)(hr:cy Df n (lk l j) a)(v:Value)
 (hrun:∀w,(execOp (eJ (lk l j)) o).run P w= .ok (.value v) w) (k:∀a,cy Df n (lk ((d,v)::l) j) a→ff P .any ops Q D E fuel (listed.setIfInBounds i true) a w) (hd:o.dst=some d:=by rfl) (hn:Nat.blt d n=true:=by rfl) :
 ff P .any ops Q D E (fuel+1) listed a w:=by
 have hb:=Qh hB
 refine qk (D:=D) (D':=D) (E:=E) (E':=E) (v:=v) hi hp.pi (Region.noSelect_spec hb.1) (λ_ _ h=>h) (λk hk=>⟨hk,λ_ h=>h⟩) XQ listed (.inr hb.2.2.2) fuel listed a w (Region.free_spec hi hb.2.2.1) (λ_ h=>h) (λ_ h=>.inl h) (by simpa using hb.2.1) XR ?_ ?_
 ·exact .inl ⟨hw,λw _=>by rw[hr.eval];exact hrun w⟩
 ·rw[hd];exact k _ (hr.put d v hn)
theorem eoD{D:World→Prop}{E:List Nat}{listed:Array Bool}[hp:PI Q](XQ:∀w w',mS w w'→D w→D w')(XR:D w)(fuel i:Nat)(hi:ops[i]? = some o)(hB:Ut ops E listed i=true)(hw:Region.wanted o (yielded ops a.tmps)=false)(hr:cy Df n (lk l j) a)
 (k:∀a,cy Df n (lk ((d,undef)::l) j) a→ff P .any ops Q D E fuel (listed.setIfInBounds i true) a w) (hd:o.dst=some d:=by rfl) (hn:Nat.blt d n=true:=by rfl) :
 ff P .any ops Q D E (fuel+1) listed a w:=by
 have hb:=Qh hB
 refine qk (D:=D) (D':=D) (E:=E) (E':=E) (v:=undef) hi hp.pi (Region.noSelect_spec hb.1) (λ_ _ h=>h) (λk hk=>⟨hk,λ_ h=>h⟩) XQ listed (.inr hb.2.2.2) fuel listed a w (Region.free_spec hi hb.2.2.1) (λ_ h=>h) (λ_ h=>.inl h) (by simpa using hb.2.1) XR ?_ ?_
 ·exact .inr ⟨hw,rfl⟩
 ·rw[hd];exact k _ (hr.put d undef hn)
theorem el{D:World→Prop}{E:List Nat}{listed:Array Bool}(E':List Nat){b off:Nat}{cs:List Value}[hp:PI Q](LG:∀k∈E',k∈E∧∀w,D w→oS w b off cs)(fuel i:Nat)(hi:ops[i]? = some o)(hB:(okB ops E listed i&&yS .any ops E' listed i)=true)(hw:Region.wanted o (yielded ops a.tmps)=true)(hr:cy Df n (lk l j) a)(v:Value)
 (hc:oS w b off cs) (hrun:∀w,oS w b off cs→(execOp (eJ (lk l j)) o).run P w= .ok (.value v) w)
 (k:∀a,cy Df n (lk ((d,v)::l) j) a→ff P .any ops Q D E fuel (listed.setIfInBounds i true) a w) (hd:o.dst=some d:=by rfl) (hn:Nat.blt d n=true:=by rfl) :
 ff P .any ops Q D E (fuel+1) listed a w:=by
 rw[Bool.and_eq_true]at hB
 have hb:=L4 hB.1
 exact Q9 E' hp.pi LG hi hb.1 hb.2.1 hb.2.2.1 hB.2 hb.2.2.2 hw hd hn hr hc hrun k
theorem ov(hr:cy Df n (lk l j) a)(v:Value)(hrun:(execOp (eJ (lk l j)) o).run P w= .ok (.value v) w)(k:∀a,cy Df n (lk ((d,v)::l) j) a→wpList P ops Q rest a w)
 (hg:o.guard=none:=by rfl) (hd:o.dst=some d:=by rfl) (hn:Nat.blt d n=true:=by rfl):wpList P ops Q (o::rest) a w:=u9 (wn hg) hd hn hr hrun k
def FQ(P:Program):List Oper→List Value→List (Nat×Value)→(Nat→Value)→World→List (Option Nat×Option (Nat×Bool)×Result Next)
 | o::os,v::vs,l,j,w=>(o.dst,o.guard,(execOp (eJ (lk l j)) o).run P w)::FQ P os vs ((o.dst.getD 0,v)::l) j w
 | _,_,_,_,_=>[]
def FT:List Nat→List Value→World→List (Option Nat×Option (Nat×Bool)×Result Next)
 | d::ds,v::vs,w=>(some d,none,.ok (.value v) w)::FT ds vs w
 | _,_,_=>[]
def L5:List Nat→List Value→List (Nat×Value)→List (Nat×Value)
 | d::ds,v::vs,l=>L5 ds vs ((d,v)::l)
 | _,_,l=>l
theorem ovs:∀(ds:List Nat) (vs:List Value) {os:List Oper} {a:Act} {l:List (Nat×Value)} (hr:cy Df n (lk l j) a) (hl:ds.length=vs.length∧ds.all (λd=>Nat.blt d n)=true) (hrun:FQ P (os.take ds.length) vs l j w=FT ds vs w)
 (k:∀a,cy Df n (lk (L5 ds vs l) j) a→wpList P ops Q (os.drop ds.length) a w),wpList P ops Q os a w
 | [],[],os,a,l,hr,_,_,k=>k a hr
 | d::ds,v::vs,[],a,l,hr,hl,hrun,k=>by simp[FQ,FT]at hrun
 | d::ds,v::vs,o::os,a,l,hr,hl,hrun,k=>by
  simp only[List.length_cons,List.take_succ_cons,FQ,FT,List.cons.injEq,Prod.mk.injEq]at hrun
  obtain⟨⟨h1,h2,h3⟩,h4⟩:=hrun
  obtain⟨C1,BL⟩:=hl
  simp only[List.all_cons,Bool.and_eq_true]at BL
  refine u9 (wn h2) h1 BL.1 hr h3 λa hr => ?_
  rw[h1]at h4
  exact ovs ds vs hr ⟨by simpa using C1,BL.2⟩ h4 k
theorem _root_.Go.Proofs.YtpikpffbcjpmcaaGreatDoor.GX.cy.Uu{e:Nat→Value}(h:cy Df n e a)(l:List (Nat×Value))(hl:l.map (λp=>e p.1)=l.map (·.2)) :∃j,cy Df n (lk l j) a:=by
 refine h.fold l ?_
 induction l with
 | nil=>trivial
 | cons p l ih=>simp only[List.map_cons,List.cons.injEq]at hl;exact⟨hl.1,ih hl.2⟩
theorem gb{c:Operand}{x y:Code}{e:Nat→Value}(hr:cy Df n e a){b:Bool}(hb:b=true)(h:x.wp P Q a w)(hc:eJ e c= .bool b:=by kernel_rfl):(Code.cond c x y).wp P Q a w:=BI hr hc hb h
theorem ik{c:Operand}{x y:Code}{e:Nat→Value}(hr:cy Df n e a){b:Bool}(hb:b=false)(h:y.wp P Q a w)(hc:eJ e c= .bool b:=by kernel_rfl):(Code.cond c x y).wp P Q a w:=BJ hr hc hb h
end
end GX
end
section
namespace SL
open Go Go.RowKit
structure kX(sz:Nat) where
 cs:List Value
 len:cs.length=sz
 one:∀u∈cs,u.oneCell'=true
theorem kX.ext'{sz:Nat}{a b:kX sz}(h:a.cs=b.cs):a=b:=by cases a;cases b;simp at h;subst h;rfl
theorem Bm{sz:Nat}(h:0<sz):pU (kX.cs (sz:=sz)) sz:=⟨λx=>x.len,λx=>x.one,h⟩
def qP{α:Type}(e:TypeId)(sz:Nat)(own:α→List Value→bE)(v:Value)(l:List α):bE:=
 exs λcss:List (kX sz)=>an (LP (css.length=l.length)::rowOf e sz kX.cs v css::List.zipWith (λx c=>own x c.cs) l css)
def wB{α:Type}(e:TypeId)(sz:Nat)(own:α→List Value→bE)(v:Value)(l:List α)(i:Nat)(cs:List Value):bE:=
 exs λcss:List (kX sz)=>an (LP (css.length=l.length∧(css[i]?).map kX.cs=some cs)::rowOf e sz kX.cs v css::(List.zipWith (λx c=>own x c.cs) l css).eraseIdx i)
section
variable {w0 w:World}{L:List bE}{α:Type}{e:TypeId}{sz n cc i:Nat}{own:α→List Value→bE}{v:Value}{l:List α}{ca:Option Addr}{cs:List Value}{x y:α}
theorem Fit.Bn(h:Fit w0 (an (qP e sz own v l::L)) w) :∃css:List (kX sz),css.length=l.length∧Fit w0 (an (rowOf e sz kX.cs v css::(List.zipWith (λx c=>own x c.cs) l css++L))) w:=by
 obtain⟨css,h⟩:=h.kU
 have h:=h.pT
 obtain⟨hl,h⟩:=h.wo
 exact⟨css,hl,h⟩
theorem Fit.Bo{css:List (kX sz)}(hl:css.length=l.length)(h:Fit w0 (an (rowOf e sz kX.cs v css::(List.zipWith (λx c=>own x c.cs) l css++L))) w):Fit w0 (an (qP e sz own v l::L)) w:=by
 refine Fit.iK css ?_
 refine Fit.oL (LP (css.length=l.length)::rowOf e sz kX.cs v css::List.zipWith (λx c=>own x c.cs) l css) L ?_
 exact h.uF hl
theorem Fit.xh(h:Fit w0 (an (wB e sz own v l i cs::L)) w) :∃css:List (kX sz),css.length=l.length∧(css[i]?).map kX.cs=some cs∧Fit w0 (an (rowOf e sz kX.cs v css::((List.zipWith (λx c=>own x c.cs) l css).eraseIdx i++L))) w:=by
 obtain⟨css,h⟩:=h.kU
 have h:=h.pT
 obtain⟨hl,h⟩:=h.wo
 exact⟨css,hl.1,hl.2,h⟩
theorem Fit.Jb{css:List (kX sz)}(hl:css.length=l.length)(hi:(css[i]?).map kX.cs=some cs)(h:Fit w0 (an (rowOf e sz kX.cs v css::((List.zipWith (λx c=>own x c.cs) l css).eraseIdx i++L))) w):Fit w0 (an (wB e sz own v l i cs::L)) w:=by
 refine Fit.iK css ?_
 refine Fit.oL (LP (css.length=l.length∧(css[i]?).map kX.cs=some cs)::rowOf e sz kX.cs v css::(List.zipWith (λx c=>own x c.cs) l css).eraseIdx i) L ?_
 exact h.uF ⟨hl,hi⟩
theorem Fit.BQ(h:Fit w0 (an L) w):Fit w0 (an (qP e sz own (.slice none 0 0) ([]:List α)::L)) w:=
 Fit.Bo (css:=[]) rfl (Fit.jX h)
theorem Fit.HA(h:Fit w0 (an (qP e sz own (.slice ca n cc) l::L)) w):n=l.length:=by
 obtain⟨css,hl,h⟩:=h.Bn
 rw[←hl];exact h.eY
theorem Fit.Ra(h:Fit w0 (an (wB e sz own (.slice ca n cc) l i cs::L)) w):n=l.length:=by
 obtain⟨css,hl,_,h⟩:=h.xh
 rw[←hl];exact h.eY
theorem Fit.lU(h:Fit w0 (an (qP e sz own v l::L)) w)(hi:l[i]? = some x) :∃cs,Fit w0 (an (wB e sz own v l i cs::own x cs::L)) w:=by
 obtain⟨css,hl,h⟩:=h.Bn
 have BE:i<css.length:=by rw[hl];exact(List.getElem?_eq_some_iff.1 hi).1
 have hc:css[i]? = some css[i]:=List.getElem?_eq_getElem BE
 refine⟨css[i].cs,Fit.Jb hl (by rw[hc];rfl) ?_⟩
 have hz:(List.zipWith (λx c=>own x c.cs) l css)[i]? = some (own x css[i].cs):=by
  rw[List.getElem?_zipWith,hi,hc]
 have h2:Fit w0 (an (List.zipWith (λx c=>own x c.cs) l css++(rowOf e sz kX.cs v css::L))) w:=h.perm (by
  refine(List.perm_middle (l₁:=List.zipWith (λx c=>own x c.cs) l css) (a:=rowOf e sz kX.cs v css) (l₂:=L)).symm)
 have h3:=Fit.oL _ _ h2
 have h4:Fit w0 (an (an (own x css[i].cs::(List.zipWith (λx c=>own x c.cs) l css).eraseIdx i)::rowOf e sz kX.cs v css::L)) w:=by
  refine h3.head λq hq => ?_
  have:=zV i (List.zipWith (λx c=>own x c.cs) l css)
  unfold SL.pick at this
  rw[hz]at this
  show an _ q
  rw[this];exact hq
 have h5:=h4.pT
 refine h5.perm ?_
 simp only[List.cons_append]
 refine((List.perm_middle (l₁:=(List.zipWith (λx c=>own x c.cs) l css).eraseIdx i) (a:=rowOf e sz kX.cs v css) (l₂:=L)).cons _).trans ?_
 refine(List.Perm.swap _ _ _).trans (List.Perm.cons _ ?_)
 exact(List.perm_middle (l₁:=(List.zipWith (λx c=>own x c.cs) l css).eraseIdx i) (a:=own x css[i].cs) (l₂:=L)).symm
theorem Fit.L6(hi:i<l.length)(h:Fit w0 (an (wB e sz own v l i cs::own y cs::L)) w):Fit w0 (an (qP e sz own v (l.set i y)::L)) w:=by
 obtain⟨css,hl,hc,h⟩:=h.xh
 have BE:i<css.length:=by rw[hl];exact hi
 have DL:css[i]? = some css[i]:=List.getElem?_eq_getElem BE
 rw[DL]at hc
 simp only[Option.map_some,Option.some.injEq]at hc
 refine Fit.Bo (css:=css) (by rw[List.length_set];exact hl) ?_
 have hz:(List.zipWith (λx c=>own x c.cs) (l.set i y) css)[i]? = some (own y cs):=by
  rw[List.getElem?_zipWith,List.getElem?_set_self hi,DL,←hc]
 have he:(List.zipWith (λx c=>own x c.cs) (l.set i y) css).eraseIdx i=(List.zipWith (λx c=>own x c.cs) l css).eraseIdx i:=by
  have h1:List.zipWith (λx c=>own x c.cs) (l.set i y) css=(List.zipWith (λx c=>own x c.cs) l css).set i (own y css[i].cs):=by
   apply List.ext_getElem?
   intro k
   rw[List.getElem?_zipWith]
   by_cases hk:i=k
   ·subst hk
    rw[List.getElem?_set_self hi,DL,List.getElem?_set_self (by rw[List.length_zipWith];omega)]
   ·rw[List.getElem?_set_ne hk,List.getElem?_set_ne hk,List.getElem?_zipWith]
  rw[h1]
  apply List.ext_getElem?
  intro k
  rw[List.getElem?_eraseIdx,List.getElem?_eraseIdx]
  split
  ·rw[List.getElem?_set_ne (by omega)]
  ·rw[List.getElem?_set_ne (by omega)]
 have h2:Fit w0 (an ((own y cs::(List.zipWith (λx c=>own x c.cs) (l.set i y) css).eraseIdx i)++(rowOf e sz kX.cs v css::L))) w:=by
  rw[he]
  refine h.perm ?_
  simp only[List.cons_append]
  refine(List.Perm.cons _ (List.perm_middle (l₁:=(List.zipWith (λx c=>own x c.cs) l css).eraseIdx i) (a:=own y cs) (l₂:=L))).trans ?_
  refine(List.Perm.swap _ _ _).trans (List.Perm.cons _ ?_)
  exact(List.perm_middle (l₁:=(List.zipWith (λx c=>own x c.cs) l css).eraseIdx i) (a:=rowOf e sz kX.cs v css) (l₂:=L)).symm
 have h3:=Fit.oL _ _ h2
 have h4:Fit w0 (an (an (List.zipWith (λx c=>own x c.cs) (l.set i y) css)::rowOf e sz kX.cs v css::L)) w:=by
  refine h3.head λq hq => ?_
  have:=zV i (List.zipWith (λx c=>own x c.cs) (l.set i y) css)
  unfold SL.pick at this
  rw[hz]at this
  rw[←this];exact hq
 exact h4.pT.perm (List.perm_middle (l₁:=List.zipWith (λx c=>own x c.cs) (l.set i y) css) (a:=rowOf e sz kX.cs v css) (l₂:=L))
theorem Fit.nI(h:Fit w0 (an (wB e sz own (.slice ca n cc) l i cs::L)) w)(hp:0<sz){f:Nat}{u:Value}(hf:cs[f]? = some u):w.cell? ⟨GX.bg ca,i*sz+f,none⟩=some u:=by
 obtain⟨css,hl,hc,h⟩:=h.xh
 cases DL:css[i]? with
 | none=>rw[DL]at hc;simp at hc
 | some c =>
  rw[DL]at hc
  simp only[Option.map_some,Option.some.injEq]at hc
  exact h.cL (Bm hp) DL (by rw[hc];exact hf)
theorem Fit.Jc(h:Fit w0 (an (wB e sz own v l i cs::L)) w):i<l.length:=by
 obtain⟨css,hl,hc,_⟩:=h.xh
 cases DL:css[i]? with
 | none=>rw[DL]at hc;simp at hc
 | some c=>have:=(List.getElem?_eq_some_iff.1 DL).1;omega
theorem Fit.uK(h:Fit w0 (an (wB e sz own v l i cs::own y cs::L)) w):Fit w0 (an (qP e sz own v (l.set i y)::L)) w:=h.L6 h.Jc
theorem Fit.gA[Inhabited α](h:Fit w0 (an (wB e sz own v l i cs::own (GX.ag l i) cs::L)) w):Fit w0 (an (qP e sz own v l::L)) w:=by
 have hi:=h.Jc
 have h:=h.uK
 have e1:l.set i (GX.ag l i)=l:=by
  apply List.ext_getElem?
  intro k
  by_cases hk:i=k
  ·subst hk;rw[List.getElem?_set_self hi,GX.get_at hi]
  ·rw[List.getElem?_set_ne hk]
 rw[e1]at h;exact h
theorem Fit.Kj(h:Fit w0 (an (qP e sz own (.slice ca n cc) l::L)) w)(hl:0<l.length):ca=some ⟨GX.bg ca,0,none⟩:=by
 obtain⟨css,hl',h⟩:=h.Bn
 exact(h.oZ (by omega)).1
theorem Fit.Kk(h:Fit w0 (an (wB e sz own (.slice ca n cc) l i cs::L)) w):ca=some ⟨GX.bg ca,0,none⟩:=by
 obtain⟨css,hl',hc,h⟩:=h.xh
 have:0<css.length:=by
  cases DL:css[i]? with
  | none=>rw[DL]at hc;simp at hc
  | some c=>have:=(List.getElem?_eq_some_iff.1 DL).1;omega
 exact(h.oZ this).1
theorem Fit.xj{enc:α→List Value}{b:Nat}{cs:Array Value}{T:TypeId}(hl:l.length=n)(hc:cs.toList=l.flatMap enc)(he:pU enc sz)(hm:n≤maxLen)(h:Fit w0 (an (pts b (.cells cs T)::L)) w) :
 Fit w0 (an (rowOf T sz enc (.slice (some ⟨b,0,none⟩) n n) l::L)) w:=by
 subst hl
 refine h.head λz hz=>.inr ⟨b,l.length,cs,rfl,Nat.le_refl _,hm,?_,?_,hz⟩
 ·rw[←Array.length_toList,hc,he.flat]
 ·rw[hc];exact List.take_of_length_le (by rw[he.flat];exact Nat.le_refl _)
end
end SL
namespace GX
open Go Go.RowKit SL
section
variable {P:Program}{ops:Array Oper}{Q:Exit→Act→World→Prop}{a:Act}{w w0 w1:World}{rest:List Oper}{o:Oper}{n d t:Nat}{v:Value}{l:List (Nat×Value)}{j e:Nat→Value}{L:List bE}{H:bE}{Df:List Deferred}
variable {α:Type}{E:TypeId}{sz n0 cc:Nat}{enc:α→List Value}{xs:List α}{ca:Option Addr}{own:α→List Value→bE}
theorem Bp{w':World}{x y:Operand}{k:IntKind}{i:Int}(ho:o.op= .indexAddr t x y)(hx:eJ e x= .slice ca n cc)(hy:eJ e y= .int k i)
 (ht:P.underlying t=some (.slice E)) (hs:(P.info? E).map (·.size)=some sz) (hF:Fit w0 (an (qP E sz own (.slice ca n cc) xs::L)) w) (hi:bT i xs.length):(execOp (eJ e) o).run P w'= .ok (.value (.pointer (some ⟨bg ca,i.toNat*sz,none⟩))) w':=by
 have hn:=hF.HA
 have h0:=hi.1;have h1:=hi.2
 exact Q0 (hF.Kj (by omega)) ho hx hy ht hs h0 (by omega)
theorem sR{w':World}{x y:Operand}{k:IntKind}{i:Int}{i0:Nat}{cs:List Value}(ho:o.op= .indexAddr t x y)(hx:eJ e x= .slice ca n cc)(hy:eJ e y= .int k i)
 (ht:P.underlying t=some (.slice E)) (hs:(P.info? E).map (·.size)=some sz) (hF:Fit w0 (an (wB E sz own (.slice ca n cc) xs i0 cs::L)) w) (hi:bT i xs.length):(execOp (eJ e) o).run P w'= .ok (.value (.pointer (some ⟨bg ca,i.toNat*sz,none⟩))) w':=by
 have hn:=hF.Ra
 have h0:=hi.1;have h1:=hi.2
 exact Q0 hF.Kk ho hx hy ht hs h0 (by omega)
theorem HB{x y:Operand}{k:IntKind}{i:Int}{b N:Nat}{w':World}(ho:o.op= .indexAddr t x y)(hx:eJ e x= .pointer (some ⟨b,0,none⟩))(hy:eJ e y= .int k i)
 (ht:P.underlying t=some (.array N E)) (hs:(P.info? E).map (·.size)=some sz) (hN:xs.length=N) (hi:bT i xs.length):(execOp (eJ e) o).run P w'= .ok (.value (.pointer (some ⟨bg (some ⟨b,0,none⟩),i.toNat*sz,none⟩))) w':=by
 unfold execOp
 have h0:=hi.1;have h1:=hi.2
 simp only[ho,hx,hy]
 subst hN
 cases hq:P.info? E with
 | none=>simp[hq]at hs
 | some q =>
  simp[hq]at hs
  simp[Instr.indexAt,Instr.sureAddr,run_underlying ht,asIntOf,h0,h1,sizeOf,typeInfo,hq,hs,Addr.add_lit,bg]
theorem xX{x y:Operand}{i f:Nat}{cs:List Value}(hw:Region.wanted o (yielded ops a.tmps)=true)(hd:o.dst=none)(hr:cy Df n (lk l j) a)(ho:o.op= .store t x y)
 (hx:eJ (lk l j) x= .pointer (some ⟨bg ca,i*sz+f,none⟩)) (hy:eJ (lk l j) y=v) (hv:v.cells=#[v]) (h1:v.oneCell'=true) (hs:(P.info? t).map (·.size)=some 1) (hp:Nat.blt 0 sz=true)
 (hF:Fit w0 (an (wB E sz own (.slice ca n0 cc) xs i cs::L)) w) (hf:f<sz)
 (k:∀w1,Fit w0 (an (wB E sz own (.slice ca n0 cc) xs i (cs.set f v)::L)) w1→wpList P ops Q rest a w1):wpList P ops Q (o::rest) a w:=by
 obtain⟨css,hl,hc,h⟩:=hF.xh
 have hp':0<sz:=Nat.le_of_ble_eq_true hp
 cases DL:css[i]? with
 | none=>rw[DL]at hc;simp at hc
 | some c =>
  rw[DL]at hc
  simp only[Option.map_some,Option.some.injEq]at hc
  have hlt:i<css.length:=(List.getElem?_eq_some_iff.1 DL).1
  let q:kX sz:=⟨c.cs.set f v,by rw[List.length_set];exact c.len,λu hu=>by
   rcases List.mem_or_eq_of_mem_set hu with h | h
   ·exact c.one u h
   ·subst h;exact h1⟩
  refine bx hw hd hr ho hx hy hv h1 hs (Bm hp') h (p:=c) (q:=q) DL hf rfl λw1 h=>k w1 ?_
  refine Fit.Jb (css:=css.set i q) (by rw[List.length_set];exact hl) (by rw[List.getElem?_set_self hlt,←hc];rfl) ?_
  have he:(List.zipWith (λx c=>own x c.cs) xs (css.set i q)).eraseIdx i=(List.zipWith (λx c=>own x c.cs) xs css).eraseIdx i:=by
   apply List.ext_getElem?
   intro k
   rw[List.getElem?_eraseIdx,List.getElem?_eraseIdx]
   split
   ·rw[List.getElem?_zipWith,List.getElem?_zipWith,List.getElem?_set_ne (by omega)]
   ·rw[List.getElem?_zipWith,List.getElem?_zipWith,List.getElem?_set_ne (by omega)]
  rw[he];exact h
theorem AN{bytes:Nat}{s x:Operand}{ad:Addr}{c:Nat}{y:α}{cs:List Value}(hw:Region.wanted o (yielded ops a.tmps)=true)(hd:o.dst=some d)(hn:Nat.blt d n=true)(hr:cy Df n (lk l j) a)
 (ho:o.op= .call {callee:=.builtin .append,args:=#[s,x],argTypes:=#[t,t]}) (hs:eJ (lk l j) s= .slice ca n0 cc) (hx:eJ (lk l j) x= .slice (some ad) 1 c)
 (hty:P.underlying t=some (.slice E)) (nX:(P.info? E).map (λi=>(i.size,i.bytes,i.zero.map (·.cells.size)))=some (sz,bytes,some sz))
 (hsz:cs.length=sz) (hone:cs.all (·.oneCell')=true) (hp:Nat.blt 0 sz=true)
 (hF:Fit w0 (an (qP E sz own (.slice ca n0 cc) xs::own y cs::L)) w) (hnews:∀j u,cs[j]? = some u→w.cell? (ad.add j)=some u)
 (hb:(xs.length+1)*bytes≤140737488355328) (Hg:Nat.blt 0 bytes=true)
 (k:∀ca cc w1 a,Fit w0 (an (qP E sz own (.slice ca (xs++[y]).length cc) (xs++[y])::L)) w1→cy Df n (lk ((d,.slice ca (xs++[y]).length cc)::l) j) a→wpList P ops Q rest a w1):wpList P ops Q (o::rest) a w:=by
 obtain⟨css,hl,h⟩:=hF.Bn
 have hp':0<sz:=Nat.le_of_ble_eq_true hp
 let c0:kX sz:=⟨cs,hsz,by simpa using hone⟩
 have hlen:(css++[c0]).length=(xs++[y]).length:=by rw[List.length_append,List.length_append,hl];rfl
 refine mO (m:=1) (c:=c) (bytes:=bytes) hw hd hn hr ho hs hx (Bm hp') (E:=E) (xs:=css) hty nX h (news:=[c0]) rfl (by simpa using hnews) (by rw[hl];exact hb) Hg λca cc w1 a h Fm => ?_
 rw[hlen]at h Fm
 refine k ca cc w1 a (Fit.Bo (css:=css++[c0]) hlen ?_) Fm
 rw[List.zipWith_append (by rw[hl])]
 simp only[List.zipWith_cons_cons,List.zipWith_nil_right,List.append_assoc,List.cons_append,List.nil_append]
 exact h
theorem vh{bytes:Nat}{s x:Operand}{va:Option Addr}{m0 c:Nat}(hw:Region.wanted o (yielded ops a.tmps)=true)(hd:o.dst=some d)(hn:Nat.blt d n=true)(hr:cy Df n (lk l j) a)
 (ho:o.op= .call {callee:=.builtin .append,args:=#[s,x],argTypes:=#[t,t]}) (hs:eJ (lk l j) s= .slice ca n0 cc) {news:List α} (hx:eJ (lk l j) x= .slice va news.length c)
 (he:pU enc sz) (hty:P.underlying t=some (.slice E)) (nX:(P.info? E).map (λi=>(i.size,i.bytes,i.zero.map (·.cells.size)))=some (sz,bytes,some sz))
 (hF:Fit w0 (an (rowOf E sz enc (.slice ca n0 cc) xs::L)) w) (hnews:cu L sz enc va news)
 (hb:(xs.length+news.length)*bytes≤140737488355328) (Hg:Nat.blt 0 bytes=true)
 (k:∀ca cc w1 a,Fit w0 (an (rowOf E sz enc (.slice ca (xs++news).length cc) (xs++news)::L)) w1→cy Df n (lk ((d,.slice ca (xs++news).length cc)::l) j) a→wpList P ops Q rest a w1):wpList P ops Q (o::rest) a w:=by
 by_cases h0:news.length=0
 ·have Ke:news=[]:=List.eq_nil_of_length_eq_zero h0
  subst Ke
  have Rb:=hF.eY
  simp only[List.append_nil]at k
  obtain⟨q,z,hq,h1,h2,h3,h4⟩ :∃i z,P.info? E=some i∧i.size=sz∧i.bytes=bytes∧i.zero=some z∧z.cells.size=sz:=by
   cases hi:P.info? E with
   | none=>simp[hi]at nX
   | some i =>
    simp only[hi,Option.map_some,Option.some.injEq,Prod.mk.injEq]at nX
    cases hz:i.zero with
    | none=>simp[hz]at nX
    | some z=>exact⟨i,z,rfl,nX.1,nX.2.1,hz,by simpa [hz]using nX.2.2⟩
  obtain⟨a',c',e1,_,LH⟩:=hF.Bl
  simp only[Value.slice.injEq]at e1
  obtain⟨rfl,_,rfl⟩:=e1
  refine oM (w1:=w) (v:=.slice ca xs.length cc) hw hd hn hr ?_ (λa hr=>k ca cc w a (Rb▸ hF) hr)
  unfold execOp
  have hle:n0≤cc:=by omega
  simp only[ho,resolve,invoke,builtin,Sem.run_bind,Sem.run_pure,Result.andThen_ok,List.map_toArray,List.map_cons,List.map_nil,hs,hx]
  subst Rb
  cases ca with
  | none=>cases va<;>simp[Builtin.append_,run_underlying hty,sizeOf,typeInfo,hq,Builtin.lenOf,Builtin.firstCells,loadCells,loadCellsFrom,LH]
  | some ac=>cases va<;>simp[Builtin.append_,run_underlying hty,sizeOf,typeInfo,hq,Builtin.lenOf,Builtin.firstCells,loadCells,loadCellsFrom,LH,storeCells]
 ·obtain⟨y,hy⟩ :∃y,news[0]? = some y:=⟨_,List.getElem?_eq_getElem (by omega)⟩
  have XS:=(hnews 0 y hy).1
  rw[XS]at hx
  refine mO (m:=news.length) (c:=c) (bytes:=bytes) hw hd hn hr ho hs hx he hty nX hF (news:=news) rfl (λi u hu => ?_) hb Hg k
  have hlt:=(List.getElem?_eq_some_iff.1 hu).1
  rw[he.flat]at hlt
  have hp:=he.pos
  have hdiv:i/sz<news.length:=(Nat.div_lt_iff_lt_mul hp).2 hlt
  have hm:i%sz<sz:=Nat.mod_lt _ hp
  have hyi:news[i/sz]? = some (news[i/sz]'hdiv):=List.getElem?_eq_getElem hdiv
  have hg:=he.get news (i/sz) (i%sz) _ hyi hm
  rw[show i/sz*sz+i%sz=i by rw[Nat.mul_comm];exact Nat.div_add_mod i sz,hu]at hg
  have:=(hnews _ _ hyi).2 (i%sz) u hg.symm w0 w hF.drop
  rw[Addr.add_lit]
  rw[show jY va+i=jY va+i/sz*sz+i%sz by rw[Nat.add_assoc,Nat.mul_comm,Nat.div_add_mod]]
  exact this
end
end GX
end
section
namespace Ar
open Go Go.RowKit SL GX
structure Acc where
 who:Int
 kind:Int
 addr:Int
 a:Int
 b:Int
 ok:Bool
deriving Inhabited,DecidableEq
def kY(x:Int):List Value:=[.int .i64 x]
def BR(x:Acc):List Value:=[.int .i64 x.who,.int .i64 x.kind,.int .i64 x.addr,.int .i64 x.a,.int .i64 x.b,.bool x.ok]
structure zP where
 size:Int
 cells:List Int
 log:List Acc
 oT:Int
 on:Bool
def XT(on:Bool)(log:List Acc)(x:Acc):List Acc:=if on=true then log++[x]else log
def zP.note(S:zP)(k i x y:Int)(ok:Bool):zP:={S with log:=XT S.on S.log ⟨S.oT,k,i,x,y,ok⟩}
def Ou(mk ad:Int):Bool:=decide (ad≥0)&&decide (ad<mk)
def zP.load(S:zP)(i:Int):(Int×Int)×zP:=
 if Ou S.cells.length i=true then((ag S.cells i.toNat,0),S.note 0 i (ag S.cells i.toNat) 0 true)else((0,20),S)
def zP.store(S:zP)(i v:Int):Int×zP:=
 if Ou S.cells.length i=true then(0,{S with cells:=S.cells.set i.toNat v}.note 1 i v 0 true)else(20,S)
def zP.XU(S:zP)(i x y:Int):(Bool×Int)×zP:=
 if Ou S.cells.length i=true then
  if ag S.cells i.toNat=x then((true,0),{S with cells:=S.cells.set i.toNat y}.note 2 i x y true)
  else ((false,0),S.note 2 i x y false)
 else ((false,20),S)
def zP.add(S:zP)(i d:Int):(Int×Int)×zP:=
 if Ou S.cells.length i=true then
  ((IntKind.i64.wrap (ag S.cells i.toNat+d),0),{S with cells:=S.cells.set i.toNat (IntKind.i64.wrap (ag S.cells i.toNat+d))}.note 3 i d (IntKind.i64.wrap (ag S.cells i.toNat+d)) true)
 else ((0,20),S)
def zP.reserve(S:zP)(n:Int):(Int×Int)×zP:=
 if n<1 then((0,21),S)
 else if n>S.size-S.cells.length then((0,22),S)
 else ((((S.cells.length:Nat):Int),0),{S with cells:=S.cells++List.replicate n.toNat 0}.note 4 S.cells.length n 0 true)
def zP.done(S:zP)(k i x y:Int):(Int×Bool×Int)×zP:=
 if k=0 then(((S.load i).1.1,(S.load i).1.2==0,(S.load i).1.2),(S.load i).2)
 else if k=1 then((0,(S.store i x).1==0,(S.store i x).1),(S.store i x).2)
 else if k=2 then((0,(S.XU i x y).1.1,(S.XU i x y).1.2),(S.XU i x y).2)
 else if k=3 then(((S.add i x).1.1,(S.add i x).1.2==0,(S.add i x).1.2),(S.add i x).2)
 else (((S.reserve x).1.1,(S.reserve x).1.2==0,(S.reserve x).1.2),(S.reserve x).2)
def zP.new(n:Int):zP:={size:=n,cells:=[],log:=[],oT:=0,on:=false}
def Jd(S:zP)(ca:Option Addr)(cc:Nat)(la:Option Addr)(lc:Nat):Obj:=
 .cells #[.int .i64 S.size,.int .i64 ((S.cells.length:Nat):Int),.slice ca S.cells.length cc,.slice la S.log.length lc,.int .i64 S.oT,.bool S.on] 92
def yo(A:Nat)(S:zP):bE:=exs λca=>exs λcc=>exs λla=>exs λlc =>
 an [pts A (Jd S ca cc la lc),rowOf 2 1 kY (.slice ca S.cells.length cc) S.cells,rowOf 159 6 BR (.slice la S.log.length lc) S.log]
section
variable {z w:World}{L:List bE}{A:Nat}{S:zP}
theorem yo.op(h:Fit z (an (yo A S::L)) w) :∃ca cc la lc,Fit z (an (pts A (Jd S ca cc la lc)::rowOf 2 1 kY (.slice ca S.cells.length cc) S.cells::rowOf 159 6 BR (.slice la S.log.length lc) S.log::L)) w:=by
 obtain⟨ca,h⟩:=h.kU
 obtain⟨cc,h⟩:=h.kU
 obtain⟨la,h⟩:=h.kU
 obtain⟨lc,h⟩:=h.kU
 exact⟨ca,cc,la,lc,h.pT⟩
theorem yo.sh{n m:Nat}{q:Int}{ca cc la lc}(h:Fit z (an (pts A (.cells #[.int .i64 S.size,.int .i64 q,.slice ca n cc,.slice la m lc,.int .i64 S.oT,.bool S.on] 92)::rowOf 2 1 kY (.slice ca n cc) S.cells::rowOf 159 6 BR (.slice la m lc) S.log::L)) w)
 (hq:q=((n:Nat):Int)) (hn:n=S.cells.length) (hm:m=S.log.length):Fit z (an (yo A S::L)) w:=by
 subst hq
 subst hn
 subst hm
 exact Fit.iK ca (Fit.iK cc (Fit.iK la (Fit.iK lc (Fit.oL [_,_,_] L h))))
theorem yo.mk{n:Int}(h:Fit z (an (pts A (.cells #[.int .i64 n,.int .i64 0,.slice none 0 0,.slice none 0 0,.int .i64 0,.bool false] 92)::L)) w):Fit z (an (yo A (zP.new n)::L)) w:=by
 have h1:Fit z (an (rowOf 159 6 BR (.slice none 0 0) ([]:List Acc)::pts A _::L)) w:=h.jX
 have h2:Fit z (an (rowOf 2 1 kY (.slice none 0 0) ([]:List Int)::rowOf 159 6 BR (.slice none 0 0) ([]:List Acc)::pts A _::L)) w:=h1.jX
 exact yo.sh (S:=zP.new n) (h2.pick 2) rfl rfl rfl
end
end Ar
end
section
namespace RK
open Go Go.RowKit Go.ChangeShapes Go.WideShapes Go.Deep SL GX Ar
section
variable {H:Type}{enc:TypeId×Value→H}{P:Program}{w W:World}{base:Nat}{spare:Nat→Bool}{held:Bool}{r:Reach}{b0:Nat}{t e:TypeId}{v:Value}{d:DataW H}{ps:List MemPlace}
theorem xY(hl:laidOutB P=true){W':World}(hb:Below W.heap.size W W'):∀{ts:List TypeId} {vs:List Value} {ds:List (DataW H)} {ps:List MemPlace},
 ts.all (λt=>P.readableRec t&&decide (t<P.types.size))=true→DataW.TrodAll enc P W 0 (λ_=>true) true ts vs ds ps→DataW.TrodAll enc P W' 0 (λb=>decide (b<W.heap.size)) true ts vs ds ps
 | [],[],[],_,_,h=>h
 | t::ts,v::vs,d::ds,_,hts,⟨p,q,h1,h2,e⟩=>by
  simp only[List.all_cons,Bool.and_eq_true,decide_eq_true_eq]at hts
  refine⟨p,q,Below.trod hl hts.1.1 hts.1.2 h1 hb ?_,xY hl hb hts.2 h2,e⟩
  obtain⟨n,hn⟩:=h1
  exact DataW.trod_lt n _ _ _ hn
theorem wf_i64{x:Int}(h:(Lit.int .i64 x).wf=true):-9223372036854775808≤x∧x≤9223372036854775807:=by
 simp only[Lit.wf,Bool.and_eq_true,decide_eq_true_eq]at h
 exact⟨h.1,h.2⟩
end
end RK
end
section
namespace RK
open Go Go.RowKit Go.ChangeShapes Go.WideShapes Go.Deep SL GX
theorem FU{H:Type}(d:DataW H):1≤Rows.uptoBulk d:=by
 cases d with
 | lit l=>cases l<;>simp[Rows.uptoBulk]
 | nil=>simp[Rows.uptoBulk]
 | ptr d=>simp[Rows.uptoBulk]
 | slice elems spare=>simp[Rows.uptoBulk]
 | agg parts=>simp[Rows.uptoBulk]
 | iface t d=>simp[Rows.uptoBulk]
 | map entries=>simp[Rows.uptoBulk]
 | held h=>simp[Rows.uptoBulk]
theorem DM{H:Type}{d:DataW H}{l:List (DataW H)}(h:d∈l):Rows.uptoBulk d≤Rows.uptoBulkAll l:=by
 induction l with
 | nil=>cases h
 | cons x r ih =>
  simp only[Rows.uptoBulkAll]
  cases List.mem_cons.1 h with
  | inl e=>subst e;omega
  | inr e=>have:=ih e;omega
theorem L7{H:Type}(l:List (DataW H)):l.length≤Rows.uptoBulkAll l:=by
 induction l with
 | nil=>simp
 | cons x r ih=>have:=FU x;simp only[Rows.uptoBulkAll,List.length_cons];omega
end RK
end
section
namespace RK
open Go Go.RowKit Go.ChangeShapes Go.WideShapes Go.Deep SL GX
def BS(x:Int):Prop:=-9223372036854775808≤x∧x≤9223372036854775807
end RK
end
section
namespace GX
open Go Go.RowKit SL
abbrev vI(x:Int):Value:=.int .i64 x
abbrev vB(x:Bool):Value:=.bool x
abbrev pN:Value:=.pointer none
abbrev pA(b off:Nat):Value:=.pointer (some ⟨b,off,none⟩)
section
variable {P:Program}{ops:Array Oper}{Q:Exit→Act→World→Prop}{a:Act}{w w0 w1:World}{rest:List Oper}{o:Oper}{n d t T:Nat}{v u:Value}{l:List (Nat×Value)}{j e:Nat→Value}{L:List bE}{Df:List Deferred}
theorem pX{i:Nat}{b x c r:Bool}(hr:cy Df n e a)(pf:x=c)(hg:o.guard=some (i,b):=by rfl)(hi:(ops[i]?).bind (·.dst)=some t:=by rfl)(ht:Nat.blt t n=true:=by rfl)(he:e t= .bool x:=by kernel_rfl)(hc:(c==b)=r:=by rfl) :
 Region.wanted o (yielded ops a.tmps)=r:=by
 subst pf hc;exact wg hr hg hi ht he
theorem XV(hw:Region.wanted o (yielded ops a.tmps)=false)(hr:cy Df n (lk l j) a)(k:∀a,cy Df n (lk ((d,undef)::l) j) a→wpList P ops Q rest a w)(hd:o.dst=some d:=by rfl)(hn:Nat.blt d n=true:=by rfl):wpList P ops Q (o::rest) a w:=Hx hw hd hn hr k
theorem Ov(hw:Region.wanted o (yielded ops a.tmps)=true)(hr:cy Df n (lk l j) a)(v:Value)(hrun:(execOp (eJ (lk l j)) o).run P w= .ok (.value v) w)(k:∀a,cy Df n (lk ((d,v)::l) j) a→wpList P ops Q rest a w)(hd:o.dst=some d:=by rfl)(hn:Nat.blt d n=true:=by rfl):wpList P ops Q (o::rest) a w:=u9 hw hd hn hr hrun k
theorem ld{x:Operand}{ad:Addr}(hw:Region.wanted o (yielded ops a.tmps)=true)(hr:cy Df n (lk l j) a)(v:Value)(hc:w.cell? ad=some v)(k:∀a,cy Df n (lk ((d,v)::l) j) a→wpList P ops Q rest a w)
 (hd:o.dst=some d:=by rfl) (hn:Nat.blt d n=true:=by rfl) (ho:o.op= .load T x:=by rfl) (hx:eJ (lk l j) x= .pointer (some ad):=by kernel_rfl) (hu:vb (P.underlying T)=true:=by kernel_rfl):wpList P ops Q (o::rest) a w:=u9 hw hd hn hr (rl ho hx hu hc) k
theorem tK{x:Operand}{b off:Nat}{cs:List Value}(hw:Region.wanted o (yielded ops a.tmps)=true)(hr:cy Df n (lk l j) a)(v:Value)(hc:oS w b off cs)(k:∀a,cy Df n (lk ((d,v)::l) j) a→wpList P ops Q rest a w)(hv: .agg cs.toArray=v:=by rfl)
 (hd:o.dst=some d:=by rfl) (hn:Nat.blt d n=true:=by rfl) (ho:o.op= .load T x:=by rfl) (hx:eJ (lk l j) x= .pointer (some ⟨b,off,none⟩):=by kernel_rfl) (hu:sv (P.underlying T)=true:=by kernel_rfl) (hs:(P.info? T).map (·.size)=some cs.length:=by kernel_rfl):wpList P ops Q (o::rest) a w:=by
 subst hv;exact u9 hw hd hn hr (Xt ho hx hu hs hc) k
theorem _root_.Go.Proofs.YtpikpffbcjpmcaaGreatDoor.SL.Fit.held{z:World}{b:Nat}{cs:Array Value}{t:TypeId}{q:Nat×Nat}(h:Fit z (an (pts b (.cells cs t q)::L)) w)(off:Nat){xs:List Value}(hx:(cs.toList.drop off).take xs.length=xs):oS w b off xs:=by
 have hg:∀k u,xs[k]? = some u→w.cell? ⟨b,off+k,none⟩=some u:=by
  intro k u hk
  refine h.cell (off+k) ?_
  rw[←hx,List.getElem?_take]at hk
  split at hk
  ·rw[List.getElem?_drop]at hk;simpa using hk
  ·cases hk
 clear hx
 induction xs generalizing off with
 | nil=>trivial
 | cons x xs ih =>
  refine⟨hg 0 x rfl,ih (off+1) λk u hk => ?_⟩
  have:=hg (k+1) u (by simpa using hk)
  rw[show off+1+k=off+(k+1) by omega];exact this
theorem sr{Rc:Nat}{y:Code}{os:List Oper}(h:wpList P os.toArray (Exit.then (y.wp P Q) Q) os a w):(Code.seq (.region Rc os.toArray false) y).wp P Q a w:=wp_seq (wp_region_lit h)
theorem gU{D:World→Prop}{E:List Nat}{listed:Array Bool}[hp:PI Q](fuel i:Nat)(hi:ops[i]? = some o)(hw:Region.wanted o (yielded ops a.tmps)=true)(hr:cy Df n (lk l j) a)(v:Value)
 (k:∀a,cy Df n (lk ((d,v)::l) j) a→ff P .any ops Q D E fuel (listed.setIfInBounds i true) a w) (hB:okB ops E listed i=true:=by kernel_rfl)
 (hrun:∀w,(execOp (eJ (lk l j)) o).run P w= .ok (.value v) w:=by intro w;kernel_rfl) (hd:o.dst=some d:=by rfl) (hn:Nat.blt d n=true:=by rfl) :
 ff P .any ops Q D E (fuel+1) listed a w:=ev fuel i hi hB hw hr v hrun k hd hn
theorem Qi{D:World→Prop}{E:List Nat}{listed:Array Bool}[hp:PI Q](fuel i:Nat)(hi:ops[i]? = some o)(hw:Region.wanted o (yielded ops a.tmps)=false)(hr:cy Df n (lk l j) a)
 (k:∀a,cy Df n (lk ((d,undef)::l) j) a→ff P .any ops Q D E fuel (listed.setIfInBounds i true) a w) (hB:okB ops E listed i=true:=by kernel_rfl) (hd:o.dst=some d:=by rfl) (hn:Nat.blt d n=true:=by rfl) :
 ff P .any ops Q D E (fuel+1) listed a w:=eo fuel i hi hB hw hr k hd hn
abbrev nb(b:Nat):Value:=pA b 0
theorem o1(hr:cy Df n (lk l j) a)(v:Value)(k:∀a,cy Df n (lk ((d,v)::l) j) a→wpList P ops Q rest a w)(hrun:(execOp (eJ (lk l j)) o).run P w= .ok (.value v) w:=by kernel_rfl)(hg:o.guard=none:=by rfl)(hd:o.dst=some d:=by rfl)(hn:Nat.blt d n=true:=by rfl):wpList P ops Q (o::rest) a w:=ov hr v hrun k hg hd hn
theorem oo(ds:List Nat)(vs:List Value){os:List Oper}(hr:cy Df n (lk l j) a)(k:∀a,cy Df n (lk (L5 ds vs l) j) a→wpList P ops Q (os.drop ds.length) a w)(hl:ds.length=vs.length∧ds.all (λd=>Nat.blt d n)=true:=by exact⟨rfl,rfl⟩)(hrun:FQ P (os.take ds.length) vs l j w=FT ds vs w:=by kernel_rfl):wpList P ops Q os a w:=ovs ds vs hr hl hrun k
theorem cl{f:FuncId}{args:Array Value}{R:Ending→World→Prop}(hw:Region.wanted o (yielded ops a.tmps)=true)(hr:cy Df n (lk l j) a)(hc:Calls P f args w R)
 (k:∀e w1,R e w1→∃v,e= .returned v∧∀a,cy Df n (lk ((d,v)::l) j) a→wpList P ops Q rest a w1) (hrun:(execOp (eJ (lk l j)) o).run P w= .ok (.enter f args) w:=by kernel_rfl) (hd:o.dst=some d:=by rfl) (hn:Nat.blt d n=true:=by rfl):wpList P ops Q (o::rest) a w:=qc hw hd hn hr hrun hc k
theorem Rd(hw:Region.wanted o (yielded ops a.tmps)=true)(hr:cy Df n (lk l j) a)(hF:Fit w0 (an L) w)(vf:Nat→Value)(cs:Array Value)(T:TypeId)
 (k:∀b w1 a,Fit w0 (an (pts b (.cells cs T)::L)) w1→cy Df n (lk ((d,vf b)::l) j) a→wpList P ops Q rest a w1) (hrun:(execOp (eJ (lk l j)) o).run P w= .ok (.value (vf w.heap.size)) (w.alloc (.cells cs T)):=by kernel_rfl) (hd:o.dst=some d:=by rfl) (hn:Nat.blt d n=true:=by rfl):wpList P ops Q (o::rest) a w:=Hy hw hd hn hr hF hrun k
theorem HC{α:Type}{E:TypeId}{sz n0 cc:Nat}{enc:α→List Value}{xs:List α}{ca:Option Addr}{x y:Operand}(hw:Region.wanted o (yielded ops a.tmps)=true)(hr:cy Df n (lk l j) a)(he:pU enc sz)(hF:Fit w0 (an (rowOf E sz enc (.slice ca n0 cc) xs::L)) w)(i f:Nat)(v:Value)(p q:α)(hp:xs[i]? = some p)
 (k:∀w1,Fit w0 (an (rowOf E sz enc (.slice ca n0 cc) (xs.set i q)::L)) w1→wpList P ops Q rest a w1) (hd:o.dst=none:=by rfl) (ho:o.op= .store T x y:=by rfl) (hx:eJ (lk l j) x= .pointer (some ⟨bg ca,i*sz+f,none⟩):=by kernel_rfl) (hy:eJ (lk l j) y=v:=by kernel_rfl)
 (hv:v.cells=#[v]:=by rfl) (h1:v.oneCell'=true:=by rfl) (hs:(P.info? T).map (·.size)=some 1:=by kernel_rfl) (hf:f<sz:=by decide) (hq:enc q=(enc p).set f v:=by rfl):wpList P ops Q (o::rest) a w:=bx hw hd hr ho hx hy hv h1 hs he hF hp hf hq k
theorem ln{K:Act→World→Prop}(h:K a w):wpList P ops (Exit.then K Q) [] a w:=wpList_nil (FD h)
end
end GX
end
section
namespace SL
open Go Go.RowKit
section
variable {z w:World}{L L':List bE}
theorem Fit.m1{A0 A1:bE}(h:Fit z (an (A0::A1::L)) w):Fit z (an (A1::A0::L)) w:=h.pick 1
theorem Fit.m2{A0 A1 A2:bE}(h:Fit z (an (A0::A1::A2::L)) w):Fit z (an (A2::A0::A1::L)) w:=h.pick 2
theorem Fit.m3{A0 A1 A2 A3:bE}(h:Fit z (an (A0::A1::A2::A3::L)) w):Fit z (an (A3::A0::A1::A2::L)) w:=h.pick 3
theorem Fit.m4{A0 A1 A2 A3 A4:bE}(h:Fit z (an (A0::A1::A2::A3::A4::L)) w):Fit z (an (A4::A0::A1::A2::A3::L)) w:=h.pick 4
theorem Fit.m5{A0 A1 A2 A3 A4 A5:bE}(h:Fit z (an (A0::A1::A2::A3::A4::A5::L)) w):Fit z (an (A5::A0::A1::A2::A3::A4::L)) w:=h.pick 5
theorem Fit.m6{A0 A1 A2 A3 A4 A5 A6:bE}(h:Fit z (an (A0::A1::A2::A3::A4::A5::A6::L)) w):Fit z (an (A6::A0::A1::A2::A3::A4::A5::L)) w:=h.pick 6
theorem Fit.m7{A0 A1 A2 A3 A4 A5 A6 A7:bE}(h:Fit z (an (A0::A1::A2::A3::A4::A5::A6::A7::L)) w):Fit z (an (A7::A0::A1::A2::A3::A4::A5::A6::L)) w:=h.pick 7
theorem Fit.m8{A0 A1 A2 A3 A4 A5 A6 A7 A8:bE}(h:Fit z (an (A0::A1::A2::A3::A4::A5::A6::A7::A8::L)) w):Fit z (an (A8::A0::A1::A2::A3::A4::A5::A6::A7::L)) w:=h.pick 8
theorem Fit.m9{A0 A1 A2 A3 A4 A5 A6 A7 A8 A9:bE}(h:Fit z (an (A0::A1::A2::A3::A4::A5::A6::A7::A8::A9::L)) w):Fit z (an (A9::A0::A1::A2::A3::A4::A5::A6::A7::A8::L)) w:=h.pick 9
theorem Fit.Qj{A0 A1 A2 A3 A4 A5 A6 A7 A8 A9 A10:bE}(h:Fit z (an (A0::A1::A2::A3::A4::A5::A6::A7::A8::A9::A10::L)) w):Fit z (an (A10::A0::A1::A2::A3::A4::A5::A6::A7::A8::A9::L)) w:=h.pick 10
theorem Fit.Dd{n m:Nat}(e:n=m)(F:Nat→bE)(h:Fit z (an (F n::L)) w):Fit z (an (F m::L)) w:=e▸ h
theorem Fit.jZ{n m:Nat}(e:n=m)(F G:Nat→bE)(h:Fit z (an (F n::G n::L)) w):Fit z (an (F m::G m::L)) w:=e▸ h
theorem Fit.se(h:Fit z (an L) w)(n:Nat)(is:List Nat)(hB:GX.Ul n is=true:=by kernel_rfl)(e:is.map (λi=>L.getD i Hf)++L.drop n=L':=by kernel_rfl):Fit z (an L') w:=h.Tc n is hB e
end
end SL
namespace GX
open Go Go.RowKit SL
section
variable {P:Program}{ops:Array Oper}{Q:Exit→Act→World→Prop}{a:Act}{w w0 w1:World}{rest os:List Oper}{o:Oper}{n d t T:Nat}{v u:Value}{l:List (Nat×Value)}{j e:Nat→Value}{L:List bE}{Df:List Deferred}
theorem cy.fj{X:Prop}(h:cy Df n e a)(hX:X)(hl:l.map (λp=>e p.1)=l.map (·.2):=by kernel_rfl) :∃j,cy Df n (lk l j) a∧X:=let ⟨j,h⟩:=h.Uu l hl;⟨j,h,hX⟩
theorem cy.re(h:cy Df n (lk l j) a)(t:Nat){v v':Value}(e:v=v')(hv:lk l j t=v:=by kernel_rfl):cy Df n (lk ((t,v')::l) j) a:=by
 obtain⟨h1,h2,h3⟩:=h
 refine⟨h1,λq => ?_,h3⟩
 rw[h2 q]
 show lk l j q=bif Nat.beq q t then v' else lk l j q
 cases hb:Nat.beq q t with
 | false=>rfl
 | true=>have:=Nat.eq_of_beq_eq_true hb;subst this;rw[hv,e];rfl
def HL:List (Nat×Nat×List Value)→World→Prop
 | [],_=>True
 | p::r,w=>oS w p.1 p.2.1 p.2.2∧HL r w
theorem L8:∀D w w',mS w w'→HL D w→HL D w'
 | [],_,_,_,_=>trivial
 | p::r,w,w',g,h=>⟨BP _ _ _ _ _ g h.1,L8 r w w' g h.2⟩
theorem BT:∀{D:List (Nat×Nat×List Value)} {k:Nat} {p:Nat×Nat×List Value},D[k]? = some p→HL D w→oS w p.1 p.2.1 p.2.2
 | [],k,p,e,_=>by simp at e
 | q::r,0,p,e,h=>by simp at e;subst e;exact h.1
 | q::r,k+1,p,e,h=>BT (D:=r) (k:=k) (by simpa using e) h.2
variable {D:List (Nat×Nat×List Value)}{E:List Nat}{listed:Array Bool}{N:Nat}
theorem fy{id:Nat}{lo:List Oper}{H:bE}(D:List (Nat×Nat×List Value))(E:List Nat)(N:Nat)(hF:Fit w0 H w)(hd:∀{w},Fit w0 H w→HL D w)
 (k:∀w,Fit w0 H w→HL D w→ff P .any lo.toArray Q (HL D) E N (Array.replicate N false) a w) (hm:P.follows .mixedOrders=true:=by kernel_rfl) (hN:lo.toArray.size=N:=by rfl) :
 (Code.region id lo.toArray true).wp P Q a w:=by
 subst hN;exact Uo (HL D) E hF hm λw h=>k w h (hd h)
def Td(ops:Array Oper)(E:List Nat)(listed:Array Bool)(i:Nat):Bool:=okB ops E listed i||Ut ops E listed i
theorem e1[hp:PI Q](hd:HL D w)(fuel i:Nat)(hi:ops[i]? = some o)(hB:Td ops E listed i=true)(hw:Region.wanted o (yielded ops a.tmps)=true)(hr:cy Df n (lk l j) a)(v:Value)
 (hrun:∀w,(execOp (eJ (lk l j)) o).run P w= .ok (.value v) w) (k:∀a,cy Df n (lk ((d,v)::l) j) a→ff P .any ops Q (HL D) E fuel (listed.setIfInBounds i true) a w) (h1:o.dst=some d) (hn:Nat.blt d n=true) :
 ff P .any ops Q (HL D) E (fuel+1) listed a w:=by
 unfold Td at hB
 rw[Bool.or_eq_true]at hB
 rcases hB with hB | hB
 ·exact ev fuel i hi hB hw hr v hrun k h1 hn
 ·exact evD (L8 D) hd fuel i hi hB hw hr v hrun k h1 hn
theorem e0[hp:PI Q](hd:HL D w)(fuel i:Nat)(hi:ops[i]? = some o)(hB:Td ops E listed i=true)(hw:Region.wanted o (yielded ops a.tmps)=false)(hr:cy Df n (lk l j) a)
 (k:∀a,cy Df n (lk ((d,undef)::l) j) a→ff P .any ops Q (HL D) E fuel (listed.setIfInBounds i true) a w) (h1:o.dst=some d) (hn:Nat.blt d n=true) :
 ff P .any ops Q (HL D) E (fuel+1) listed a w:=by
 unfold Td at hB
 rw[Bool.or_eq_true]at hB
 rcases hB with hB | hB
 ·exact eo fuel i hi hB hw hr k h1 hn
 ·exact eoD (L8 D) hd fuel i hi hB hw hr k h1 hn
theorem mJ[hp:PI Q](hd:HL D w)(f i:Nat)(hi:ops[i]? = some o)(hw:Region.wanted o (yielded ops a.tmps)=true)(hr:cy Df n (lk l j) a)(v:Value)
 (k:∀a,cy Df n (lk ((d,v)::l) j) a→ff P .any ops Q (HL D) E f (listed.setIfInBounds i true) a w) (hB:Td ops E listed i=true:=by kernel_rfl) (hrun:∀w,(execOp (eJ (lk l j)) o).run P w= .ok (.value v) w:=by intro w;kernel_rfl) (h1:o.dst=some d:=by rfl) (hn:Nat.blt d n=true:=by rfl) :
 ff P .any ops Q (HL D) E (f+1) listed a w:=e1 hd f i hi hB hw hr v hrun k h1 hn
def Ow:List (Nat×Nat×Value)→Array Bool→Array Bool
 | [],s=>s
 | p::r,s=>Ow r (s.setIfInBounds p.1 true)
def Ox:List (Nat×Nat×Value)→List (Nat×Value)→List (Nat×Value)
 | [],l=>l
 | p::r,l=>Ox r ((p.2.1,p.2.2)::l)
def FV(P:Program)(ops:Array Oper):List (Nat×Nat×Value)→List (Nat×Value)→(Nat→Value)→World→List (Option (Option Nat×Option (Nat×Bool))×Result Next)
 | [],_,_,_=>[]
 | p::r,l,j,w=>((ops[p.1]?).map λo=>(o.dst,o.guard),(match ops[p.1]? with | some o=>(execOp (eJ (lk l j)) o).run P w | none=>.ok .skip w))::FV P ops r ((p.2.1,p.2.2)::l) j w
def AO:List (Nat×Nat×Value)→World→List (Option (Option Nat×Option (Nat×Bool))×Result Next)
 | [],_=>[]
 | p::r,w=>(some (some p.2.1,none),.ok (.value p.2.2) w)::AO r w
def Uv(ops:Array Oper)(E:List Nat)(n:Nat):List (Nat×Nat×Value)→Array Bool→Bool
 | [],_=>true
 | p::r,s=>Td ops E s p.1&&Nat.blt p.2.1 n&&Uv ops E n r (s.setIfInBounds p.1 true)
theorem evl[hp:PI Q](hd:HL D w)(f:Nat):∀(is:List (Nat×Nat×Value)) {listed:Array Bool} {a:Act} {l:List (Nat×Value)} (hr:cy Df n (lk l j) a)
 (k:∀a,cy Df n (lk (Ox is l) j) a→ff P .any ops Q (HL D) E f (Ow is listed) a w) (hB:Uv ops E n is listed=true:=by kernel_rfl) (hrun:∀w,FV P ops is l j w=AO is w:=by intro w;kernel_rfl),
 ff P .any ops Q (HL D) E (f+is.length) listed a w
 | [],listed,a,l,hr,k,_,_=>k a hr
 | p::is,listed,a,l,hr,k,hB,hrun=>by
  simp only[Uv,Bool.and_eq_true]at hB
  obtain⟨⟨h1,h2⟩,h3⟩:=hB
  have Uw:∀w,FV P ops is ((p.2.1,p.2.2)::l) j w=AO is w:=λw=>by have:=hrun w;simp only[FV,AO,List.cons.injEq]at this;exact this.2
  cases ho:ops[p.1]? with
  | none=>have:=hrun w;simp only[FV,AO,ho,List.cons.injEq]at this;simp at this
  | some o =>
   have h4:∀w,(o.dst=some p.2.1∧o.guard=none)∧(execOp (eJ (lk l j)) o).run P w= .ok (.value p.2.2) w:=λw=>by
    have:=hrun w;simp only[FV,AO,ho,List.cons.injEq,Option.map_some,Prod.mk.injEq,Option.some.injEq]at this;exact this.1
   have h5:=(h4 w).1
   exact e1 hd (f+is.length) p.1 ho h1 (wn h5.2) hr p.2.2 (λw=>(h4 w).2) (λa hr=>evl hd f is hr k h3 Uw) h5.1 h2
theorem XW[hp:PI Q](hd:HL D w)(f:Nat)(is:List (Nat×Nat×Value))(hr:cy Df n (lk l j) a)(k:∀a,cy Df n (lk (Ox is l) j) a→ff P .any ops Q (HL D) E f (Ow is listed) a w)
 (hN:f+is.length=N:=by rfl) (hB:Uv ops E n is listed=true:=by kernel_rfl) (hrun:∀w,FV P ops is l j w=AO is w:=by intro w;kernel_rfl):ff P .any ops Q (HL D) E N listed a w:=by
 subst hN;exact evl hd f is hr k hB hrun
theorem WL[hp:PI Q](hd:HL D w)(q f i:Nat){b off:Nat}{x:Operand}(hr:cy Df n (lk l j) a)(hw:Region.wanted o (yielded ops a.tmps)=true)(hi:ops[i]? = some o)(hq:D[q]? = some (b,off,[v]))
 (k:∀a,cy Df n (lk ((d,v)::l) j) a→ff P .any ops Q (HL D) E f (listed.setIfInBounds i true) a w) (hB:(okB ops E listed i&&yS .any ops E listed i)=true:=by kernel_rfl)
 (ho:o.op= .load T x:=by rfl) (hx:eJ (lk l j) x= .pointer (some ⟨b,off,none⟩):=by kernel_rfl) (hu:vb (P.underlying T)=true:=by kernel_rfl) (h1:o.dst=some d:=by rfl) (hn:Nat.blt d n=true:=by rfl) :
 ff P .any ops Q (HL D) E (f+1) listed a w:=
 el E (b:=b) (off:=off) (cs:=[v]) (λ_ hk=>⟨hk,λw h=>BT hq h⟩) f i hi hB hw hr v (BT hq hd) (λw hc=>rl ho hx hu hc.1) k h1 hn
theorem WM[hp:PI Q](hd:HL D w)(q f i:Nat){b off:Nat}{cs:List Value}{x:Operand}(hr:cy Df n (lk l j) a)(hw:Region.wanted o (yielded ops a.tmps)=true)(hi:ops[i]? = some o)(hq:D[q]? = some (b,off,cs))
 (k:∀a,cy Df n (lk ((d,.agg cs.toArray)::l) j) a→ff P .any ops Q (HL D) E f (listed.setIfInBounds i true) a w) (hB:(okB ops E listed i&&yS .any ops E listed i)=true:=by kernel_rfl)
 (ho:o.op= .load T x:=by rfl) (hx:eJ (lk l j) x= .pointer (some ⟨b,off,none⟩):=by kernel_rfl) (hu:sv (P.underlying T)=true:=by kernel_rfl) (hs:(P.info? T).map (·.size)=some cs.length:=by kernel_rfl) (h1:o.dst=some d:=by rfl) (hn:Nat.blt d n=true:=by rfl) :
 ff P .any ops Q (HL D) E (f+1) listed a w:=
 el E (b:=b) (off:=off) (cs:=cs) (λ_ hk=>⟨hk,λw h=>BT hq h⟩) f i hi hB hw hr _ (BT hq hd) (λw hc=>Xt ho hx hu hs hc) k h1 hn
theorem eE{p X Y:Prop}(hd:Y)(k:Y→X):(p→Y)∧X:=⟨λ_=>hd,k hd⟩
theorem xE{i:Nat}{X Y:Prop}(k:X)(hB:¬i∈E:=by decide):(i∈E→Y)∧X:=⟨λh=>absurd h hB,k⟩
theorem eZ(i:Nat){D:World→Prop}{fuel:Nat}(hi:ops[i]? = some o)(k:wpList P ops (Exit.then (λa w=>(i∈E→D w)∧ff P .any ops Q D E fuel (listed.setIfInBounds i true) a w) Q) [o] a w)
 (hrd:Region.ready .any ops listed=[i]:=by kernel_rfl):ff P .any ops Q D E (fuel+1) listed a w:=Uq hrd hi k
theorem ji{D:World→Prop}{fuel:Nat}(k:Q .normal a w)(hrd:Region.ready .any ops listed=[]:=by kernel_rfl):ff P .any ops Q D E fuel listed a w:=Ur hrd k
section
variable {β:Type}{p:Prop}[Decidable p]{X Y r:Option β}{c:Operand}{x y:Code}
theorem cD(hr:cy Df n e a)(H:(if p then X else Y)=r)(k1:p→X=r→x.wp P Q a w)(k2:¬p→Y=r→y.wp P Q a w)(hc:eJ e c= .bool (decide p):=by kernel_rfl):(Code.cond c x y).wp P Q a w:=by
 by_cases h:p
 ·rw[fQ h]at H;exact BI hr hc (decide_eq_true h) (k1 h H)
 ·rw[fh h]at H;exact BJ hr hc (decide_eq_false h) (k2 h H)
theorem cN(hr:cy Df n e a)(H:(if p then X else Y)=r)(k1:p→X=r→y.wp P Q a w)(k2:¬p→Y=r→x.wp P Q a w)(hc:eJ e c= .bool (!decide p):=by kernel_rfl):(Code.cond c x y).wp P Q a w:=by
 by_cases h:p
 ·rw[fQ h]at H;exact BJ hr hc (by simp[h]) (k1 h H)
 ·rw[fh h]at H;exact BI hr hc (by simp[h]) (k2 h H)
theorem cV{b:Bool}(hr:cy Df n e a)(H:(if b=true then X else Y)=r)(k1:b=true→X=r→x.wp P Q a w)(k2:¬b=true→Y=r→y.wp P Q a w)(hc:eJ e c= .bool b:=by kernel_rfl):(Code.cond c x y).wp P Q a w:=by
 by_cases h:b=true
 ·rw[fQ h]at H;exact BI hr hc h (k1 h H)
 ·rw[fh h]at H;exact BJ hr hc (by simpa using h) (k2 h H)
theorem cM{b:Bool}(hr:cy Df n e a)(H:(if b=true then X else Y)=r)(k1:b=true→X=r→y.wp P Q a w)(k2:¬b=true→Y=r→x.wp P Q a w)(hc:eJ e c= .bool (!b):=by kernel_rfl):(Code.cond c x y).wp P Q a w:=by
 by_cases h:b=true
 ·rw[fQ h]at H;exact BJ hr hc (by simp[h]) (k1 h H)
 ·rw[fh h]at H;exact BI hr hc (by simpa using h) (k2 h H)
end
def L9(P:Program)(ops:Array Oper)(n:Nat):List Oper→List Value→List (Nat×Value)→(Nat→Value)→World→List (Option Nat×Option (Bool×Option (Bool×Value))×Result Next)
 | o::os,v::vs,l,j,w=>(o.dst,o.guard.map (λg=>(g.2,((ops[g.1]?).bind (·.dst)).map λt=>(Nat.blt t n,lk l j t))),(execOp (eJ (lk l j)) o).run P w)::L9 P ops n os vs ((o.dst.getD 0,v)::l) j w
 | _,_,_,_,_=>[]
def FW(x c:Bool):List Nat→List Value→World→List (Option Nat×Option (Bool×Option (Bool×Value))×Result Next)
 | d::ds,v::vs,w=>(some d,some (c,some (true,.bool x)),.ok (.value v) w)::FW x c ds vs w
 | _,_,_=>[]
theorem XX{i:Nat}{b x c:Bool}(hr:cy Df n e a)(pf:x=c)(h:o.guard.map (λg=>(g.2,((ops[g.1]?).bind (·.dst)).map λt=>(Nat.blt t n,e t)))=some (b,some (true,.bool x))):Region.wanted o (yielded ops a.tmps)=(c==b):=by
 subst pf
 cases hg:o.guard with
 | none=>rw[hg]at h;cases h
 | some g =>
  obtain⟨i,b'⟩:=g
  simp only[hg,Option.map_some,Option.some.injEq,Prod.mk.injEq]at h
  obtain⟨rfl,h⟩:=h
  cases ht:(ops[i]?).bind (·.dst)with
  | none=>rw[ht]at h;cases h
  | some t =>
   simp only[ht,Option.map_some,Option.some.injEq,Prod.mk.injEq]at h
   exact wg hr hg ht h.1 h.2
theorem onl{x c:Bool}(pf:x=c):∀(ds:List Nat) (vs:List Value) {os:List Oper} {a:Act} {l:List (Nat×Value)} (hr:cy Df n (lk l j) a) (k:∀a,cy Df n (lk (L5 ds vs l) j) a→wpList P ops Q (os.drop ds.length) a w)
 (hl:ds.length=vs.length∧ds.all (λd=>Nat.blt d n)=true:=by exact⟨rfl,rfl⟩) (hrun:L9 P ops n (os.take ds.length) vs l j w=FW x c ds vs w:=by kernel_rfl),wpList P ops Q os a w
 | [],[],os,a,l,hr,k,_,_=>k a hr
 | [],v::vs,os,a,l,hr,k,hl,_=>by simp at hl
 | d::ds,[],os,a,l,hr,k,hl,_=>by simp at hl
 | d::ds,v::vs,[],a,l,hr,k,hl,hrun=>by simp[L9,FW]at hrun
 | d::ds,v::vs,o::os,a,l,hr,k,hl,hrun=>by
  simp only[List.length_cons,List.take_succ_cons,L9,FW,List.cons.injEq,Prod.mk.injEq]at hrun
  obtain⟨⟨h1,h2,h3⟩,h4⟩:=hrun
  obtain⟨C1,BL⟩:=hl
  simp only[List.all_cons,Bool.and_eq_true]at BL
  refine u9 (by rw[XX (i:=0) hr pf h2];simp) h1 BL.1 hr h3 λa hr => ?_
  rw[h1]at h4
  exact onl pf ds vs hr k ⟨by simpa using C1,BL.2⟩ h4
def Eh(ops:Array Oper)(n:Nat):List Oper→List (Nat×Value)→(Nat→Value)→List (Option Nat×Option (Bool×Option (Bool×Value)))
 | o::os,l,j=>(o.dst,o.guard.map (λg=>(g.2,((ops[g.1]?).bind (·.dst)).map λt=>(Nat.blt t n,lk l j t))))::Eh ops n os ((o.dst.getD 0,undef)::l) j
 | _,_,_=>[]
def yT(b:Bool)(gv:Value):List Nat→List (Option Nat×Option (Bool×Option (Bool×Value)))
 | d::ds=>(some d,some (b,some (true,gv)))::yT b gv ds
 | _=>[]
def Ma:List Nat→List (Nat×Value)→List (Nat×Value)
 | d::ds,l=>Ma ds ((d,undef)::l)
 | _,l=>l
theorem Ux{x c:Bool}(pf:x=c):∀(ds:List Nat) {os:List Oper} {a:Act} {l:List (Nat×Value)} (hr:cy Df n (lk l j) a) (k:∀a,cy Df n (lk (Ma ds l) j) a→wpList P ops Q (os.drop ds.length) a w)
 (hl:ds.all (λd=>Nat.blt d n)=true:=by rfl) (hrun:Eh ops n (os.take ds.length) l j=yT (!c) (.bool x) ds:=by kernel_rfl),wpList P ops Q os a w
 | [],os,a,l,hr,k,_,_=>k a hr
 | d::ds,[],a,l,hr,k,hl,hrun=>by simp[Eh,yT]at hrun
 | d::ds,o::os,a,l,hr,k,hl,hrun=>by
  simp only[List.length_cons,List.take_succ_cons,Eh,yT,List.cons.injEq,Prod.mk.injEq]at hrun
  obtain⟨⟨h1,h2⟩,h4⟩:=hrun
  simp only[List.all_cons,Bool.and_eq_true]at hl
  refine Hx (by rw[XX (i:=0) hr pf h2];cases c<;>rfl) h1 hl.1 hr λa hr => ?_
  rw[h1]at h4
  exact Ux pf ds hr k hl.2 h4
theorem wux{b:Bool}(hr:cy Df n e a)(h:o.guard.map (λg=>(g.2,((ops[g.1]?).bind (·.dst)).map λt=>(Nat.blt t n,e t)))=some (b,some (true,undef))):Region.wanted o (yielded ops a.tmps)=false:=by
 cases hg:o.guard with
 | none=>rw[hg]at h;cases h
 | some g =>
  obtain⟨i,b'⟩:=g
  simp only[hg,Option.map_some,Option.some.injEq,Prod.mk.injEq]at h
  obtain⟨rfl,h⟩:=h
  cases ht:(ops[i]?).bind (·.dst)with
  | none=>rw[ht]at h;cases h
  | some t =>
   simp only[ht,Option.map_some,Option.some.injEq,Prod.mk.injEq]at h
   exact L0 hr hg ht h.1 h.2
theorem Uy(b:Bool):∀(ds:List Nat) {os:List Oper} {a:Act} {l:List (Nat×Value)} (hr:cy Df n (lk l j) a) (k:∀a,cy Df n (lk (Ma ds l) j) a→wpList P ops Q (os.drop ds.length) a w)
 (hl:ds.all (λd=>Nat.blt d n)=true:=by rfl) (hrun:Eh ops n (os.take ds.length) l j=yT b undef ds:=by kernel_rfl),wpList P ops Q os a w
 | [],os,a,l,hr,k,_,_=>k a hr
 | d::ds,[],a,l,hr,k,hl,hrun=>by simp[Eh,yT]at hrun
 | d::ds,o::os,a,l,hr,k,hl,hrun=>by
  simp only[List.length_cons,List.take_succ_cons,Eh,yT,List.cons.injEq,Prod.mk.injEq]at hrun
  obtain⟨⟨h1,h2⟩,h4⟩:=hrun
  simp only[List.all_cons,Bool.and_eq_true]at hl
  refine Hx (wux hr h2) h1 hl.1 hr λa hr => ?_
  rw[h1]at h4
  exact Uy b ds hr k hl.2 h4
theorem st1{x y:Operand}{b:Nat}{cs:Array Value}{T':TypeId}(hw:Region.wanted o (yielded ops a.tmps)=true)(hr:cy Df n (lk l j) a)(hF:Fit w0 (an (pts b (.cells cs T')::L)) w)(i:Nat)(v:Value)(A:bE)
 (k:∀w1,Fit w0 (an (A::L)) w1→wpList P ops Q rest a w1) (hd:o.dst=none:=by rfl) (ho:o.op= .store T x y:=by rfl) (hx:eJ (lk l j) x= .pointer (some ⟨b,i,none⟩):=by kernel_rfl) (hy:eJ (lk l j) y=v:=by kernel_rfl)
 (hv:v.cells=#[v]:=by rfl) (h1:v.oneCell'=true:=by rfl) (hs:(P.info? T).map (·.size)=some 1:=by kernel_rfl) (hc:(cs[i]?).isSome=true:=by kernel_rfl) (hA:pts b (.cells (cs.setIfInBounds i v) T')=A:=by kernel_rfl):wpList P ops Q (o::rest) a w:=by
 subst hA
 cases hu:cs[i]? with
 | none=>rw[hu]at hc;cases hc
 | some u=>exact LY hw hd hr ho hx hy hv h1 hs hF hu k
theorem Re{x y:Operand}{b:Nat}{cs:Array Value}{T':TypeId}(hw:Region.wanted o (yielded ops a.tmps)=true)(hr:cy Df n (lk l j) a)(hF:Fit w0 (an (pts b (.cells cs T')::L)) w)(i:Nat)(vs:List Value)(A:bE)
 (k:∀w1,Fit w0 (an (A::L)) w1→wpList P ops Q rest a w1) (hd:o.dst=none:=by rfl) (ho:o.op= .store T x y:=by rfl) (hx:eJ (lk l j) x= .pointer (some ⟨b,i,none⟩):=by kernel_rfl) (hy:eJ (lk l j) y= .agg vs.toArray:=by kernel_rfl)
 (h1:vs.all (·.oneCell')=true:=by rfl) (hfit:Nat.ble (i+vs.length) cs.size=true:=by rfl) (hs:(P.info? T).map (·.size)=some vs.length:=by kernel_rfl) (hA:pts b (.cells (cs.toList.take i++vs++cs.toList.drop (i+vs.length)).toArray T')=A:=by kernel_rfl):wpList P ops Q (o::rest) a w:=by
 subst hA;exact DK hw hd hr ho hx hy h1 hfit hs hF rfl k
end
end GX
end
section
namespace GX
open Go Go.RowKit SL
section
variable {P:Program}{w w0 w1 z:World}{ops:Array Oper}{a:Act}{rest:List Oper}{e:Nat→Value}{o:Oper}{t E:TypeId}{n d cc sz tO:Nat}{α β:Type}{l:List (Nat×Value)}{j:Nat→Value}{Df:List Deferred}{L:List bE}
def xw(L:List bE)(sz tO:Nat)(enc:Option Addr→Nat→α→List Value)(kY:β→List Value)(DN:α→List β)(va:Option Addr)(hs:Nat→Option Addr×Nat)(l:List α):Prop:=
 ∀i x,l[i]? = some x→va=some ⟨bg va,jY va,none⟩∧(∀f u,(enc (hs i).1 (hs i).2 x)[f]? = some u→∀z w,Fit z (an L) w→w.cell? ⟨bg va,jY va+i*sz+f,none⟩=some u)∧cu L tO kY (hs i).1 (DN x)
section
variable {enc:Option Addr→Nat→α→List Value}{kY:β→List Value}{DN:α→List β}{va:Option Addr}{hs:Nat→Option Addr×Nat}{l:List α}
theorem xw.nil{L:List bE}:xw L sz tO enc kY DN va hs ([]:List α):=λi x h=>by simp at h
theorem xw.up(k:Nat){L':List bE}(h:xw (L'.drop k) sz tO enc kY DN va hs l):xw L' sz tO enc kY DN va hs l:=
 λi x hx=>⟨(h i x hx).1,λf u hu z w hw=>(h i x hx).2.1 f u hu z w (hw.dn k),(h i x hx).2.2.up k⟩
theorem xw.take{L:List bE}(h:xw L sz tO enc kY DN va hs l)(k:Nat):xw L sz tO enc kY DN va hs (l.take k):=by
 intro i x hx
 refine h i x ?_
 rw[List.getElem?_take]at hx
 split at hx
 ·exact hx
 ·cases hx
theorem xw.cell{z:World}{L:List bE}[Inhabited α]{i:Int}(hF:xw L sz tO enc kY DN va hs l)(hi:bT i l.length)(h:Fit z (an L) w)(f:Nat){u:Value}(hu:(enc (hs i.toNat).1 (hs i.toNat).2 (ag l i.toNat))[f]? = some u):w.cell? ⟨bg va,jY va+i.toNat*sz+f,none⟩=some u:=
 (hF _ _ (bf hi)).2.1 f u hu z w h
theorem xw.tj{L:List bE}[Inhabited α]{i:Int}(hF:xw L sz tO enc kY DN va hs l)(hi:bT i l.length):cu L tO kY (hs i.toNat).1 (DN (ag l i.toNat)):=(hF _ _ (bf hi)).2.2
theorem xw.cast{L:List bE}{l2:List α}(h:xw L sz tO enc kY DN va hs l)(e:l=l2):xw L sz tO enc kY DN va hs l2:=e▸ h
theorem xw.ne{L:List bE}(hF:xw L sz tO enc kY DN va hs l)(h:0<l.length):va=some ⟨bg va,jY va,none⟩:=(hF 0 _ (List.getElem?_eq_getElem h)).1
end
theorem cu.ne{L:List bE}{enc:α→List Value}{va:Option Addr}{l:List α}(hF:cu L sz enc va l)(h:0<l.length):va=some ⟨bg va,jY va,none⟩:=(hF 0 _ (List.getElem?_eq_getElem h)).1
theorem cu.BU{z:World}{L:List bE}{enc:α→List Value}{b:Nat}[Inhabited α]{l:List α}{i:Int}(hF:cu L sz enc (some ⟨b,0,none⟩) l)(hi:bT i l.length)(h:Fit z (an L) w)(f:Nat){u:Value}(hu:(enc (ag l i.toNat))[f]? = some u):w.cell? ⟨bg (some ⟨b,0,none⟩),i.toNat*sz+f,none⟩=some u:=by
 have e:=(hF _ _ (bf hi)).2 f u hu z w h
 have o:jY (some ⟨b,0,none⟩:Option Addr)=0:=rfl
 rw[o,Nat.zero_add]at e
 exact e
theorem vG{x y:Operand}{k:IntKind}{i:Int}{n0:Nat}{L:List bE}{enc:Option Addr→Nat→α→List Value}{kY:β→List Value}{DN:α→List β}{va:Option Addr}{hs:Nat→Option Addr×Nat}[Inhabited α]{l:List α}(ho:o.op= .indexAddr t x y)(hx:eJ e x= .slice va n0 cc)(hy:eJ e y= .int k i)(Ke:n0=l.length)
 (ht:P.underlying t=some (.slice E)) (hs':(P.info? E).map (·.size)=some sz) (hF:xw L sz tO enc kY DN va hs l) (hi:bT i l.length):(execOp (eJ e) o).run P w= .ok (.value (.pointer (some ⟨bg va,jY va+i.toNat*sz,none⟩))) w:=by
 have h0:=hi.1;have h1:=hi.2
 exact Xq (hF _ _ (bf hi)).1 ho hx hy ht hs' h0 (by omega)
theorem DP(d:Nat){T:TypeId}(b:Addr)(m c n' c':Nat)(h:P.underlying T=some (.slice E)):(Op.equalIn (d+1) T (.slice (some b) m c) (.slice none n' c')).run P w= .ok false w:=by
 simp[Op.equalIn,run_underlying h]
theorem Oy{x y:Operand}{T T':TypeId}{n0:Nat}{va:Option Addr}(ho:o.op= .binOp .eql T x y T')(hx:eJ e x= .slice va n0 cc)(hy:eJ e y= .slice none 0 0)(ht:P.underlying T=some (.slice E))(hv:va=some ⟨bg va,jY va,none⟩):(execOp (eJ e) o).run P w= .ok (.value (.bool false)) w:=by
 rw[hv]at hx
 have h:=DP (P:=P) (w:=w) 9999 ⟨bg va,jY va,none⟩ n0 cc 0 0 ht
 unfold execOp
 simp only[ho,hx,hy,eqGuard,binOp,Op.equal,Op.maxDepth]
 simp[h]
theorem Mb{x y:Operand}{T T':TypeId}{n0:Nat}{va:Option Addr}(ho:o.op= .binOp .neq T x y T')(hx:eJ e x= .slice va n0 cc)(hy:eJ e y= .slice none 0 0)(ht:P.underlying T=some (.slice E))(hv:va=some ⟨bg va,jY va,none⟩):(execOp (eJ e) o).run P w= .ok (.value (.bool true)) w:=by
 rw[hv]at hx
 have h:=DP (P:=P) (w:=w) 9999 ⟨bg va,jY va,none⟩ n0 cc 0 0 ht
 unfold execOp
 simp only[ho,hx,hy,eqGuard,binOp,Op.equal,Op.maxDepth]
 simp[h]
def gO(x y:Int):Int:=IntKind.i64.wrap ((BitVec.ofInt 64 x &&& BitVec.ofInt 64 y).toNat)
def Je(x y:Int):Int:=IntKind.i64.wrap ((BitVec.ofInt 64 x ||| BitVec.ofInt 64 y).toNat)
theorem rand{x y:Operand}{p q:Int}{T T':TypeId}(ho:o.op= .binOp .and T x y T')(hx:eJ e x= .int .i64 p)(hy:eJ e y= .int .i64 q):(execOp (eJ e) o).run P w= .ok (.value (.int .i64 (gO p q))) w:=by
 unfold execOp
 simp[ho,hx,hy,eqGuard,binOp,Op.intBits];rfl
theorem ror{x y:Operand}{p q:Int}{T T':TypeId}(ho:o.op= .binOp .or T x y T')(hx:eJ e x= .int .i64 p)(hy:eJ e y= .int .i64 q):(execOp (eJ e) o).run P w= .ok (.value (.int .i64 (Je p q))) w:=by
 unfold execOp
 simp[ho,hx,hy,eqGuard,binOp,Op.intBits];rfl
theorem Fit.Qk{Q:bE}(hz:∀{z w:World} {L:List bE},Fit z (an L) w→Fit z (an (Q::L)) w){L:List bE}(h:Fit w0 (an L) w):∀n,Fit w0 (an (List.replicate n Q++L)) w
 | 0=>h
 | n+1=>by rw[List.replicate_succ];exact hz (Fit.Qk hz h n)
theorem _root_.Go.Proofs.YtpikpffbcjpmcaaGreatDoor.SL.Fit.Kl{own:α→List Value→bE}{v:Value}{z0:α}{c:kX sz}{L:List bE}(hz:∀{z w:World} {L:List bE},Fit z (an L) w→Fit z (an (own z0 c.cs::L)) w)(n:Nat)(h:Fit w0 (an (rowOf E sz kX.cs v (List.replicate n c)::L)) w):Fit w0 (an (qP E sz own v (List.replicate n z0)::L)) w:=by
 refine Fit.Bo (css:=List.replicate n c) (by simp) ?_
 have e:List.zipWith (λx c=>own x c.cs) (List.replicate n z0) (List.replicate n c)=List.replicate n (own z0 c.cs):=by simp[List.zipWith_replicate']
 rw[e]
 exact(Fit.Qk hz h n).perm List.perm_middle
variable {Q:Exit→Act→World→Prop}
theorem yU{x y:Operand}{i:Int}{bytes:Nat}{zc:Array Value}{own:α→List Value→bE}(z0:α)(hw:Region.wanted o (yielded ops a.tmps)=true)(hd:o.dst=some d)(hn:Nat.blt d n=true)(hr:cy Df n (lk l j) a)
 (ho:o.op= .makeSlice t x y) (hx:eJ (lk l j) x= .int .i64 i) (hy:eJ (lk l j) y= .int .i64 i) (hi:0≤i∧i*bytes≤140737488355328) (hlen:zc.toList.length=sz) (hone:∀u∈zc.toList,u.oneCell'=true) (hsz:0<sz) (hty:P.underlying t=some (.slice E))
 (nX:(P.info? E).map (λi=>(i.size,i.bytes,i.zero.map (·.cells)))=some (sz,bytes,some zc)) (Hg:Nat.blt 0 bytes=true) (hz:∀{z w:World} {L:List bE},Fit z (an L) w→Fit z (an (own z0 zc.toList::L)) w) (hF:Fit w0 (an L) w)
 (k:∀ca w1 a,Fit w0 (an (qP E sz own (.slice ca (List.replicate i.toNat z0).length i.toNat) (List.replicate i.toNat z0)::L)) w1→cy Df n (lk ((d,.slice ca (List.replicate i.toNat z0).length i.toNat)::l) j) a→wpList P ops Q rest a w1):wpList P ops Q (o::rest) a w:=
 pW (⟨zc.toList,hlen,hone⟩:kX sz) hw hd hn hr ho hx hy hi (Bm hsz) hty nX rfl Hg hF λca w1 a h Fm=>by
  have e:(List.replicate i.toNat (⟨zc.toList,hlen,hone⟩:kX sz)).length=(List.replicate i.toNat z0).length:=by simp
  rw[e]at h Fm
  exact k ca w1 a (h.Kl hz) Fm
theorem yp{β:Type}(F vs:List β)(a s f:Nat)(hf:f+vs.length≤s)(hs:a+s≤F.length) :
 F.take a++(((F.drop a).take s).take f++vs++((F.drop a).take s).drop (f+vs.length))++F.drop (a+s)=F.take (a+f)++vs++F.drop (a+f+vs.length):=by
 have e1:F.take a++((F.drop a).take s).take f=F.take (a+f):=by
  rw[List.take_take,Nat.min_eq_left (by omega),List.take_add]
 have e2:((F.drop a).take s).drop (f+vs.length)++F.drop (a+s)=F.drop (a+f+vs.length):=by
  have h:=List.take_append_drop s (F.drop a)
  rw[List.drop_drop]at h
  have h2:=congrArg (List.drop (f+vs.length)) h
  rw[List.drop_append_of_le_length (by rw[List.length_take,List.length_drop];omega),List.drop_drop]at h2
  rw[h2];congr 1;omega
 rw[←e1,←e2]
 simp only[List.append_assoc]
theorem fL{x y:Operand}{vs:List Value}{f:Nat}{α:Type}{sz n0 cc:Nat}{enc:α→List Value}{xs:List α}{ca:Option Addr}(hw:Region.wanted o (yielded ops a.tmps)=true)(hd:o.dst=none)(hr:cy Df n (lk l j) a)(ho:o.op= .store t x y)
 {i:Nat} (hx:eJ (lk l j) x= .pointer (some ⟨bg ca,i*sz+f,none⟩)) (hy:eJ (lk l j) y= .agg vs.toArray) (h1:vs.all (·.oneCell')=true) (hs:(P.info? t).map (·.size)=some vs.length)
 (he:pU enc sz) (hF:Fit w0 (an (rowOf E sz enc (.slice ca n0 cc) xs::L)) w) {p q:α} (hp:xs[i]? = some p) (hfit:f+vs.length≤sz) (hq:enc q=(enc p).take f++vs++(enc p).drop (f+vs.length))
 (k:∀w1,Fit w0 (an (rowOf E sz enc (.slice ca n0 cc) (xs.set i q)::L)) w1→wpList P ops Q rest a w1):wpList P ops Q (o::rest) a w:=by
 have hi:i<xs.length:=(List.getElem?_eq_some_iff.1 hp).1
 have hn:=hF.eY
 obtain⟨hca,zW⟩:=hF.oZ (by omega)
 obtain⟨C1,BL⟩:=zW.u7
 obtain⟨cur,SQ,LZ,hP⟩:=zW.ot
 have hle:i*sz+sz≤xs.length*sz:=by
  have:(i+1)*sz≤xs.length*sz:=Nat.mul_le_mul_right _ hi
  rw[Nat.add_mul]at this
  omega
 have Q1:xs.length*sz≤cc*sz:=Nat.mul_le_mul_right _ C1
 have hst:=run_storeCells_at P (bg ca) (i*sz+f) E vs 0 cur w hP.block (by omega) (by simpa using h1)
 simp only[Nat.add_zero]at hst
 refine yO (w1:=w.setRow (bg ca) (cur.toList.take (i*sz+f)++vs++cur.toList.drop (i*sz+f+vs.length)).toArray) hw hd hr ?_ (k _ (Fit.uI ?_ hca (by rw[List.length_set];exact hn)))
 ·unfold execOp
  cases ym:P.info? t with
  | none=>simp[ym]at hs
  | some q =>
   simp[ym]at hs
   simp only[ho,hx,hy,Instr.storeAt,Instr.sureAddr,storeVar,Sem.run_bind,Sem.run_pure,Result.andThen_ok,sizeOf,typeInfo,run_program,ym,Value.cells]
   simp[hs,hst]
 ·refine(hP.turn (w':=w.setRow (bg ca) (cur.toList.take (i*sz+f)++vs++cur.toList.drop (i*sz+f+vs.length)).toArray) (setRow_heap w (bg ca) cur _ E (0,0) hP.block) (λk hk _=>setRow_other w (bg ca) k _ hk) rfl rfl rfl (by simp)).head λz hz=>⟨by simpa using C1,BL,_,?_,?_,hz⟩
  ·simp only[List.size_toArray,List.length_append,List.length_take,List.length_drop,Array.length_toList]
   omega
  ·have Ql:((xs.flatMap enc).drop (i*sz)).take sz=enc p:=by
    apply List.ext_getElem?
    intro k
    rw[List.getElem?_take]
    by_cases hk:k<sz
    ·rw[fQ hk,List.getElem?_drop]
     exact he.get xs i k p hp hk
    ·rw[fh hk,List.getElem?_eq_none (by rw[he.len];omega)]
   rw[List.length_set,he.set xs i q hi,hq,←Ql,yp _ _ _ _ _ hfit (by rw[he.flat];exact hle),←LZ]
   have hA:(cur.toList.take (i*sz+f)).length=i*sz+f:=by rw[List.length_take,Array.length_toList];omega
   have e1:(cur.toList.take (i*sz+f)++vs++cur.toList.drop (i*sz+f+vs.length)).take (xs.length*sz)=cur.toList.take (i*sz+f)++vs++(cur.toList.drop (i*sz+f+vs.length)).take (xs.length*sz-(i*sz+f+vs.length)):=by
    rw[List.take_append,List.take_of_length_le (by rw[List.length_append,hA];omega),List.length_append,hA]
   rw[List.toList_toArray,e1,List.take_take,Nat.min_eq_left (by omega),List.drop_take]
structure uL(l:List Value)(n:Nat):Prop where
 len:l.length=n
 one:∀u∈l,u.oneCell'=true
theorem uL.lit{l:List Value}(n:Nat)(h:(Nat.beq l.length n&&l.all (·.oneCell'))=true):uL l n:=by
 simp only[Bool.and_eq_true,List.all_eq_true]at h
 exact⟨Nat.eq_of_beq_eq_true h.1,h.2⟩
theorem uL.app{a b:List Value}{m n:Nat}(h:uL a m)(k:uL b n):uL (a++b) (m+n):=
 ⟨by rw[List.length_append,h.len,k.len],λu hu=>(List.mem_append.1 hu).elim (h.one u) (k.one u)⟩
theorem _root_.Go.Proofs.YtpikpffbcjpmcaaGreatDoor.SL.pU.p{enc:α→List Value}(he:pU enc sz)(x:α):uL (enc x) sz:=⟨he.len x,he.one x⟩
theorem uL.enc{enc:α→List Value}{N:Nat}(h:∀x,uL (enc x) N)(hp:0<N)(e:N=sz):pU enc sz:=by
 subst e;exact⟨λx=>(h x).len,λx=>(h x).one,hp⟩
def jr[Inhabited α](N:Nat)(enc:α→List Value)(l:List α):List Value:=(List.range N).flatMap (λi=>enc (ag l i))
theorem Bq[Inhabited α](N:Nat){enc:α→List Value}(he:pU enc sz)(l:List α):uL (jr N enc l) (N*sz):=by
 unfold jr
 refine⟨?_,λu hu => ?_⟩
 ·have e:(List.range N).flatMap (λi=>enc (ag l i))=((List.range N).map (λi=>ag l i)).flatMap enc:=by rw[List.flatMap_map]
  rw[e,he.flat];simp
 ·obtain⟨i,_,hi⟩:=List.mem_flatMap.1 hu
  exact he.one _ u hi
theorem BV{b:Nat}:∀(xs:List Value) (off:Nat),(∀k u,xs[k]? = some u→w.cell? ⟨b,off+k,none⟩=some u)→oS w b off xs
 | [],_,_=>trivial
 | x::xs,off,h=>⟨by simpa using h 0 x rfl,BV xs (off+1) λk u hu=>by have:=h (k+1) u (by simpa using hu);rw[show off+1+k=off+(k+1) by omega];exact this⟩
theorem _root_.Go.Proofs.YtpikpffbcjpmcaaGreatDoor.SL.Fit.aQ{L:List bE}{enc:α→List Value}{ca:Option Addr}{n i f:Nat}{l:List α}{x:α}{xs:List Value}(h:Fit w0 (an (rowOf E sz enc (.slice ca n cc) l::L)) w)(he:pU enc sz)(hx:l[i]? = some x)(hxs:((enc x).drop f).take xs.length=xs):oS w (bg ca) (i*sz+f) xs:=by
 refine BV xs _ λk u hu => ?_
 rw[←hxs,List.getElem?_take]at hu
 split at hu
 ·rw[List.getElem?_drop]at hu
  rw[show i*sz+f+k=i*sz+(f+k) by omega]
  exact h.cL he hx hu
 ·cases hu
def xx[Inhabited α](N:Nat)(ys l:List α):List α:=(List.range N).map (λi=>if i<ys.length then ag ys i else ag l i)
def lE[Inhabited α](N:Nat)(l:List α)(k:Nat)(y:α):List α:=(List.range N).map (λi=>if i=k then y else ag l i)
theorem Mc[Inhabited α]{l:List α}{i:Nat}(h:i<l.length):ag l i=l[i]:=by
 have:=get_at h
 rw[List.getElem?_eq_getElem h]at this
 exact(Option.some.inj this).symm
theorem Qm[Inhabited α]{N i:Nat}(f:Nat→α)(h:i<N):ag ((List.range N).map f) i=f i:=by
 rw[Mc (by simpa using h)]
 simp
theorem xk[Inhabited α](N:Nat)(enc:α→List Value)(l:List α):jr N enc l=((List.range N).map (λi=>ag l i)).flatMap enc:=by unfold jr;rw[List.flatMap_map]
theorem Ei[Inhabited α]{N:Nat}{enc:α→List Value}(he:pU enc sz){ys l:List α}(h:ys.length≤N):jr N enc (xx N ys l)=ys.flatMap enc++(jr N enc l).drop (ys.length*sz):=by
 have e1:(List.range N).map (λi=>ag (xx N ys l) i)=ys++((List.range N).map (λi=>ag l i)).drop ys.length:=by
  apply List.ext_getElem
  ·simp;omega
  ·intro i h1 h2
   have hi:i<N:=by simpa using h1
   simp only[List.getElem_map,List.getElem_range]
   unfold xx
   rw[Qm _ hi,List.getElem_append]
   by_cases c:i<ys.length
   ·rw[fQ c,dif_pos c,Mc c]
   ·rw[fh c,dif_neg c]
    simp only[List.getElem_drop,List.getElem_map,List.getElem_range]
    congr 1;omega
 have e2:∀(m:List α) (k:Nat),(m.drop k).flatMap enc=(m.flatMap enc).drop (k*sz):=by
  intro m k
  by_cases hk:k≤m.length
  ·have e:(m.take k).flatMap enc++(m.drop k).flatMap enc=m.flatMap enc:=by rw[←List.flatMap_append,List.take_append_drop]
   have hl:((m.take k).flatMap enc).length=k*sz:=by rw[he.flat,List.length_take,Nat.min_eq_left hk]
   rw[←e,←hl,List.drop_left]
  ·rw[List.drop_eq_nil_of_le (by omega),List.drop_eq_nil_of_le (by rw[he.flat];exact Nat.mul_le_mul_right _ (by omega))];rfl
 rw[xk,e1,List.flatMap_append,e2,←xk]
theorem Me[Inhabited α]{N k:Nat}{enc:α→List Value}(he:pU enc sz){l:List α}{y:α}(h:k<N):jr N enc (lE N l k y)=(jr N enc l).take (k*sz)++enc y++(jr N enc l).drop (k*sz+sz):=by
 have e1:(List.range N).map (λi=>ag (lE N l k y) i)=((List.range N).map (λi=>ag l i)).set k y:=by
  apply List.ext_getElem
  ·simp
  ·intro i h1 h2
   have hi:i<N:=by simpa using h1
   simp only[List.getElem_map,List.getElem_range]
   unfold lE
   rw[Qm _ hi,List.getElem_set]
   by_cases c:i=k
   ·rw[fQ c,fQ c.symm]
   ·rw[fh c,fh (λe=>c e.symm)]
    simp
 rw[xk,e1,he.set _ _ _ (by simpa using h),←xk]
theorem Mf{A E ys:List Value}{f k:Nat}(hA:A.length=f):A++(ys++E.drop k)=(A++E).take f++ys++(A++E).drop (f+k):=by
 subst hA
 rw[List.take_left,List.append_assoc,List.drop_append]
 simp
theorem BW{s x:Operand}{α β:Type}{sz tO n0 cc i f N cv:Nat}{enc:α→List Value}{kY:β→List Value}{xs:List α}{ca va:Option Addr}{ys:List β}{E I:TypeId}{p q:α}(hw:Region.wanted o (yielded ops a.tmps)=true)(hd:o.dst=some d)(hn:Nat.blt d n=true)(hr:cy Df n (lk l j) a)
 (ho:o.op= .call {callee:=.builtin .copy,args:=#[s,x],argTypes:=#[t,t]}) (hs:eJ (lk l j) s= .slice (some ⟨bg ca,i*sz+f,none⟩) N N) (hx:eJ (lk l j) x= .slice va ys.length cv)
 (he:pU enc sz) (hi:pU kY tO) (hty:P.underlying t=some (.slice I)) (hsz:(P.info? I).map (·.size)=some tO) (hlen:ys.length≤N)
 (hF:Fit w0 (an (rowOf E sz enc (.slice ca n0 cc) xs::L)) w) (hv:cu L tO kY va ys) (hp:xs[i]? = some p) (hfit:f+ys.length*tO≤sz) (hq:enc q=(enc p).take f++ys.flatMap kY++(enc p).drop (f+ys.length*tO))
 (k:∀w1 a,Fit w0 (an (rowOf E sz enc (.slice ca n0 cc) (xs.set i q)::L)) w1→cy Df n (lk ((d,.int .i64 ((ys.length:Nat):Int))::l) j) a→wpList P ops Q rest a w1):wpList P ops Q (o::rest) a w:=by
 have BE:i<xs.length:=(List.getElem?_eq_some_iff.1 hp).1
 have hn':=hF.eY
 obtain⟨hca,zW⟩:=hF.oZ (by omega)
 obtain⟨C1,BL⟩:=zW.u7
 obtain⟨cur,SQ,LZ,hP⟩:=zW.ot
 have hle:i*sz+sz≤xs.length*sz:=by
  have:(i+1)*sz≤xs.length*sz:=Nat.mul_le_mul_right _ BE
  rw[Nat.add_mul]at this
  omega
 have Q1:xs.length*sz≤cc*sz:=Nat.mul_le_mul_right _ C1
 have hfl:(ys.flatMap kY).length=ys.length*tO:=hi.flat ys
 have hmin:Nat.min ys.length N=ys.length:=Nat.min_eq_left hlen
 have hcells:(Builtin.firstCells tO ys.length (.slice va ys.length cv)).run P w= .ok (ys.flatMap kY).toArray w:=by
  rcases Nat.eq_zero_or_pos ys.length with h0 | h0
  ·have e:ys=[]:=List.eq_nil_of_length_eq_zero h0
   subst e
   cases va with
   | none=>exact run_firstCells_none (P:=P) w tO _ _ _
   | some ad=>exact run_firstCells_some (P:=P) w tO 0 _ _ _ [] (by simp) (by simp)
  ·have XS:=hv.ne h0
   rw[XS]
   refine run_firstCells_some (P:=P) w tO ys.length _ _ _ (ys.flatMap kY) hfl ?_
   intro jj u hu
   have hj:jj<ys.length*tO:=by rw[←hfl];exact(List.getElem?_eq_some_iff.1 hu).1
   have hpos:0<tO:=hi.pos
   have h1:jj/tO<ys.length:=Nat.div_lt_of_lt_mul (by rw[Nat.mul_comm];exact hj)
   have h2:jj%tO<tO:=Nat.mod_lt _ hpos
   have h3:jj/tO*tO+jj%tO=jj:=by rw[Nat.mul_comm];exact Nat.div_add_mod jj tO
   have h4:=hi.get ys (jj/tO) (jj%tO) ys[jj/tO] (List.getElem?_eq_getElem h1) h2
   rw[h3,hu]at h4
   have h5:=(hv _ _ (List.getElem?_eq_getElem h1)).2 _ _ h4.symm _ _ hF.drop
   rw[Addr.add_lit,show jY va+jj=jY va+jj/tO*tO+jj%tO by omega]
   exact h5
 have hst:=run_storeCells_at P (bg ca) (i*sz+f) E (ys.flatMap kY) 0 cur w hP.block (by rw[hfl];omega) (hi.wu ys)
 simp only[Nat.add_zero]at hst
 refine oM (w1:=w.setRow (bg ca) (cur.toList.take (i*sz+f)++ys.flatMap kY++cur.toList.drop (i*sz+f+(ys.flatMap kY).length)).toArray) (v:=.int .i64 ((ys.length:Nat):Int)) hw hd hn hr ?_ (λa hr=>k _ a (Fit.uI ?_ hca (by rw[List.length_set];exact hn')) hr)
 ·unfold execOp
  cases ym:P.info? I with
  | none=>simp[ym]at hsz
  | some q =>
   simp[ym]at hsz
   simp only[ho,resolve,invoke,builtin,Sem.run_bind,Sem.run_pure,Result.andThen_ok,List.map_toArray,List.map_cons,List.map_nil,hs,hx]
   simp[Builtin.copy_,run_underlying hty,Builtin.lenOf,sizeOf,typeInfo,ym,hsz,hmin,hcells,hst,goInt]
 ·refine(hP.turn (w':=w.setRow (bg ca) (cur.toList.take (i*sz+f)++ys.flatMap kY++cur.toList.drop (i*sz+f+(ys.flatMap kY).length)).toArray) (setRow_heap w (bg ca) cur _ E (0,0) hP.block) (λk hk _=>setRow_other w (bg ca) k _ hk) rfl rfl rfl (by simp)).head λz hz=>⟨by simpa using C1,BL,_,?_,?_,hz⟩
  ·simp only[List.size_toArray,List.length_append,List.length_take,List.length_drop,Array.length_toList]
   omega
  ·have Ql:((xs.flatMap enc).drop (i*sz)).take sz=enc p:=by
    apply List.ext_getElem?
    intro k
    rw[List.getElem?_take]
    by_cases hk:k<sz
    ·rw[fQ hk,List.getElem?_drop]
     exact he.get xs i k p hp hk
    ·rw[fh hk,List.getElem?_eq_none (by rw[he.len];omega)]
   rw[←hfl]at hq hfit
   generalize ys.flatMap kY=vs at hq hfit hst⊢
   rw[List.length_set,he.set xs i q BE,hq,←Ql,yp _ _ _ _ _ hfit (by rw[he.flat];exact hle),←LZ]
   have hA:(cur.toList.take (i*sz+f)).length=i*sz+f:=by rw[List.length_take,Array.length_toList];omega
   have e1:(cur.toList.take (i*sz+f)++vs++cur.toList.drop (i*sz+f+vs.length)).take (xs.length*sz)=cur.toList.take (i*sz+f)++vs++(cur.toList.drop (i*sz+f+vs.length)).take (xs.length*sz-(i*sz+f+vs.length)):=by
    rw[List.take_append,List.take_of_length_le (by rw[List.length_append,hA];omega),List.length_append,hA]
   rw[List.toList_toArray,e1,List.take_take,Nat.min_eq_left (by omega),List.drop_take]
end
end GX
end
section
namespace RK
open Go Go.RowKit Go.ChangeShapes Go.WideShapes Go.Deep SL GX
section
variable {H:Type}{zY:TypeId×Value→H}{P:Program}{W:World}{base:Nat}{spare:Nat→Bool}{held:Bool}{t e:TypeId}{n:Nat}{cs:List Value}{y:DataW H×List MemPlace}
theorem Jf{l:List (DataW H)}{d:DataW H}(h:d∈l):Rows.uptoBulk d≤Rows.uptoBulkAll l:=DM h
theorem nJ{fs:Array Field}(hs:P.underlying t=some (.struct fs))(h:DataW.trod zY P W base spare held n t cs=some y)(i:Nat){f:Field}(hf:fs[i]? = some f) :
 ∃m z,DataW.trod zY P W base spare held m f.type ((cs.drop f.offset).take (P.cellsOf f.type))=some z∧Rows.uptoBulk z.1≤Rows.uptoBulk y.1:=by
 obtain⟨xs,m,_,hx,_,hl,hg⟩:=DataW.trod_struct hs h
 have hi:i<fs.size:=(Array.getElem?_eq_some_iff.1 hf).1
 have hg:=hg i f hf
 rw[List.getElem?_eq_getElem (by omega)]at hg
 refine⟨m,_,hg,?_⟩
 rw[hx]
 simp only[Rows.uptoBulk]
 have:=Jf (l:=xs.map (·.1)) (List.mem_map.2 ⟨_,List.getElem_mem (show i<xs.length by omega),rfl⟩)
 omega
theorem Rf{fs:Array Field}(hs:P.underlying t=some (.struct fs))(h:DataW.trod zY P W base spare held n t cs=some y):cs.length=P.cellsOf t:=by
 obtain⟨xs,m,_,hx,hl,_⟩:=DataW.trod_struct hs h
 exact hl
theorem q7(ht:P.underlying t=some (.int .i64))(h:DataW.trod zY P W base spare held n t cs=some y) :∃x:Int,cs=[.int .i64 x]∧BS x:=by
 obtain⟨x,hx,_,hw⟩:=DataW.trod_int ht h
 exact⟨x,hx,wf_i64 hw⟩
theorem HD{α:Type}{Q:α→DataW H→Prop}{enc:α→List Value}{sz:Nat}(he:pU enc sz)(ht:P.underlying t=some (.slice e))(hC:P.cellsOf e=sz)
 (Mg:∀n cs y,DataW.trod zY P W base spare held n e cs=some y→cs.length=sz→∃x:α,cs=enc x∧Q x y.1) (h:DataW.trod zY P W base spare held n t cs=some y) :
 ∃(va:Option Addr) (l:List α) (cap:Nat),cs=[.slice va l.length cap]∧cu [old W] sz enc va l∧(∀x∈l,∃d,Q x d∧Rows.uptoBulk d≤Rows.uptoBulk y.1)∧l.length+1≤Rows.uptoBulk y.1∧l.length≤cap:=by
 rcases open_slice ht h with ⟨h0,_⟩ | ⟨a',len,cap,m,n,D,Pl,hcs,_,hl,hm,hmm,hx,hi⟩
 ·exact⟨none,[],0,h0,cu.nil,λx h=>by simp at h,by simpa using FU y.1,by simp⟩
 ·have hlm:len≤m:=by rw[hmm];split<;>omega
  rw[hC]at hi
  have hex:∀i,i<m→∃x:α,W.cells? base (a'.add (i*sz)) sz=some (enc x)∧Q x (D i):=λi him=>by
   obtain⟨cs',h1,h2⟩:=hi i him
   obtain⟨_,h3,_⟩:=World.cells?_some h1
   obtain⟨x,hx,hq⟩:=Mg n cs' _ h2 h3
   exact⟨x,by rw[h1,hx],hq⟩
  have hlen:∀k,k≤m→∃l:List α,l.length=k∧∀i x,l[i]? = some x→W.cells? base (a'.add (i*sz)) sz=some (enc x)∧Q x (D i):=by
   intro k
   induction k with
   | zero=>intro _;exact⟨[],rfl,λi x h=>by simp at h⟩
   | succ k ih =>
    intro hk
    obtain⟨l,h1,h2⟩:=ih (by omega)
    obtain⟨x,hx⟩:=hex k (by omega)
    refine⟨l++[x],by simp[h1],λi y hy => ?_⟩
    by_cases hik:i<l.length
    ·rw[List.getElem?_append_left hik]at hy;exact h2 i y hy
    ·rw[List.getElem?_append_right (by omega)]at hy
     have fW:i=k:=by
      have:=(List.getElem?_eq_some_iff.1 hy).1
      simp at this;omega
     subst fW
     rw[h1,Nat.sub_self]at hy
     simp at hy;subst hy;exact hx
  obtain⟨l,C1,BL⟩:=hlen len hlm
  have hd:y.1= .slice ((List.range len).map D) ((List.range (m-len)).map λj=>D (len+j)):=congrArg Prod.fst hx
  refine⟨some a',l,cap,by rw[C1];exact hcs,λi x hx => ?_,λx hx => ?_,?_,by omega⟩
  ·have hc:=(BL i x hx).1
   obtain⟨_,_,hat⟩:=World.cells?_some hc
   have hcell:∀f u,(enc x)[f]? = some u→W.cell? ((a'.add (i*sz)).add f)=some u:=λf u hu=>by
    have hf:f<sz:=by rw[←he.len x];exact(List.getElem?_eq_some_iff.1 hu).1
    rw[hat f hf,hu]
   have hsp:a'.spot=none:=by
    have hp:=he.pos
    have BE:i<l.length:=(List.getElem?_eq_some_iff.1 hx).1
    have hx0:l[0]? = some (l[0]'(by omega)):=List.getElem?_eq_getElem (by omega)
    obtain⟨_,_,XY⟩:=World.cells?_some (BL 0 _ hx0).1
    have h0:0<(enc (l[0]'(by omega))).length:=by rw[he.len];exact hp
    have h1:W.cell? ((a'.add (0*sz)).add 0)=some _:=(XY 0 hp).trans (List.getElem?_eq_getElem h0)
    have h2:=World.cell?_spot h1
    rw[Nat.zero_mul,Addr.add,fQ rfl,Addr.add,fQ rfl]at h2
    exact h2
   obtain⟨ab,ao,asp⟩:=a'
   simp only at hsp
   subst hsp
   refine⟨rfl,λf u hu z w hw => ?_⟩
   refine hw.FC ?_
   have:=hcell f u hu
   rw[Addr.add_lit,Addr.add_lit]at this
   exact this
  ·obtain⟨i,hi,rfl⟩:=List.getElem_of_mem hx
   obtain⟨_,hq⟩:=BL i _ (List.getElem?_eq_getElem hi)
   refine⟨D i,hq,?_⟩
   rw[hd]
   simp only[Rows.uptoBulk]
   have:=Jf (l:=(List.range len).map D) (List.mem_map.2 ⟨i,List.mem_range.2 (by omega),rfl⟩)
   omega
  ·rw[hd,C1]
   simp only[Rows.uptoBulk]
   have:=L7 ((List.range len).map D)
   simp only[List.length_map,List.length_range]at this
   omega
theorem Ej(ht:P.underlying t=some (.slice e))(he:P.underlying e=some (.int .i64))(hC:P.cellsOf e=1)(h:DataW.trod zY P W base spare held n t cs=some y) :
 ∃(va:Option Addr) (l:List Int) (cap:Nat),cs=[.slice va l.length cap]∧cu [old W] 1 dK va l∧(∀x∈l,BS x)∧l.length+1≤Rows.uptoBulk y.1∧l.length≤cap:=by
 obtain⟨va,l,cap,h1,h2,h3,h4,h5⟩:=HD (Q:=λx _=>BS x) bq ht hC (λn cs y h hl=>by
  obtain⟨x,hx,hi⟩:=q7 he h
  exact⟨x,by rw[hx];rfl,hi⟩) h
 exact⟨va,l,cap,h1,h2,λx hx=>by obtain⟨_,h,_⟩:=h3 x hx;exact h,h4,h5⟩
theorem Oz{α β:Type}{Q:α→DataW H→Prop}{enc:Option Addr→Nat→α→List Value}{kY:β→List Value}{DN:α→List β}{sz tO:Nat}(he:∀a c,pU (enc a c) sz)(ht:P.underlying t=some (.slice e))(hC:P.cellsOf e=sz)
 (Mg:∀n cs y,DataW.trod zY P W base spare held n e cs=some y→cs.length=sz→∃(a:Option Addr) (c:Nat) (x:α),cs=enc a c x∧cu [old W] tO kY a (DN x)∧Q x y.1) (h:DataW.trod zY P W base spare held n t cs=some y) :
 ∃(va:Option Addr) (hs:Nat→Option Addr×Nat) (l:List α) (cap:Nat),cs=[.slice va l.length cap]∧xw [old W] sz tO enc kY DN va hs l∧(∀x∈l,∃d,Q x d∧Rows.uptoBulk d≤Rows.uptoBulk y.1)∧l.length+1≤Rows.uptoBulk y.1∧l.length≤cap:=by
 obtain⟨va,l,cap,h1,h2,h3,h4,h5⟩:=HD (α:=(Option Addr×Nat)×α) (Q:=λp d=>cu [old W] tO kY p.1.1 (DN p.2)∧Q p.2 d) (enc:=λp=>enc p.1.1 p.1.2 p.2)
  ⟨λp=>(he _ _).len _,λp u h=>(he _ _).one _ u h,(he none 0).pos⟩ ht hC (λn cs y h hl=>by
   obtain⟨a,c,x,e1,e2,e3⟩:=Mg n cs y h hl
   exact⟨((a,c),x),e1,e2,e3⟩) h
 refine⟨va,λi=>(l[i]?.map (·.1)).getD (none,0),l.map (·.2),cap,by rw[List.length_map];exact h1,λi x hx => ?_,λx hx => ?_,by rw[List.length_map];exact h4,by rw[List.length_map];exact h5⟩
 ·rw[List.getElem?_map]at hx
  cases hq:l[i]? with
  | none=>rw[hq]at hx;cases hx
  | some p =>
   rw[hq]at hx
   simp only[Option.map_some,Option.some.injEq]at hx
   subst hx
   obtain⟨a1,a2⟩:=h2 i p hq
   obtain⟨_,a3,_⟩:=h3 p (List.mem_of_getElem? hq)
   simp only[hq,Option.map_some,Option.getD_some]
   exact⟨a1,a2,a3.1⟩
 ·obtain⟨p,hp,rfl⟩:=List.mem_map.1 hx
  obtain⟨d,a,b⟩:=h3 p hp
  exact⟨d,a.2,b⟩
end
theorem FX{P:Program}{W:World}{α:Type}{enc:α→List Value}{dE:α→DataW Unit}{sz:Nat}{name:String}{g:Nat}{t e:TypeId}{N:Nat}{l:List α}{rest:List (String×DataW Unit)}{ps:List MemPlace}(hsz:0<sz)
 (hg:P.globalNamed name=some g) (hty:(P.globals[g]?).map (·.type)=some t) (ht:P.underlying t=some (.array N e)) (hC:P.cellsOf e=sz) (hCt:P.cellsOf t=N*sz) (hN:N=l.length)
 (hlen:∀x,(enc x).length=sz) (Mg:∀m cs y x,DataW.trod (λ_=>()) P W 0 (λ_=>true) false m e cs=some y→cs.length=sz→y.1=dE x→cs=enc x)
 (h:DataW.LaidVars P W ((name,.agg (l.map dE))::rest) ps):cu [old W] sz enc (some ⟨g,0,none⟩) l∧∃qs,DataW.LaidVars P W rest qs:=by
 obtain⟨g',t',cs,fuel,p,q,I7,ht',XZ,hd,hr,_⟩:=h
 obtain rfl:=Option.some.inj (hg.symm.trans I7)
 obtain rfl:=Option.some.inj (hty.symm.trans ht')
 refine⟨λi x hx => ?_,_,hr⟩
 have hi:i<l.length:=(List.getElem?_eq_some_iff.1 hx).1
 refine⟨rfl,λf u hu z w hw=>hw.FC ?_⟩
 obtain⟨xs,m,_,ex,hlc,hl,hel⟩:=DataW.trod_array ht hd
 have hf:f<sz:=by rw[←hlen x];exact(List.getElem?_eq_some_iff.1 hu).1
 have h1:=hel i (by omega)
 rw[hC,List.getElem?_eq_getElem (by omega)]at h1
 have h2:(xs[i]'(by omega)).1=dE x:=by
  simp only[Prod.mk.injEq,DataW.agg.injEq]at ex
  have:=congrArg (·[i]?) ex.1
  simp only[List.getElem?_map,hx,Option.map_some,List.getElem?_eq_getElem (show i<xs.length by omega),Option.some.injEq]at this
  exact this.symm
 have hlt:cs.toList.length=N*sz:=by rw[hlc,hCt]
 have h4:i*sz+sz≤N*sz:=by
  have:=Nat.mul_le_mul_right sz (show i+1≤N by omega)
  rw[Nat.succ_mul]at this;exact this
 have h3:=Mg m _ _ x h1 (by rw[List.length_take,List.length_drop,hlt];omega) h2
 have:=World.var?_cell hg XZ (i*sz+f)
 rw[show(jY (some ⟨g,0,none⟩:Option Addr))=0 from rfl,Nat.zero_add]
 show W.cell? ⟨g,i*sz+f,none⟩=some u
 rw[this,←Array.getElem?_toList]
 rw[←h3,List.getElem?_take,fQ hf,List.getElem?_drop]at hu
 exact hu
end RK
end
section
namespace GX
open Go Go.RowKit SL
def OA(x y:Int):Int:=IntKind.i64.wrap ((BitVec.ofInt 64 x ^^^ BitVec.ofInt 64 y).toNat)
def OB(x y:Int):Int:=IntKind.i64.wrap (x*2 ^ (min y.toNat 64))
def OC(x y:Int):Int:=x.fdiv (2 ^ (min y.toNat 64))
section
variable {P:Program}{ops:Array Oper}{Q:Exit→Act→World→Prop}{a:Act}{w w0 w1:World}{rest:List Oper}{o:Oper}{n d t:Nat}{v v1:Value}{l:List (Nat×Value)}{j e:Nat→Value}{L:List bE}{Df:List Deferred}{E:TypeId}
theorem X0{x y:Operand}{p q:Int}{T T':TypeId}(ho:o.op= .binOp .xor T x y T')(hx:eJ e x= .int .i64 p)(hy:eJ e y= .int .i64 q):(execOp (eJ e) o).run P w= .ok (.value (.int .i64 (OA p q))) w:=by
 unfold execOp
 simp[ho,hx,hy,eqGuard,binOp,Op.intBits];rfl
theorem Mh(x:Int):0≤IntKind.u64.wrap x:=by
 simp only[IntKind.wrap,IntKind.min,IntKind.max,IntKind.signed,IntKind.bits]
 simp;omega
theorem X1{x y:Operand}{p q:Int}{T T':TypeId}(ho:o.op= .binOp .shl T x y T')(hx:eJ e x= .int .i64 p)(hy:eJ e y= .int .u64 q)(hq:0≤q):(execOp (eJ e) o).run P w= .ok (.value (.int .i64 (OB p q))) w:=by
 have h:¬q<0:=by omega
 unfold execOp
 simp[ho,hx,hy,eqGuard,binOp,Op.shift,h];rfl
theorem X2{x y:Operand}{p q:Int}{T T':TypeId}(ho:o.op= .binOp .shr T x y T')(hx:eJ e x= .int .i64 p)(hy:eJ e y= .int .u64 q)(hq:0≤q):(execOp (eJ e) o).run P w= .ok (.value (.int .i64 (OC p q))) w:=by
 have h:¬q<0:=by omega
 unfold execOp
 simp[ho,hx,hy,eqGuard,binOp,Op.shift,h];rfl
theorem Jg{x y:Operand}{k:IntKind}{i:Int}{b N off sz:Nat}{w':World}(ho:o.op= .indexAddr t x y)(hx:eJ e x= .pointer (some ⟨b,off,none⟩))(hy:eJ e y= .int k i)
 (ht:P.underlying t=some (.array N E)) (hs:(P.info? E).map (·.size)=some sz) (hi:bT i N):(execOp (eJ e) o).run P w'= .ok (.value (.pointer (some ⟨b,off+i.toNat*sz,none⟩))) w':=by
 unfold execOp
 have h0:=hi.1;have h1:=hi.2
 simp only[ho,hx,hy]
 cases hq:P.info? E with
 | none=>simp[hq]at hs
 | some q =>
  simp[hq]at hs
  simp[Instr.indexAt,Instr.sureAddr,run_underlying ht,asIntOf,h0,h1,sizeOf,typeInfo,hq,hs,Addr.add_lit]
theorem rQ{x y:Operand}{kd:IntKind}{i j:Int}{v:Value}{w:World}(ho:o.op= .index t x y)(hy:eJ e y= .int kd i)(hi:i=j)(hrun:(Instr.index t (eJ e x) (.int kd j)).run P w= .ok v w):(execOp (eJ e) o).run P w= .ok (.value v) w:=by
 subst hi
 unfold execOp
 simp[ho,hy,hrun]
theorem uk{x y:Operand}{k:IntKind}{i:Int}{b N R off sz:Nat}{w':World}(ho:o.op= .indexAddr t x y)(hx:eJ e x= .pointer (some ⟨b,R+off,none⟩))(hy:eJ e y= .int k i)
 (ht:P.underlying t=some (.array N E)) (hs:(P.info? E).map (·.size)=some sz) (hi:bT i N):(execOp (eJ e) o).run P w'= .ok (.value (.pointer (some ⟨b,R+(off+i.toNat*sz),none⟩))) w':=by
 rw[←Nat.add_assoc];exact Jg ho hx hy ht hs hi
end
section
variable {α:Type}[Inhabited α]{enc:α→List Value}{sz N:Nat}{C pre post:List Value}{l:List α}{o:Nat}
theorem oU{i:Int}(h:bT i N):i.toNat<N:=by have h0:=h.1;have h1:=h.2;omega
theorem Mi(he:pU enc sz){i f:Nat}(hi:i<N){u:Value}(hu:(enc (ag l i))[f]? = some u):(jr N enc l)[i*sz+f]? = some u:=by
 have hf:f<sz:=by rw[←he.len (ag l i)];exact(List.getElem?_eq_some_iff.1 hu).1
 rw[xk,he.get _ i f (ag l i) (by simp[hi]) hf];exact hu
theorem wC(hC:C=pre++(jr N enc l++post))(he:pU enc sz)(ho:pre.length=o){i f:Nat}(hi:i<N){u:Value}(hu:(enc (ag l i))[f]? = some u):C[o+i*sz+f]? = some u:=by
 have h1:=Mi (N:=N) he hi hu
 have h2:i*sz+f<(jr N enc l).length:=(List.getElem?_eq_some_iff.1 h1).1
 rw[hC,List.getElem?_append_right (by omega),ho,show o+i*sz+f-o=i*sz+f by omega,List.getElem?_append_left h2]
 exact h1
theorem OD(hC:C=pre++(jr N enc l++post))(he:pU enc sz)(ho:pre.length=o){i:Nat}(hi:i<N){xs:List Value}(hx:enc (ag l i)=xs):(C.drop (o+i*sz)).take xs.length=xs:=by
 subst hx
 apply List.ext_getElem?
 intro k
 rw[List.getElem?_take]
 by_cases hk:k<(enc (ag l i)).length
 ·rw[fQ hk,List.getElem?_drop,wC hC he ho hi (List.getElem?_eq_getElem hk),List.getElem?_eq_getElem hk]
 ·rw[fh hk,List.getElem?_eq_none (by omega)]
theorem HE{C':List Value}(hC:C=pre++(jr N enc l++post))(he:pU enc sz)(ho:pre.length=o){i:Nat}(hi:i<N){y:α}{vs:List Value}(hy:enc y=vs)(X3:C'=pre++(jr N enc (lE N l i y)++post)):C'=C.take (o+i*sz)++vs++C.drop (o+i*sz+vs.length):=by
 have hl:=(Bq N he l).len
 have hvs:vs.length=sz:=by rw[←hy];exact he.len y
 have hm:i*sz+sz≤N*sz:=by
  have:=Nat.mul_le_mul_right sz (show i+1≤N by omega)
  rw[Nat.succ_mul]at this;exact this
 have e1:(pre++(jr N enc l++post)).take (o+i*sz)=pre++(jr N enc l).take (i*sz):=by
  rw[List.take_append,List.take_of_length_le (by omega),ho,show o+i*sz-o=i*sz by omega,List.take_append_of_le_length (by omega)]
 have e2:(pre++(jr N enc l++post)).drop (o+i*sz+sz)=(jr N enc l).drop (i*sz+sz)++post:=by
  rw[List.drop_append,List.drop_of_length_le (by omega),ho,show o+i*sz+sz-o=i*sz+sz by omega,List.nil_append,List.drop_append_of_le_length (by omega)]
 rw[X3,hC,Me he hi,←hy,he.len y,e1,e2]
 simp only[List.append_assoc]
theorem Mj(hC:C=pre++(jr N enc l++post))(he:pU enc sz)(ho:pre.length=o){i m:Nat}(hi:i<N)(hm:m≤sz):o+i*sz+m≤C.length:=by
 have hl:=(Bq N he l).len
 have:i*sz+sz≤N*sz:=by
  have:=Nat.mul_le_mul_right sz (show i+1≤N by omega)
  rw[Nat.succ_mul]at this;exact this
 rw[hC,List.length_append,List.length_append,hl];omega
theorem yV{C':List Value}{v:Value}(hC:C=pre++(jr N enc l++post))(he:pU enc 1)(ho:pre.length=o){i:Nat}(hi:i<N){y:α}(hy:enc y=[v])(X3:C'=pre++(jr N enc (lE N l i y)++post)):C'=C.set (o+i*1) v:=by
 have h:=HE hC he ho hi hy X3
 have hl:=Mj (m:=1) hC he ho hi (Nat.le_refl _)
 rw[h,List.set_eq_take_append_cons_drop,fQ (by omega)]
 simp
end
section
variable {P:Program}{ops:Array Oper}{Q:Exit→Act→World→Prop}{a:Act}{w w0 w1:World}{rest:List Oper}{o:Oper}{n d t:Nat}{v v1:Value}{l:List (Nat×Value)}{j e:Nat→Value}{L:List bE}{Df:List Deferred}{E:TypeId}
theorem _root_.Go.Proofs.YtpikpffbcjpmcaaGreatDoor.SL.Fit.Mk{b k:Nat}{C xs:List Value}{T:TypeId}(h:Fit w0 (an (pts b (.cells C.toArray T)::L)) w)(hx:(C.drop k).take xs.length=xs):oS w b k xs:=by
 refine BV xs _ λq u hu => ?_
 rw[←hx,List.getElem?_take]at hu
 split at hu
 ·rw[List.getElem?_drop]at hu
  exact h.cell (k+q) (by simpa using hu)
 ·cases hu
theorem yW{x y:Operand}{b k:Nat}{C C' vs:List Value}{T:TypeId}(hw:Region.wanted o (yielded ops a.tmps)=true)(hd:o.dst=none)(hr:cy Df n (lk l j) a)(ho:o.op= .store t x y)
 (hx:eJ (lk l j) x= .pointer (some ⟨b,k,none⟩)) (hy:eJ (lk l j) y= .agg vs.toArray) (h1:vs.all (·.oneCell')=true) (hs:(P.info? t).map (·.size)=some vs.length)
 (hF:Fit w0 (an (pts b (.cells C.toArray T)::L)) w) (hk:k+vs.length≤C.length) (hC:C'=C.take k++vs++C.drop (k+vs.length))
 (K:∀w1,Fit w0 (an (pts b (.cells C'.toArray T)::L)) w1→wpList P ops Q rest a w1):wpList P ops Q (o::rest) a w:=
 DK hw hd hr ho hx hy h1 (Nat.ble_eq_true_of_le (by simpa using hk)) hs hF (cs':=C'.toArray) (by rw[hC]) K
end
end GX
end
section
namespace GX
open Go Go.RowKit SL
section
variable {P:Program}{w w0 w1 z:World}{ops:Array Oper}{Q:Exit→Act→World→Prop}{a:Act}{rest:List Oper}{e:Nat→Value}{o:Oper}{n d:Nat}{l:List (Nat×Value)}{j:Nat→Value}{Df:List Deferred}{L:List bE}{u:Value}
theorem zZ{x:Operand}{T:TypeId}(hw:Region.wanted o (yielded ops a.tmps)=true)(hr:cy Df n (lk l j) a)(ho:o.op= .panic x)(hx:eJ (lk l j) x= .iface T u)
 (k:Q (.panic [{v:=.iface T u,recovered:=false}]) a w):wpList P ops Q (o::rest) a w:=by
 refine sO hw ?_
 unfold Oper.wp
 have h:(execOp (eJ (lk l j)) o).run P w= .halt (.panic (.iface T u)) w:=by
  unfold execOp
  simp[ho,hx,Instr.panic,goPanic]
 rw[hr.eval,h,Oper.upon_panic]
 exact k
theorem FY{f:FuncId}{args:Array Value}{R:Ending→World→Prop}(hw:Region.wanted o (yielded ops a.tmps)=true)(hr:cy Df n (lk l j) a)
 (hrun:(execOp (eJ (lk l j)) o).run P w= .ok (.enter f args) w) (hc:Calls P f args w R)
 (k:∀e w1,R e w1→∃ch,e= .panicked ch∧Q (.panic ch) a w1):wpList P ops Q (o::rest) a w:=by
 refine sO hw ?_
 unfold Oper.wp
 rw[hr.eval,hrun,Oper.upon_enter]
 refine hc.mono λe w1 h => ?_
 obtain⟨ch,rfl,h2⟩:=k e w1 h
 exact h2
theorem lF{K:Act→World→Prop}{ch:List PanicEntry}(h:Q (.panic ch) a w):Exit.then K Q (.panic ch) a w:=h
theorem pH{i:Nat}{ch:List PanicEntry}(h:Q (.panic ch) a w):Exit.inBlock i Q (.panic ch) a w:=h
theorem xl{fn:Func}{R:Ending→World→Prop}{ch:List PanicEntry}(hr:kP n e a)(h:R (.panicked ch) w):bodyPost P fn R (.panic ch) a w:=⟨hr.defers,h⟩
theorem X4{γ δ:Type}{x y:δ}(h:some (Sum.inr x:γ⊕δ)=some (Sum.inr y)):x=y:=by cases h;rfl
theorem Ml(h:Q .ret a w):Exit.noGoto Q .ret a w:=h
instance aaC [h:PI Q]:PI (Exit.noGoto Q):=⟨λch a w dst v k=>h.pi ch a w dst v k⟩
end
section
variable {P:Program}{w:World}
theorem Ek(em:Bool)(d:Nat)(xs:Array Value):∀(fs:List Field) (i:Nat) (us:List Value),xU P i fs us us=true→(∀j,us[j]? = xs[i+j]?∨us.length≤j)→
 Sem.run P (forIn fs PUnit.unit λf _=>if f.name≠ "_" then do let v←part f.type xs f.offset;Instr.checkKey em (d+1) f.type v;pure (ForInStep.yield PUnit.unit)else pure (ForInStep.yield PUnit.unit)) w= .ok PUnit.unit w
 | [],_,[],_,_=>by simp
 | f::fs,i,.int k a::us,h,hx=>by
  simp only[xU,Bool.and_eq_true,bne_iff_ne,ne_eq,beq_iff_eq]at h
  obtain⟨⟨⟨⟨hn,ho⟩,ht⟩,_⟩,hr⟩:=h
  have hx0:xs[i]? = some (.int k a):=by rcases hx 0 with h | h;simpa using h.symm;simp at h
  have hty :∃kk,P.underlying f.type=some (.int kk):=by
   revert ht
   cases hq:P.underlying f.type with
   | none=>simp
   | some d=>cases d<;>simp
  obtain⟨kk,hty⟩:=hty
  have ih:=Ek em d xs fs (i+1) us hr (λj=>by rcases hx (j+1)with h | h;left;simpa [Nat.add_comm,Nat.add_left_comm]using h;right;simpa using h)
  have pa:=ou (P:=P) (w:=w) (t:=f.type) (cs:=xs) (i:=f.offset) (v:=.int k a) (by rw[hty]) (by rw[ho];exact hx0)
  have hc:(Instr.checkKey em (d+1) f.type (.int k a)).run P w= .ok () w:=by simp[Instr.checkKey,run_underlying hty]
  rw[List.forIn_cons]
  simp only[ne_eq,fQ hn,Sem.run_bind,pa,hc,Result.andThen_ok,Sem.run_pure]
  simpa using ih
 | f::fs,i,.bool a::us,h,hx=>by
  simp only[xU,Bool.and_eq_true,bne_iff_ne,ne_eq,beq_iff_eq]at h
  obtain⟨⟨⟨hn,ho⟩,ht⟩,hr⟩:=h
  have hx0:xs[i]? = some (.bool a):=by rcases hx 0 with h | h;simpa using h.symm;simp at h
  have hty:P.underlying f.type=some .bool:=by
   revert ht
   cases hq:P.underlying f.type with
   | none=>simp
   | some d=>cases d<;>simp
  have ih:=Ek em d xs fs (i+1) us hr (λj=>by rcases hx (j+1)with h | h;left;simpa [Nat.add_comm,Nat.add_left_comm]using h;right;simpa using h)
  have pa:=ou (P:=P) (w:=w) (t:=f.type) (cs:=xs) (i:=f.offset) (v:=.bool a) (by rw[hty]) (by rw[ho];exact hx0)
  have hc:(Instr.checkKey em (d+1) f.type (.bool a)).run P w= .ok () w:=by simp[Instr.checkKey,run_underlying hty]
  rw[List.forIn_cons]
  simp only[ne_eq,fQ hn,Sem.run_bind,pa,hc,Result.andThen_ok,Sem.run_pure]
  simpa using ih
theorem Mm{em:Bool}{T:TypeId}{us:List Value}(d:Nat)(hu:P.underlying T=some (.struct (P.fieldsOf T)))(hf:xU P 0 (P.fieldsOf T).toList us us=true):(Instr.checkKey em (d+2) T (.agg us.toArray)).run P w= .ok () w:=by
 unfold Instr.checkKey
 simp only[run_underlying hu,Sem.run_bind,Result.andThen_ok,←Array.forIn_toList]
 rw[Ek em d us.toArray _ 0 us hf (λj=>by left;simp)]
 simp
structure FZ{α:Type}[DecidableEq α](P:Program)(kt:TypeId)(ek:α→List Value):Prop where
 hp:P.stoodInHeld kt=false
 hu:P.underlying kt=some (.struct (P.fieldsOf kt))
 hf:∀x y,xU P 0 (P.fieldsOf kt).toList (ek x) (ek y)=true
 eq:∀x y,qd (ek x) (ek y)=decide (x=y)
end
section
variable {α β:Type}[DecidableEq α]
def od(ek:α→List Value)(ev:β→List Value)(l:List (α×β))(k:Nat):List MapEntry:=(l.zipIdx k).map λp=>{key:=.agg (ek p.1.1).toArray,val:=.agg (ev p.1.2).toArray,born:=p.2}
def mapOf(ek:α→List Value)(ev:β→List Value)(b:Nat)(l:List (α×β)):bE:=pts b (.map (od ek ev l 0).toArray l.length)
def tP:List (α×β)→α→Option β
 | [],_=>none
 | p::l,x=>if x=p.1 then some p.2 else tP l x
variable {P:Program}{w w0 w1 z:World}{ops:Array Oper}{Q:Exit→Act→World→Prop}{a:Act}{rest:List Oper}{e:Nat→Value}{o:Oper}{n d:Nat}{l:List (Nat×Value)}{j:Nat→Value}{Df:List Deferred}{L:List bE}{u:Value}
variable {ek:α→List Value}{ev:β→List Value}{b:Nat}{m:List (α×β)}{t kt et:TypeId}
theorem F1(hk:FZ P kt ek)(x:α):∀(m:List (α×β)) (k i:Nat),((tP m x=none∧(Instr.findAsking kt (.agg (ek x).toArray) (od ek ev m k) i).run P w= .ok none w)∨∃v q,tP m x=some v∧(Instr.findAsking kt (.agg (ek x).toArray) (od ek ev m k) i).run P w= .ok (some (q,.agg (ev v).toArray)) w)
 | [],k,i=>by left;exact⟨rfl,by simp[od,Instr.findAsking]⟩
 | p::m,k,i=>by
  have h1:=run_equalIn_struct (P:=P) w 9999 kt (ek x).toArray (ek p.1).toArray hk.hu hk.hp
  rw[Ef (P:=P) (w:=w) 9998 (ek x).toArray (ek p.1).toArray (P.fieldsOf kt).toList 0 (ek x) (ek p.1) (hk.hf x p.1) (λj=>by left;simp) (λj=>by left;simp)]at h1
  have h2:(Op.equal kt (.agg (ek x).toArray) (.agg (ek p.1).toArray)).run P w= .ok (decide (x=p.1)) w:=by rw[←hk.eq];exact h1
  have e:od ek ev (p::m) k={key:=.agg (ek p.1).toArray,val:=.agg (ev p.2).toArray,born:=k}::od ek ev m (k+1):=rfl
  rw[e]
  by_cases c:x=p.1
  ·right
   refine⟨p.2,i,by simp[tP,c],?_⟩
   rw[Instr.findAsking]
   simp only[Sem.run_bind,h2,Result.andThen_ok]
   simp[c]
  ·have ih:=F1 hk x m (k+1) (i+1)
   have e2:(Instr.findAsking kt (.agg (ek x).toArray) ({key:=.agg (ek p.1).toArray,val:=.agg (ev p.2).toArray,born:=k}::od ek ev m (k+1)) i).run P w=(Instr.findAsking kt (.agg (ek x).toArray) (od ek ev m (k+1)) (i+1)).run P w:=by
    rw[Instr.findAsking]
    simp[h2,c]
   rw[e2]
   simpa [tP,c]using ih
theorem DQ(hk:FZ P kt ek)(x:α)(m:List (α×β)):((tP m x=none∧(Instr.findKey kt (.agg (ek x).toArray) (od ek ev m 0)).run P w= .ok none w)∨∃v q,tP m x=some v∧(Instr.findKey kt (.agg (ek x).toArray) (od ek ev m 0)).run P w= .ok (some (q,.agg (ev v).toArray)) w):=by
 have h:=F1 (P:=P) (w:=w) (ev:=ev) hk x m 0 0
 unfold Instr.findKey
 simp only[Sem.run_bind,run_underlying hk.hu,Result.andThen_ok]
 cases m with
 | nil=>left;exact⟨rfl,by simp[od,Instr.findNow]⟩
 | cons p m =>
  have e:Instr.findNow (.struct (P.fieldsOf kt)) (.agg (ek x).toArray) (od ek ev (p::m) 0) 0=none:=rfl
  rw[e]
  exact h
theorem Mn(hw:Region.wanted o (yielded ops a.tmps)=true)(hd:o.dst=some d)(hn:Nat.blt d n=true)(hr:cy Df n (lk l j) a)(ho:o.op= .makeMap t none)(ek:α→List Value)(ev:β→List Value)(hF:Fit z (an L) w)
 (k:∀b w a,Fit z (an (mapOf ek ev b []::L)) w→cy Df n (lk ((d,.map (some b))::l) j) a→wpList P ops Q rest a w):wpList P ops Q (o::rest) a w:=by
 refine oM hw hd hn hr (w1:=w.alloc (.map #[] 0)) (v:=.map (some w.heap.size)) ?_ λa Fm=>k _ _ a (hF.alloc _) Fm
 unfold execOp
 simp[ho,Instr.makeMap,newObj]
 rfl
theorem OE{zc:Array Value}(h:(P.info? et).bind (·.zero)=some (.agg zc)):(zeroValue et).run P w= .ok (.agg zc) w:=by
 cases hi:P.info? et with
 | none=>simp[hi]at h
 | some i =>
  simp[hi]at h
  simp[zeroValue,typeInfo,hi,h]
theorem OG{x y:Operand}{v0:β}(hw:Region.wanted o (yielded ops a.tmps)=true)(hd:o.dst=some d)(hn:Nat.blt d n=true)(hr:cy Df n (lk l j) a)(ho:o.op= .lookup t x y true)(hx:eJ (lk l j) x= .map (some b))(q:α)(hy:eJ (lk l j) y= .agg (ek q).toArray)
 (ht:P.underlying t=some (.map kt et)) (hk:FZ P kt ek) (hz:(P.info? et).bind (·.zero)=some (.agg (ev v0).toArray)) (hF:Fit z (an (mapOf ek ev b m::L)) w)
 (k:∀a,cy Df n (lk ((d,.tuple #[.agg (ev ((tP m q).getD v0)).toArray,.bool (tP m q).isSome])::l) j) a→wpList P ops Q rest a w):wpList P ops Q (o::rest) a w:=by
 refine oM hw hd hn hr (w1:=w) ?_ k
 unfold execOp
 have hb:(getObj b).run P w= .ok (.map (od ek ev m 0).toArray m.length) w:=MapKept.run_getObj_map hF.block
 have hc:∀em,(Instr.checkKey em 10000 kt (.agg (ek q).toArray)).run P w= .ok () w:=λem=>Mm 9998 hk.hu (hk.hf q q)
 have TD:=OE (P:=P) (w:=w) hz
 rcases DQ (P:=P) (w:=w) (ev:=ev) hk q m with ⟨e,h⟩ | ⟨v,i,e,h⟩
 ·simp[ho,hx,hy,Instr.lookup,run_underlying ht,hb,hc,h,e,TD]
 ·simp[ho,hx,hy,Instr.lookup,run_underlying ht,hb,hc,h,e]
theorem DR(p:α×β):∀(m:List (α×β)) (k:Nat),od ek ev (m++[p]) k=od ek ev m k++[{key:=.agg (ek p.1).toArray,val:=.agg (ev p.2).toArray,born:=k+m.length}]
 | [],k=>rfl
 | q::m,k=>by
  have ih:=DR p m (k+1)
  show _::od ek ev (m++[p]) (k+1)=_::(od ek ev m (k+1)++_)
  rw[ih]
  congr 3
  simp;omega
theorem Jh{o o':Obj}(h:Fit w0 (an (pts b o::L)) w):Fit w0 (an (pts b o'::L)) {w with heap:=w.heap.setIfInBounds b o' }:=by
 refine h.turn ?_ (λk hk hlt => ?_) rfl rfl rfl (by simp)
 ·simp[h.lt]
 ·show(w.heap.setIfInBounds b o')[k]? = _
  rw[Array.getElem?_setIfInBounds_ne (by omega)]
theorem Mp{x y v:Operand}(hw:Region.wanted o (yielded ops a.tmps)=true)(hd:o.dst=none)(hr:cy Df n (lk l j) a)(ho:o.op= .mapUpdate t x y v∨o.op= .insert t x y v)(hx:eJ (lk l j) x= .map (some b))(q:α)(r:β)(hy:eJ (lk l j) y= .agg (ek q).toArray)(hv:eJ (lk l j) v= .agg (ev r).toArray)
 (ht:P.underlying t=some (.map kt et)) (hk:FZ P kt ek) (hq:tP m q=none) (hF:Fit z (an (mapOf ek ev b m::L)) w)
 (k:∀w,Fit z (an (mapOf ek ev b (m++[(q,r)])::L)) w→wpList P ops Q rest a w):wpList P ops Q (o::rest) a w:=by
 have hb:(getObj b).run P w= .ok (.map (od ek ev m 0).toArray m.length) w:=MapKept.run_getObj_map hF.block
 have hc:∀em,(Instr.checkKey em 10000 kt (.agg (ek q).toArray)).run P w= .ok () w:=λem=>Mm 9998 hk.hu (hk.hf q q)
 have hrun:(Instr.mapUpdate t (.map (some b)) (.agg (ek q).toArray) (.agg (ev r).toArray)).run P w= .ok () {w with heap:=w.heap.setIfInBounds b (.map (od ek ev (m++[(q,r)]) 0).toArray (m++[(q,r)]).length)}:=by
  rcases DQ (P:=P) (w:=w) (ev:=ev) hk q m with ⟨e,h⟩ | ⟨v,i,e,h⟩
  ·rw[DR]
   have hs:∀o',(setObj b o').run P w= .ok () {w with heap:=w.heap.setIfInBounds b o' }:=λo'=>by simp[setObj,Sem.run,hF.block]
   simp[Instr.mapUpdate,run_underlying ht,hb,hc,h,hs]
  ·rw[e]at hq;cases hq
 refine sO hw ?_
 unfold Oper.wp
 have h2:(execOp (eJ (lk l j)) o).run P w= .ok .skip {w with heap:=w.heap.setIfInBounds b (.map (od ek ev (m++[(q,r)]) 0).toArray (m++[(q,r)]).length)}:=by
  unfold execOp
  rcases ho with ho | ho<;>simp[ho,hx,hy,hv,hrun]
 rw[hr.eval,h2,Oper.upon_skip,hd]
 exact k _ (Jh hF)
section
variable {ξ γ:Type}
noncomputable def rR(step:ξ→γ→Option γ)(s0:γ)(l:List ξ):Option γ:=
 open Classical in if h :∃r,∀l':List ξ,l'.Perm l→l'.foldlM (λs x=>step x s) s0=some r then some h.choose else none
theorem xZ{step:ξ→γ→Option γ}{s0 r:γ}{l l':List ξ}(h:rR step s0 l=some r)(p:l'.Perm l):l'.foldlM (λs x=>step x s) s0=some r:=by
 unfold rR at h
 split at h
 ·rename_i hx
  rw[←Option.some.inj h]
  exact hx.choose_spec l' p
 ·cases h
theorem F2{step:ξ→γ→Option γ}{s0 r:γ}{l:List ξ}(h:∀l':List ξ,l'.Perm l→l'.foldlM (λs x=>step x s) s0=some r):rR step s0 l=some r:=by
 unfold rR
 have hx :∃r,∀l':List ξ,l'.Perm l→l'.foldlM (λs x=>step x s) s0=some r:=⟨r,h⟩
 rw[dif_pos hx]
 have e:=hx.choose_spec l (List.Perm.refl l)
 rw[h l (List.Perm.refl l)]at e
 rw[←Option.some.inj e]
structure Seen(l:List ξ)(step:ξ→γ→Option γ)(s0:γ)(seen:Array Nat)(s:γ):Prop where
 nd:seen.toList.Nodup
 lt:∀i∈seen.toList,i<l.length
 fold:(seen.toList.filterMap (λi=>l[i]?)).foldlM (λs x=>step x s) s0=some s
theorem Seen.nil{l:List ξ}{step:ξ→γ→Option γ}{s0:γ}:Seen l step s0 #[] s0:=⟨by simp,by simp,rfl⟩
theorem DS(l:List ξ):(List.range l.length).filterMap (λi=>l[i]?)=l:=by
 apply List.ext_getElem?
 intro i
 have h:∀(l:List ξ),(List.range l.length).filterMap (λi=>l[i]?)=l:=by
  intro l
  induction l with
  | nil=>rfl
  | cons x l ih =>
   rw[List.length_cons,List.range_succ_eq_map,List.filterMap_cons]
   simp only[List.getElem?_cons_zero,List.filterMap_map]
   congr 1
 rw[h]
theorem q8{n:Nat}{l:List Nat}(h:l.Nodup)(hlt:∀i∈l,i<n)(uJ:∀i,i<n→i∈l):l.Perm (List.range n):=
 (List.perm_ext_iff_of_nodup h List.nodup_range).2 λi=>⟨λhi=>List.mem_range.2 (hlt i hi),λhi=>uJ i (List.mem_range.1 hi)⟩
theorem Seen.done{l:List ξ}{step:ξ→γ→Option γ}{s0 s r:γ}{seen:Array Nat}(h:Seen l step s0 seen s)(H:rR step s0 l=some r)(uJ:∀i,i<l.length→i∈seen.toList):s=r:=by
 have p:=(q8 h.nd h.lt uJ).filterMap (λi=>l[i]?)
 rw[DS]at p
 have e:=xZ H p
 rw[h.fold]at e
 exact Option.some.inj e
theorem Seen.push{l:List ξ}{step:ξ→γ→Option γ}{s0 s r:γ}{seen:Array Nat}(h:Seen l step s0 seen s)(H:rR step s0 l=some r){i:Nat}{x:ξ}(hx:l[i]? = some x)(hi:i∉seen.toList) :∃s',step x s=some s'∧Seen l step s0 (seen.push i) s':=by
 have BE:i<l.length:=(List.getElem?_eq_some_iff.1 hx).1
 have Uz:(seen.toList++[i]).Nodup:=by
  rw[List.nodup_append]
  exact⟨h.nd,by simp,λa ha b hb=>by simp at hb;subst hb;intro e;subst e;exact hi ha⟩
 have hlt:∀k∈seen.toList++[i],k<l.length:=λk hk=>by
  rcases List.mem_append.1 hk with hk | hk
  ·exact h.lt k hk
  ·simp at hk;omega
 let rest:=(List.range l.length).filter (λk => !(seen.toList++[i]).contains k)
 have p:((seen.toList++[i])++rest).Perm (List.range l.length):=by
  refine q8 ?_ ?_ ?_
  ·rw[List.nodup_append]
   refine⟨Uz,List.nodup_range.filter _,λa ha b hb => ?_⟩
   intro e;subst e
   have:=(List.mem_filter.1 hb).2
   simp at this ha
   rcases ha with ha | ha
   ·exact this.1 ha
   ·exact this.2 ha
  ·intro k hk
   rcases List.mem_append.1 hk with hk | hk
   ·exact hlt k hk
   ·exact List.mem_range.1 (List.mem_filter.1 hk).1
  ·intro k hk
   by_cases c:k∈seen.toList++[i]
   ·exact List.mem_append.2 (.inl c)
   ·refine List.mem_append.2 (.inr (List.mem_filter.2 ⟨List.mem_range.2 hk,?_⟩))
    simpa using c
 have p2:=p.filterMap (λi=>l[i]?)
 rw[DS]at p2
 have e:=xZ H p2
 rw[List.filterMap_append,List.filterMap_append,List.foldlM_append,List.foldlM_append,h.fold]at e
 have e1:List.filterMap (λi=>l[i]?) [i]=[x]:=by simp[hx]
 rw[e1]at e
 cases hs:step x s with
 | none=>simp[hs]at e
 | some s' =>
  refine⟨s',rfl,⟨by simpa using Uz,λk hk=>hlt k (by simpa using hk),?_⟩⟩
  rw[Array.toList_push,List.filterMap_append,List.foldlM_append,h.fold,e1]
  simp[hs]
theorem Seen.size{l:List ξ}{step:ξ→γ→Option γ}{s0 s:γ}{seen:Array Nat}(h:Seen l step s0 seen s):seen.size≤l.length:=by
 have p:(seen.toList++(List.range l.length).filter (λk => !seen.toList.contains k)).Perm (List.range l.length):=by
  refine q8 ?_ ?_ ?_
  ·rw[List.nodup_append]
   refine⟨h.nd,List.nodup_range.filter _,λa ha b hb => ?_⟩
   intro e;subst e
   have:=(List.mem_filter.1 hb).2
   simp at this ha
   exact this ha
  ·intro k hk
   rcases List.mem_append.1 hk with hk | hk
   ·exact h.lt k hk
   ·exact List.mem_range.1 (List.mem_filter.1 hk).1
  ·intro k hk
   by_cases c:k∈seen.toList
   ·exact List.mem_append.2 (.inl c)
   ·refine List.mem_append.2 (.inr (List.mem_filter.2 ⟨List.mem_range.2 hk,?_⟩))
    simpa using c
 have h1:=p.length_eq
 simp at h1
 omega
end
theorem HF{ξ γ:Type}{c:Code}(m:List ξ)(step:ξ→γ→Option γ)(s0:γ)(I:Array Nat→γ→Act→World→Prop)(h0:I #[] s0 a w)
 (round:∀seen s a w,Seen m step s0 seen s→I seen s a w→c.wp P (Exit.then (λa w =>∃i s',Seen m step s0 (seen.push i) s'∧I (seen.push i) s' a w) Q) a w):(Code.loop c).wp P Q a w:=by
 refine dP (λx:Array Nat×γ=>m.length-x.1.size) (λx a w=>Seen m step s0 x.1 x.2∧I x.1 x.2 a w) (#[],s0) ⟨Seen.nil,h0⟩ ?_
 rintro ⟨seen,s⟩ a w ⟨hs,hI⟩
 refine Code.wp_mono (λe a w q => ?_) (round seen s a w hs hI)
 cases e with
 | normal =>
  obtain⟨i,s',h1,h2⟩:=q
  refine⟨(seen.push i,s'),⟨h1,h2⟩,?_⟩
  have:=h1.size
  simp at this⊢
  omega
 | _=>exact q
def BX(it b n:Nat)(seen:Array Nat):bE:=pts it (.mapIter (some b) n seen n)
theorem Mq{x:Operand}(hw:Region.wanted o (yielded ops a.tmps)=true)(hd:o.dst=some d)(hn:Nat.blt d n=true)(hr:cy Df n (lk l j) a)(ho:o.op= .range t x)(hx:eJ (lk l j) x= .map (some b))(ht:P.underlying t=some (.map kt et))
 (hF:Fit z (an (mapOf ek ev b m::L)) w)
 (k:∀it w a,Fit z (an (BX it b m.length #[]::mapOf ek ev b m::L)) w→cy Df n (lk ((d,.pointer (some ⟨it,0,none⟩))::l) j) a→wpList P ops Q rest a w):wpList P ops Q (o::rest) a w:=by
 refine oM hw hd hn hr (w1:=w.alloc (.mapIter (some b) m.length #[] m.length)) (v:=.pointer (some ⟨w.heap.size,0,none⟩)) ?_ λa Fm=>k _ _ a (hF.alloc _) Fm
 have h:=run_range_map (P:=P) w t kt et b (od ek ev m 0).toArray m.length ht hF.block
 unfold execOp
 simp[ho,hx,h]
theorem yX(m:List (α×β))(k i:Nat):(od ek ev m k)[i]? = (m[i]?).map λp=>{key:=.agg (ek p.1).toArray,val:=.agg (ev p.2).toArray,born:=k+i}:=by
 unfold od
 rw[List.getElem?_map,List.getElem?_zipIdx]
 cases m[i]? <;> rfl
theorem F3{m:List (α×β)}{x:MapEntry}(h:x∈od ek ev m 0) :∃p,m[x.born]? = some p∧x={key:=.agg (ek p.1).toArray,val:=.agg (ev p.2).toArray,born:=x.born}:=by
 obtain⟨i,hi⟩:=List.getElem?_of_mem h
 rw[yX]at hi
 cases hm:m[i]? with
 | none=>simp[hm]at hi
 | some p =>
  simp[hm]at hi
  subst hi
  exact⟨p,hm,rfl⟩
theorem OH{x:Operand}{it n0:Nat}{seen:Array Nat}(hw:Region.wanted o (yielded ops a.tmps)=true)(hd:o.dst=some d)(hn:Nat.blt d n=true)(hr:cy Df n (lk l j) a)(ho:o.op= .next x false)(hx:eJ (lk l j) x= .pointer (some ⟨it,0,none⟩))(Ke:n0=m.length)
 (hF:Fit z (an (BX it b n0 seen::mapOf ek ev b m::L)) w)
 (k0:(∀i,i<m.length→i∈seen.toList)→∀a,cy Df n (lk ((d,.tuple #[.bool false])::l) j) a→wpList P ops Q rest a w)
 (k1:∀i x w a,m[i]? = some x→i∉seen.toList→Fit z (an (BX it b n0 (seen.push i)::mapOf ek ev b m::L)) w→cy Df n (lk ((d,.tuple #[.bool true,.agg (ek x.1).toArray,.agg (ev x.2).toArray])::l) j) a→wpList P ops Q rest a w):wpList P ops Q (o::rest) a w:=by
 subst Ke
 have X5:(getObj it).run P w= .ok (.mapIter (some b) m.length seen m.length) w:=by simp[getObj,Sem.run,hF.block]
 have UA:(getObj b).run P w= .ok (.map (od ek ev m 0).toArray m.length) w:=MapKept.run_getObj_map (hF.pick 1).block
 have hold:∀x∈(od ek ev m 0).toArray.toList,x.born<m.length:=λx hx=>by
  obtain⟨p,hp,_⟩:=F3 (by simpa using hx)
  exact(List.getElem?_eq_some_iff.1 hp).1
 have UB:=next_test_false seen (od ek ev m 0).toArray m.length m.length hold (Nat.le_refl _)
 have X6:∀(w:World) o',w.heap[it]? = some (.mapIter (some b) m.length seen m.length)→(setObj it o').run P w= .ok () {w with heap:=w.heap.setIfInBounds it o' }:=λw o' h=>by simp[setObj,Sem.run,h]
 have hmem:∀x∈(Array.filter (λe => !seen.contains e.born) (od ek ev m 0).toArray).toList,x.born<m.length:=λx hx=>hold x (by simp at hx⊢;exact hx.1)
 have hsrc:∀x∈(Array.filter (λe => !seen.contains e.born) (od ek ev m 0).toArray).toList,∃p,m[x.born]? = some p∧x.born∉seen.toList∧x={key:=.agg (ek p.1).toArray,val:=.agg (ev p.2).toArray,born:=x.born}:=λx hx=>by
  simp at hx
  obtain⟨p,h1,h2⟩:=F3 hx.1
  exact⟨p,h1,by simpa using hx.2,h2⟩
 have uJ:(Array.filter (λe => !seen.contains e.born) (od ek ev m 0).toArray).size=0→∀i,i<m.length→i∈seen.toList:=by
  intro h0 i hi
  have h1:Array.filter (λe => !seen.contains e.born) (od ek ev m 0).toArray=#[]:=Array.eq_empty_of_size_eq_zero h0
  rw[Array.filter_eq_empty_iff]at h1
  have h2:=h1 {key:=.agg (ek m[i].1).toArray,val:=.agg (ev m[i].2).toArray,born:=i} (by
   have:(od ek ev m 0)[i]? = some {key:=.agg (ek m[i].1).toArray,val:=.agg (ev m[i].2).toArray,born:=i}:=by rw[yX,List.getElem?_eq_getElem hi];simp
   simpa using List.mem_of_getElem? this)
  simpa using h2
 have hrun:∀ty,(∃i x w1,m[i]? = some x∧i∉seen.toList∧Fit z (an (BX it b m.length (seen.push i)::mapOf ek ev b m::L)) w1∧(Instr.next (.pointer (some ⟨it,0,none⟩)) false ty).run P w= .ok (.tuple #[.bool true,.agg (ek x.1).toArray,.agg (ev x.2).toArray]) w1)∨
  ((∀i,i<m.length→i∈seen.toList)∧(Instr.next (.pointer (some ⟨it,0,none⟩)) false ty).run P w= .ok (.tuple #[.bool false]) w):=by
  intro ty
  simp only[Instr.next,Sem.run_bind,X5,UA,Result.andThen_ok,UB,Bool.false_eq_true,if_false]
  generalize Array.filter (λe => !seen.contains e.born) (od ek ev m 0).toArray=K at hmem hsrc uJ⊢
  have e1:K.filter (λx=>decide (x.born<m.length))=K:=Array.filter_eq_self.2 (λx hx=>by simpa using hmem x (by simpa using hx))
  have e2:K.filter (λx=>decide (x.born≥m.length))=#[]:=by
   rw[Array.filter_eq_empty_iff]
   intro x hx
   have:=hmem x (by simpa using hx)
   simp
   omega
  simp only[e1,e2,Array.append_empty]
  by_cases h0:K.size=0
  ·right
   have h1:K=#[]:=Array.eq_empty_of_size_eq_zero h0
   refine⟨uJ h0,?_⟩
   subst h1
   simp[choose,Sem.run,Question.forced]
  ·left
   have hne:K.isEmpty=false:=by simp[Array.isEmpty,h0]
   simp only[hne,Bool.false_eq_true,if_false,Array.empty_append,Array.size_map]
   have hch :∃(q:Nat) (w1:World),q<K.size∧(w1=w∨w1=w.drew)∧(choose (Question.mapNext K.size)).run P w= .ok q w1:=by
    by_cases hf:K.size≤1
    ·exact⟨0,w,by omega,.inl rfl,by simp[choose,Sem.run,Question.forced,hf]⟩
    ·exact⟨_,w.drew,Nat.mod_lt _ (by omega),.inr rfl,by
      simp only[choose,Sem.run,Question.forced,decide_eq_true_eq,hf,if_false,Question.cut]
      rfl⟩
   obtain⟨q,w1,hq,hw1,hrun⟩:=hch
   obtain⟨p,hp1,X7,hp3⟩:=hsrc K[q] (by simp)
   have hF1:Fit z (an (BX it b m.length seen::mapOf ek ev b m::L)) w1:=by
    rcases hw1 with rfl | rfl
    ·exact hF
    ·exact hF.drew
   refine⟨K[q].born,p,_,hp1,X7,Jh (o':=.mapIter (some b) m.length (seen.push K[q].born) m.length) hF1,?_⟩
   have hkey:K[q].key= .agg (ek p.1).toArray:=by rw[hp3]
   have hval:K[q].val= .agg (ev p.2).toArray:=by rw[hp3]
   simp only[hrun,Array.getElem?_map,Array.getElem?_eq_getElem hq,Option.map_some,Sem.run_bind,X6 w1 _ hF1.block,Result.andThen_ok,hkey,hval]
   rfl
 refine sO hw ?_
 unfold Oper.wp
 rcases hrun o.type with ⟨i,y,w1,h1,h2,h3,h4⟩ | ⟨h1,h4⟩
 ·have h5:(execOp (eJ (lk l j)) o).run P w= .ok (.value (.tuple #[.bool true,.agg (ek y.1).toArray,.agg (ev y.2).toArray])) w1:=by
   unfold execOp
   simp[ho,hx,h4]
  rw[hr.eval,h5,Oper.upon_value,hd]
  exact k1 i y w1 _ h1 h2 h3 (hr.put d _ hn)
 ·have h5:(execOp (eJ (lk l j)) o).run P w= .ok (.value (.tuple #[.bool false])) w:=by
   unfold execOp
   simp[ho,hx,h4]
  rw[hr.eval,h5,Oper.upon_value,hd]
  exact k0 h1 _ (hr.put d _ hn)
theorem Mr{x:Operand}{it n0 i:Nat}{seen:Array Nat}{p:α×β}(hw:Region.wanted o (yielded ops a.tmps)=true)(hd:o.dst=some d)(hn:Nat.blt d n=true)(hr:cy Df n (lk l j) a)(ho:o.op= .entry x)(hx:eJ (lk l j) x= .pointer (some ⟨it,0,none⟩))(Ke:n0=m.length)
 (hF:Fit z (an (BX it b n0 (seen.push i)::mapOf ek ev b m::L)) w) (hp:m[i]? = some p)
 (k:∀a,cy Df n (lk ((d,.tuple #[.agg (ek p.1).toArray,.agg (ev p.2).toArray])::l) j) a→wpList P ops Q rest a w):wpList P ops Q (o::rest) a w:=by
 subst Ke
 have X5:(getObj it).run P w= .ok (.mapIter (some b) m.length (seen.push i) m.length) w:=by simp[getObj,Sem.run,hF.block]
 have UA:(getObj b).run P w= .ok (.map (od ek ev m 0).toArray m.length) w:=MapKept.run_getObj_map (hF.pick 1).block
 have hf:(od ek ev m 0).toArray.find? (·.born==i)=some {key:=.agg (ek p.1).toArray,val:=.agg (ev p.2).toArray,born:=i}:=by
  rw[←Array.find?_toList,List.toList_toArray]
  have hmem:{key:=.agg (ek p.1).toArray,val:=.agg (ev p.2).toArray,born:=i}∈od ek ev m 0:=List.mem_of_getElem? (i:=i) (by rw[yX,hp];simp)
  have Uz:((od ek ev m 0).map (·.born)).Nodup:=by
   have e:(od ek ev m 0).map (·.born)=List.range m.length:=by
    apply List.ext_getElem?
    intro k
    rw[List.getElem?_map,yX]
    by_cases c:k<m.length
    ·simp[List.getElem?_eq_getElem c,List.getElem?_range c]
    ·rw[List.getElem?_eq_none (by omega),List.getElem?_eq_none (by simpa using c)];rfl
   rw[e];exact List.nodup_range
  exact find_born _ _ Uz hmem
 refine oM hw hd hn hr (w1:=w) ?_ k
 unfold execOp
 have h:(Instr.entry (.pointer (some ⟨it,0,none⟩))).run P w= .ok (.tuple #[.agg (ek p.1).toArray,.agg (ev p.2).toArray]) w:=by
  simp only[Instr.entry,Sem.run_bind,X5,UA,Result.andThen_ok,Array.back?_push,bne_self_eq_false,Bool.false_eq_true,if_false,hf]
  rfl
 simp[ho,hx,h]
end
end GX
end
section
namespace GX
open Go Go.RowKit SL Go.MuLone Go.Conc.Locks
section
variable {P:Program}{ops:Array Oper}{Q:Exit→Act→World→Prop}{a:Act}{w w0 w1 z:World}{rest:List Oper}{o:Oper}{n d t:Nat}{v r u:Value}{l:List (Nat×Value)}{j e:Nat→Value}{L:List bE}{Df:List Deferred}{f:FuncId}{args:Array Value}
theorem Ms{q:Deferred}(hw:Region.wanted o (yielded ops a.tmps)=true)(hd:o.dst=none)(hr:cy Df n (lk l j) a)(hrun:(execOp (eJ (lk l j)) o).run P w= .ok (.defer q) w)
 (k:∀a,cy (q::Df) n (lk l j) a→wpList P ops Q rest a w):wpList P ops Q (o::rest) a w:=by
 refine sO hw ?_
 unfold Oper.wp
 rw[hr.eval,hrun,Oper.upon_defer,hd]
 exact k _ ⟨hr.size,hr.get,by show _::a.defers=_;rw[hr.defers]⟩
theorem Rg{fn:Func}{c:Code}{R:Ending→World→Prop}(hf:P.funcs[f]? = some fn)(hb:fn.body=some c)(n:Nat)(hn:fn.ntmps=n)(hs:Nat.ble args.size n=true)
 (l:List (Nat×Value)) (hl:allEq (λt=>args.getD t undef) l) (k:∀j a,kP n (lk l j) a→c.wp P (bodyPostD P fn R) a w):Calls P f args w R:=by
 refine calls_of_wp_defers hf hb (k (λt=>args.getD t undef) _ ?_)
 rw[rO hl]
 refine⟨?_,λt=>BK args _ t,rfl⟩
 have:=Nat.le_of_ble_eq_true hs
 simp[hn]
 omega
end
end GX
end
section
namespace GX
open Go Go.RowKit SL
section
variable {P:Program}{w w0 w1 z:World}{a:Act}{o:Oper}{n d:Nat}{l:List (Nat×Value)}{j:Nat→Value}{L:List bE}{f:FuncId}{args:Array Value}{Q:Exit→Act→List Frame→World→Prop}{cs cs':List Frame}{Df:List Deferred}
theorem Mt{fn:Func}{c:Code}{u:FrameMode}{R:Ending→FrameMode→World→Prop}(hf:P.funcs[f]? = some fn)(hb:fn.body=some c)(n:Nat)(hn:fn.ntmps=n)(hs:Nat.ble args.size n=true)
 (l:List (Nat×Value)) (hl:allEq (λt=>args.getD t undef) l) (k:∀(c0:Frame) (cs:List Frame) j a,c0.mode=u→kP n (lk l j) a→c.wpS P (bodyPostS P fn c0 cs R) a (c0::cs) w):CallsD P f args u w R:=by
 refine callsD_of_wpS hf hb λc0 cs hu=>k c0 cs (λt=>args.getD t undef) _ hu ?_
 rw[rO hl]
 refine⟨?_,λt=>BK args _ t,rfl⟩
 have:=Nat.le_of_ble_eq_true hs
 simp[hn]
 omega
theorem F4(hg:o.guard=none)(y:Nat→Option Bool):Region.wanted o y=true:=by simp[Region.wanted,hg]
theorem Qn{Rc:Nat}{y:Code}{v:Value}(hr:cy Df n (lk l j) a)(hv:recoverD cs=some (v,cs')∨recoverD cs=none∧v= .nilIface∧cs'=cs)(k:∀a,cy Df n (lk ((d,v)::l) j) a→y.wpS P Q a cs' w)
 (hg:o.guard=none) (hd:o.dst=some d) (hn:Nat.blt d n=true) (hrun:(execOp (eJ (lk l j)) o).run P w= .ok .recover w):(Code.seq (.region Rc #[o] false) y).wpS P Q a cs w:=by
 refine wpS_seq (wpS_region ?_)
 have e:(List.range (#[o]:Array Oper).size)=[0]:=rfl
 rw[e]
 simp only[wpOpsS,List.getElem?_toArray,List.getElem?_cons_zero]
 rw[F4 hg,fQ rfl,hr.eval,hrun]
 simp only
 rcases hv with h | ⟨h,rfl,rfl⟩
 ·rw[h]
  simp only
  rw[hd]
  exact k _ (hr.put d v hn)
 ·rw[h]
  simp only
  rw[hd]
  exact k _ (hr.put d _ hn)
end
set_option maxRecDepth 100000
set_option maxHeartbeats 1000000
theorem OI{z w:World}{L:List bE}{b:Nat}{x y k x0 y0 k0:Int}(h:Fit z (an (pts b (.cells #[vI x0,vI y0,vI k0] 95)::L)) w) :
 CallsD Tryz.prog 113 #[.pointer (some ⟨b,0,none⟩)] (.panicking [{v:=.iface 194 (.agg #[vI x,vI y,vI k]),recovered:=false}]) w λe u' w'=>e= .returned (.tuple #[])∧u'= .panicking [{v:=.iface 194 (.agg #[vI x,vI y,vI k]),recovered:=true}]∧Fit z (an (pts b (.cells #[vI x,vI y,vI k] 95)::L)) w':=by
 refine Mt Tryz.func113 rfl 12 rfl rfl [(0,pA b 0)] ⟨rfl,gE⟩ ?_
 intro c0 cs j a hm hr
 refine Qn (v:=.iface 194 (.agg #[vI x,vI y,vI k])) (cs':={c0 with mode:=.panicking [{v:=.iface 194 (.agg #[vI x,vI y,vI k]),recovered:=true}]}::cs) hr (.inl (by simp[recoverD,hm])) ?_ rfl rfl rfl (by kernel_rfl)
 clear hr a;intro a hr
 refine wpS_of_wp ?_
 refine wp_block ?_
 refine sr ?_
 refine o1 hr (vB false) λa hr => ?_
 refine ln ?_
 refine ik hr (b:=false) rfl ?_
 refine sr ?_
 refine oo [7,8,9] [.tuple #[.agg #[vI x,vI y,vI k],vB true],vB true,.agg #[vI x,vI y,vI k]] hr λa hr => ?_
 refine ln ?_
 refine gb hr (b:=true) rfl ?_
 refine sr ?_
 refine Rd (wn rfl) hr h nb (#[vI 0,vI 0,vI 0]) 194 λb2 w a h hr => ?_
 refine Re (wn rfl) hr h 0 ([vI x,vI y,vI k]) (pts b2 (.cells #[vI x,vI y,vI k] 194)) λw h => ?_
 refine ln ?_
 refine wp_region_lit ?_
 refine o1 hr (pA b2 0) λa hr => ?_
 refine tK (wn rfl) hr (.agg #[vI x,vI y,vI k]) (cs:=[vI x,vI y,vI k]) (h.held 0 rfl) λa hr => ?_
 replace h:=h.m1
 refine Re (wn rfl) hr h 0 ([vI x,vI y,vI k]) (pts b (.cells #[vI x,vI y,vI k] 95)) λw h => ?_
 refine wpList_nil ?_
 refine BH ?_
 exact⟨hr.defers,_,rfl,_,results_none rfl _ _ _,rfl,rfl,h.se 2 [0]⟩
theorem OJ{w:World}{b:Nat} :
 CallsD Tryz.prog 113 #[.pointer (some ⟨b,0,none⟩)] .returning w λe u' w'=>e= .returned (.tuple #[])∧u'= .returning∧w'=w:=by
 refine Mt Tryz.func113 rfl 12 rfl rfl [(0,pA b 0)] ⟨rfl,gE⟩ ?_
 intro c0 cs j a hm hr
 refine Qn (v:=.nilIface) (cs':=c0::cs) hr (.inr ⟨by simp[recoverD,hm],rfl,rfl⟩) ?_ rfl rfl rfl (by kernel_rfl)
 clear hr a;intro a hr
 refine wpS_of_wp ?_
 refine wp_block ?_
 refine sr ?_
 refine o1 hr (vB true) λa hr => ?_
 refine ln ?_
 refine gb hr (b:=true) rfl ?_
 refine wp_region_lit ?_
 refine o1 hr (.nilIface) λa hr => ?_
 refine wpList_nil ?_
 refine BH ?_
 refine⟨hr.defers,c0.mode,rfl,_,results_none rfl _ _ _,rfl,hm,rfl⟩
section
variable {P:Program}{w z:World}{a:Act}{n:Nat}{e:Nat→Value}{Df:List Deferred}{L:List bE}
theorem UC{fn:Func}{t T b off:Nat}{cs:List Value}(hres:fn.results=#[.cell t T])(hr:cy Df n e a)(hv:e t= .pointer (some ⟨b,off,none⟩))(hu:sv (P.underlying T)=true)
 (hs:(P.info? T).map (·.size)=some cs.length) (hc:oS w b off cs):(results fn a.tmps).run P w= .ok (.agg cs.toArray) w:=by
 have hl:=run_loadCells_list (P:=P) w ⟨b,off,none⟩ cs (s9 hc)
 cases hi:P.info? T with
 | none=>simp[hi]at hs
 | some q =>
  simp[hi]at hs
  have hg:=hr.get t
  rw[hv,Array.getD_eq_getD_getElem?]at hg
  simp[results,hres,hg,asAddr,loadVar,rD hu,sizeOf,typeInfo,hi,hs,hl]
abbrev F5(b:Nat):Deferred:={target:=.fn (.func 113) #[.pointer (some ⟨b,0,none⟩)],args:=#[]}
theorem Ji{b:Nat}{w:World}:(invoke (.fn (.func 113) #[.pointer (some ⟨b,0,none⟩)]) #[]).run Tryz.prog w= .ok (.enter 113 #[.pointer (some ⟨b,0,none⟩)]) w:=by kernel_rfl
theorem vi{fn:Func}{R:Ending→World→Prop}{b t:Nat}{x y k:Int}(hr:cy [F5 b] n e a)(hres:fn.results=#[.cell t 95])(hv:e t= .pointer (some ⟨b,0,none⟩))(h:Fit z (an (pts b (.cells #[vI x,vI y,vI k] 95)::L)) w)
 (K:R (.returned (.agg #[vI x,vI y,vI k])) w):bodyPostD Tryz.prog fn R .ret a w:=by
 show Leaves Tryz.prog fn a.tmps R a.defers .returning w
 rw[hr.defers]
 refine leaves_cons (by simp) Ji ?_
 refine OJ.mono ?_
 rintro e u' w' ⟨rfl,rfl,rfl⟩
 exact⟨_,UC hres hr hv (by kernel_rfl) (by kernel_rfl) (h.held 0 (xs:=[vI x,vI y,vI k]) rfl),K⟩
theorem BZ{fn:Func}{R:Ending→World→Prop}{b t:Nat}{x y k x0 y0 k0:Int}(hr:cy [F5 b] n e a)(hres:fn.results=#[.cell t 95])(hv:e t= .pointer (some ⟨b,0,none⟩))(h:Fit z (an (pts b (.cells #[vI x0,vI y0,vI k0] 95)::L)) w)
 (K:∀w,Fit z (an (pts b (.cells #[vI x,vI y,vI k] 95)::L)) w→R (.returned (.agg #[vI x,vI y,vI k])) w):bodyPostD Tryz.prog fn R (.panic [{v:=.iface 194 (.agg #[vI x,vI y,vI k]),recovered:=false}]) a w:=by
 show Leaves Tryz.prog fn a.tmps R a.defers (.panicking [{v:=.iface 194 (.agg #[vI x,vI y,vI k]),recovered:=false}]) w
 rw[hr.defers]
 refine leaves_cons (by simp) Ji ?_
 refine(OI h).mono ?_
 rintro e u' w' ⟨rfl,rfl,h⟩
 exact⟨_,UC hres hr hv (by kernel_rfl) (by kernel_rfl) (h.held 0 (xs:=[vI x,vI y,vI k]) rfl),K _ h⟩
end
end GX
end
section
namespace GX
open Go Go.RowKit SL
set_option maxRecDepth 100000
def dn(o:Oper):Nat:=o.dst.getD 0
def yG(o:Oper)(n:Nat):Bool:=match o.dst with | some d=>o.guard.isNone&&Nat.blt d n | none=>false
def Te(o:Oper)(n:Nat):Bool:=match o.dst with | some d=>Nat.blt d n | none=>false
theorem Jj{o:Oper}{n:Nat}(h:Te o n=true):o.dst=some (dn o)∧Nat.blt (dn o) n=true:=by
 unfold Te at h;unfold dn
 cases hd:o.dst with
 | none=>rw[hd]at h;cases h
 | some d=>rw[hd]at h;exact⟨rfl,h⟩
theorem iO{o:Oper}{n:Nat}(h:yG o n=true):(o.dst=some (dn o)∧Nat.blt (dn o) n=true)∧o.guard=none:=by
 unfold yG at h;unfold dn
 cases hd:o.dst with
 | none=>rw[hd]at h;cases h
 | some d =>
  rw[hd]at h;simp only[Bool.and_eq_true]at h
  refine⟨⟨rfl,h.2⟩,?_⟩
  cases hg:o.guard with
  | none=>rfl
  | some g=>rw[hg]at h;simp at h
def OL:Nat→List Value→List (Nat×Value)
 | _,[]=>[]
 | k,v::vs=>(k,v)::OL (k+1) vs
theorem Jk(f:Nat→Value):∀(vs:List Value) (k:Nat),(∀i,i<vs.length→f (k+i)=vs.getD i undef)→allEq f (OL k vs)
 | [],_,_=>trivial
 | v::vs,k,h=>⟨by have:=h 0 (by simp);simpa using this,Jk f vs (k+1) λi hi=>by
  have:=h (i+1) (by simpa using hi)
  rw[show k+(i+1)=k+1+i by omega]at this
  simpa using this⟩
section
variable {P:Program}{ops:Array Oper}{Q:Exit→Act→World→Prop}{a:Act}{w w0 w1:World}{rest:List Oper}{o:Oper}{n d t T:Nat}{v u:Value}{l:List (Nat×Value)}{j e:Nat→Value}{L:List bE}{Df:List Deferred}
theorem qe{f:FuncId}{fn:Func}{c:Code}{args:Array Value}{R:Ending→World→Prop}(hf:P.funcs[f]? = some fn)(n:Nat)(hb:fn.body=some c)
 (k:∀j a,kP n (lk (OL 0 args.toList) j) a→c.wp P (bodyPost P fn R) a w) (hn:fn.ntmps=n:=by rfl) (hs:Nat.ble args.size n=true:=by rfl):Calls P f args w R:=
 enter hf hb n hn hs _ (Jk _ _ 0 λi hi=>by simp[Array.getD_eq_getD_getElem?,List.getD_eq_getElem?_getD]) k
theorem qo(hr:cy Df n (lk l j) a)(v:Value)(k:∀a,cy Df n (lk ((dn o,v)::l) j) a→wpList P ops Q rest a w)(ho:yG o n=true:=by rfl)(hrun:(execOp (eJ (lk l j)) o).run P w= .ok (.value v) w:=by kernel_rfl):wpList P ops Q (o::rest) a w:=
 u9 (wn (iO ho).2) (iO ho).1.1 (iO ho).1.2 hr hrun k
theorem qp(hr:cy Df n (lk l j) a)(v:Value)(hrun:(execOp (eJ (lk l j)) o).run P w= .ok (.value v) w)(k:∀a,cy Df n (lk ((dn o,v)::l) j) a→wpList P ops Q rest a w)(ho:yG o n=true:=by rfl):wpList P ops Q (o::rest) a w:=
 u9 (wn (iO ho).2) (iO ho).1.1 (iO ho).1.2 hr hrun k
theorem qpg(hw:Region.wanted o (yielded ops a.tmps)=true)(hr:cy Df n (lk l j) a)(v:Value)(hrun:(execOp (eJ (lk l j)) o).run P w= .ok (.value v) w)(k:∀a,cy Df n (lk ((dn o,v)::l) j) a→wpList P ops Q rest a w)(ho:Te o n=true:=by rfl):wpList P ops Q (o::rest) a w:=
 u9 hw (Jj ho).1 (Jj ho).2 hr hrun k
theorem qT{b:Bool}{c x y:Operand}(hb:b=true)(hr:cy Df n (lk l j) a)(v:Value)(k:∀a,cy Df n (lk ((dn o,v)::l) j) a→wpList P ops Q rest a w)(ho:yG o n=true:=by rfl)(h1:o.op= .pick c x y:=by rfl)(h2:eJ (lk l j) c= .bool b:=by kernel_rfl)(h3:eJ (lk l j) x=v:=by kernel_rfl):wpList P ops Q (o::rest) a w:=
 qp hr v (Kb h1 h2 hb h3) k ho
theorem qF{b:Bool}{c x y:Operand}(hb:b=false)(hr:cy Df n (lk l j) a)(v:Value)(k:∀a,cy Df n (lk ((dn o,v)::l) j) a→wpList P ops Q rest a w)(ho:yG o n=true:=by rfl)(h1:o.op= .pick c x y:=by rfl)(h2:eJ (lk l j) c= .bool b:=by kernel_rfl)(h3:eJ (lk l j) y=v:=by kernel_rfl):wpList P ops Q (o::rest) a w:=
 qp hr v (Kc h1 h2 hb h3) k ho
theorem getD_some{cs:Array Value}{i:Nat}(h:Nat.blt i cs.size=true):cs[i]? = some (cs.getD i undef):=by
 have h':i<cs.size:=Nat.le_of_ble_eq_true h
 simp[Array.getD_eq_getD_getElem?,h']
theorem qL{b:Nat}{cs:Array Value}{T':TypeId}{q:Nat×Nat}{x:Operand}(hr:cy Df n (lk l j) a)(hF:Fit w0 (an (pts b (.cells cs T' q)::L)) w)(i:Nat)(k:∀a,cy Df n (lk ((dn o,cs.getD i undef)::l) j) a→wpList P ops Q rest a w)
 (h1:yG o n=true:=by rfl) (hi:Nat.blt i cs.size=true:=by rfl) (ho:o.op= .load T x:=by rfl) (hx:eJ (lk l j) x= .pointer (some ⟨b,i,none⟩):=by kernel_rfl) (hu:vb (P.underlying T)=true:=by kernel_rfl):wpList P ops Q (o::rest) a w:=
 qp hr _ (rl ho hx hu (hF.cell i (getD_some hi))) k h1
theorem qLg{b:Nat}{cs:Array Value}{T':TypeId}{q:Nat×Nat}{x:Operand}(hw:Region.wanted o (yielded ops a.tmps)=true)(hr:cy Df n (lk l j) a)(hF:Fit w0 (an (pts b (.cells cs T' q)::L)) w)(i:Nat)(k:∀a,cy Df n (lk ((dn o,cs.getD i undef)::l) j) a→wpList P ops Q rest a w)
 (h1:Te o n=true:=by rfl) (hi:Nat.blt i cs.size=true:=by rfl) (ho:o.op= .load T x:=by rfl) (hx:eJ (lk l j) x= .pointer (some ⟨b,i,none⟩):=by kernel_rfl) (hu:vb (P.underlying T)=true:=by kernel_rfl):wpList P ops Q (o::rest) a w:=
 qpg hw hr _ (rl ho hx hu (hF.cell i (getD_some hi))) k h1
theorem F6{cs:Array Value}:(cs.toList.drop 0).take cs.toList.length=cs.toList:=by rw[List.drop_zero];exact List.take_length
theorem qM{b:Nat}{cs:Array Value}{T':TypeId}{q:Nat×Nat}{x:Operand}(hr:cy Df n (lk l j) a)(hF:Fit w0 (an (pts b (.cells cs T' q)::L)) w)(k:∀a,cy Df n (lk ((dn o,.agg cs)::l) j) a→wpList P ops Q rest a w)
 (h1:yG o n=true:=by rfl) (ho:o.op= .load T x:=by rfl) (hx:eJ (lk l j) x= .pointer (some ⟨b,0,none⟩):=by kernel_rfl) (hu:sv (P.underlying T)=true:=by kernel_rfl) (hs:(P.info? T).map (·.size)=some cs.size:=by kernel_rfl):wpList P ops Q (o::rest) a w:=
 qp hr _ (by have:=Xt (P:=P) (o:=o) (e:=lk l j) ho hx hu (by rw[Array.length_toList];exact hs) (hF.held 0 F6);simpa using this) k h1
theorem qN(hr:cy Df n (lk l j) a)(hF:Fit w0 (an L) w)(cs:Array Value)(T:TypeId)
 (k:∀b w1 a,Fit w0 (an (pts b (.cells cs T)::L)) w1→cy Df n (lk ((dn o,pA b 0)::l) j) a→wpList P ops Q rest a w1) (h1:yG o n=true:=by rfl) (hrun:(execOp (eJ (lk l j)) o).run P w= .ok (.value (pA w.heap.size 0)) (w.alloc (.cells cs T)):=by kernel_rfl):wpList P ops Q (o::rest) a w:=
 Hy (vf:=λb=>pA b 0) (wn (iO h1).2) (iO h1).1.1 (iO h1).1.2 hr hF hrun k
theorem qV(hr:cy Df n (lk l j) a)(hF:Fit w0 (an L) w)(cs:Array Value)(T:TypeId)
 (k:∀b w1 a,Fit w0 (an (pts b (.cells cs T)::L)) w1→cy Df n (lk ((dn o,.slice (some ⟨b,0,none⟩) 1 1)::l) j) a→wpList P ops Q rest a w1) (h1:yG o n=true:=by rfl) (hrun:(execOp (eJ (lk l j)) o).run P w= .ok (.value (.slice (some ⟨w.heap.size,0,none⟩) 1 1)) (w.alloc (.cells cs T)):=by kernel_rfl):wpList P ops Q (o::rest) a w:=
 Hy (vf:=λb=>.slice (some ⟨b,0,none⟩) 1 1) (wn (iO h1).2) (iO h1).1.1 (iO h1).1.2 hr hF hrun k
theorem qS{x y:Operand}{b:Nat}{cs:Array Value}{T':TypeId}(hr:cy Df n (lk l j) a)(hF:Fit w0 (an (pts b (.cells cs T')::L)) w)(i:Nat)(A:bE)
 (k:∀w1,Fit w0 (an (A::L)) w1→wpList P ops Q rest a w1) (hg:o.guard=none:=by rfl) (hd:o.dst=none:=by rfl) (ho:o.op= .store T x y:=by rfl) (hx:eJ (lk l j) x= .pointer (some ⟨b,i,none⟩):=by kernel_rfl)
 (hv:(eJ (lk l j) y).cells=#[eJ (lk l j) y]:=by kernel_rfl) (h1:(eJ (lk l j) y).oneCell'=true:=by kernel_rfl) (hs:(P.info? T).map (·.size)=some 1:=by kernel_rfl) (hc:(cs[i]?).isSome=true:=by kernel_rfl) (hA:pts b (.cells (cs.setIfInBounds i (eJ (lk l j) y)) T')=A:=by kernel_rfl):wpList P ops Q (o::rest) a w:=
 st1 (wn hg) hr hF i _ A k hd ho hx rfl hv h1 hs hc hA
theorem qA{x y:Operand}{b:Nat}{cs cs':Array Value}{T':TypeId}(hr:cy Df n (lk l j) a)(hF:Fit w0 (an (pts b (.cells cs T')::L)) w)(A:bE)
 (k:∀w1,Fit w0 (an (A::L)) w1→wpList P ops Q rest a w1) (hA:pts b (.cells cs' T')=A:=by rfl) (hg:o.guard=none:=by rfl) (hd:o.dst=none:=by rfl) (ho:o.op= .store T x y:=by rfl) (hx:eJ (lk l j) x= .pointer (some ⟨b,0,none⟩):=by kernel_rfl) (hy:eJ (lk l j) y= .agg cs':=by kernel_rfl)
 (h1:cs'.toList.all (·.oneCell')=true:=by rfl) (h2:cs'.size=cs.size:=by rfl) (hs:(P.info? T).map (·.size)=some cs'.size:=by kernel_rfl):wpList P ops Q (o::rest) a w:=by
 refine Re (wn hg) hr hF 0 cs'.toList A k hd ho hx (by simpa using hy) h1 (by simp[h2]) (by simpa using hs) ?_
 subst hA
 have:cs.toList.drop (0+cs'.toList.length)=[]:=by simp[h2]
 rw[this];simp
theorem qi{x y:Operand}{i:Int}{α:Type}{E:TypeId}{sz m cc:Nat}{enc:α→List Value}{xs:List α}{ca:Option Addr}(hr:cy Df n (lk l j) a)(hF:Fit w0 (an (rowOf E sz enc (.slice ca m cc) xs::L)) w)(hi:bT i xs.length)
 (k:∀a,cy Df n (lk ((dn o,pA (bg ca) (i.toNat*sz))::l) j) a→wpList P ops Q rest a w) (h1:yG o n=true:=by rfl) (ho:o.op= .indexAddr t x y:=by rfl) (hx:eJ (lk l j) x= .slice ca m cc:=by kernel_rfl) (hy:eJ (lk l j) y= .int .i64 i:=by kernel_rfl)
 (ht:P.underlying t=some (.slice E):=by kernel_rfl) (hs:(P.info? E).map (·.size)=some sz:=by kernel_rfl):wpList P ops Q (o::rest) a w:=qp hr _ (kW ho hx hy ht hs hF hi) k h1
theorem qj{x y:Operand}{i:Int}{α:Type}[Inhabited α]{sz:Nat}{enc:α→List Value}{xs:List α}{va:Option Addr}{L:List bE}(E:TypeId)(cc:Nat)(hr:cy Df n (lk l j) a)(hF:cu L sz enc va xs)(hi:bT i xs.length)
 (k:∀a,cy Df n (lk ((dn o,pA (bg va) (jY va+i.toNat*sz))::l) j) a→wpList P ops Q rest a w) (h1:yG o n=true:=by rfl) (ho:o.op= .indexAddr t x y:=by rfl) (hx:eJ (lk l j) x= .slice va xs.length cc:=by kernel_rfl) (hy:eJ (lk l j) y= .int .i64 i:=by kernel_rfl)
 (ht:P.underlying t=some (.slice E):=by kernel_rfl) (hs:(P.info? E).map (·.size)=some sz:=by kernel_rfl):wpList P ops Q (o::rest) a w:=qp hr _ (xW ho hx hy rfl ht hs hF hi) k h1
section
variable {fn:Func}{R:Ending→World→Prop}
theorem qC{t T b:Nat}{cs:Array Value}{T':TypeId}{q:Nat×Nat}(hr:kP n e a)(hF:Fit w0 (an (pts b (.cells cs T' q)::L)) w)(h:R (.returned (.agg cs)) w)(hres:fn.results=#[.cell t T]:=by rfl)(hv:e t= .pointer (some ⟨b,0,none⟩):=by kernel_rfl)(hu:sv (P.underlying T)=true:=by kernel_rfl)
 (hs:(P.info? T).map (·.size)=some cs.size:=by kernel_rfl):bodyPost P fn R .ret a w:=
 LX (cs:=cs.toList) hres hr hv hu (by simpa using hs) (hF.held 0 F6) (by simpa using h)
theorem qn(hr:kP n e a)(h:R (.returned (.tuple #[])) w)(hres:fn.results=#[]:=by rfl):bodyPost P fn R .normal a w:=nH hres hr h
end
end
theorem nT{b:Bool}(h:b=true):(!b)=false:=by rw[h];rfl
theorem nF{b:Bool}(h:¬b=true):(!b)=true:=by cases b<;>first | rfl | exact absurd rfl h
theorem dT{p:Prop}[Decidable p](h:p):decide p=true:=decide_eq_true h
theorem dF{p:Prop}[Decidable p](h:¬p):decide p=false:=decide_eq_false h
theorem bN{a b:Int}(h:¬a=b):(a==b)=false:=beq_eq_false_iff_ne.mpr h
section
variable {G:Prop}
theorem qh{A:Prop}(x:A)(k:A→G):G:=k x
theorem qg{γ:Type}{p:Prop}[Decidable p]{x:Option γ}{r:γ}(h:(if p then x else none)=some r)(k:p→x=some r→G):G:=k (gd h).1 (gd h).2
theorem qI{γ:Type}{p:Prop}[Decidable p]{x y:Option γ}{r:γ}(h:(if p then x else y)=some r)(k1:p→x=some r→G)(k2:¬p→y=some r→G):G:=by
 by_cases c:p
 ·exact k1 c (ifT c h)
 ·exact k2 c (ifF c h)
theorem Rh{γ:Type}{o:Option (Unit)}{f:Option γ}{r:γ}(h:Hz o f=some r)(k:o=some ()→f=some r→G):G:=by
 obtain⟨e,h⟩:=bd0 h;exact k e h
theorem qd0{γ:Type}{o:Option (Unit)}{f:Option γ}{r:γ}(h:Hz o f=some r)(k:∀o',o=some o'→Xz o' f r→G):G:=by
 obtain⟨_,e,h⟩:=kd0 h;exact k _ e h
theorem fO{cR:Type}{γ:Type}{o:Option (cR)}{f:cR→Option γ}{r:γ}(h:eL o f=some r)(k:∀x0,o=some x0→f x0=some r→G):G:=by
 obtain⟨x0,e,h⟩:=bd1 h;exact k _ e h
theorem El{cR:Type}{γ:Type}{o:Option (cR)}{f:cR→Option γ}{r:γ}(h:eL o f=some r)(k:∀o',o=some o'→SS o' f r→G):G:=by
 obtain⟨_,e,h⟩:=kd1 h;exact k _ e h
theorem ta{cR dI:Type}{γ:Type}{o:Option (cR×dI)}{f:cR→dI→Option γ}{r:γ}(h:pL o f=some r)(k:∀x0 x1,o=some (x0,x1)→f x0 x1=some r→G):G:=by
 obtain⟨x0,x1,e,h⟩:=bd2 h;exact k _ _ e h
theorem qd2{cR dI:Type}{γ:Type}{o:Option (cR×dI)}{f:cR→dI→Option γ}{r:γ}(h:pL o f=some r)(k:∀o',o=some o'→SU o' f r→G):G:=by
 obtain⟨_,e,h⟩:=kd2 h;exact k _ e h
theorem ql{cR dI eK:Type}{γ:Type}{o:Option (cR×dI×eK)}{f:cR→dI→eK→Option γ}{r:γ}(h:nC o f=some r)(k:∀x0 x1 x2,o=some (x0,x1,x2)→f x0 x1 x2=some r→G):G:=by
 obtain⟨x0,x1,x2,e,h⟩:=bd3 h;exact k _ _ _ e h
theorem qd3{cR dI eK:Type}{γ:Type}{o:Option (cR×dI×eK)}{f:cR→dI→eK→Option γ}{r:γ}(h:nC o f=some r)(k:∀o',o=some o'→SV o' f r→G):G:=by
 obtain⟨_,e,h⟩:=kd3 h;exact k _ e h
theorem HG{cR dI eK fN:Type}{γ:Type}{o:Option (cR×dI×eK×fN)}{f:cR→dI→eK→fN→Option γ}{r:γ}(h:C2 o f=some r)(k:∀x0 x1 x2 x3,o=some (x0,x1,x2,x3)→f x0 x1 x2 x3=some r→G):G:=by
 obtain⟨x0,x1,x2,x3,e,h⟩:=bd4 h;exact k _ _ _ _ e h
theorem qb5{cR dI eK fN gI:Type}{γ:Type}{o:Option (cR×dI×eK×fN×gI)}{f:cR→dI→eK→fN→gI→Option γ}{r:γ}(h:TV o f=some r)(k:∀x0 x1 x2 x3 x4,o=some (x0,x1,x2,x3,x4)→f x0 x1 x2 x3 x4=some r→G):G:=by
 obtain⟨x0,x1,x2,x3,x4,e,h⟩:=bd5 h;exact k _ _ _ _ _ e h
end
abbrev KK(D:List Deferred)(n:Nat)(l:List (Nat×Value))(j:Nat→Value)(X:Act→World→Prop)(w:World):Prop:=∀a,cy D n (lk l j) a→X a w
abbrev U:Value:=.complex .f32 0 0
def Tc(v x:Value):Value:=match v with | .complex _ _ _=>x | v=>v
def av(P:Program)(o:Oper)(e:Nat→Value):Value:=match (execOp (eJ e) o).run P default with | .ok (.value v) _=>v | _=>U
def adA(P:Program)(j:Nat→Value):List Oper→List Value→List (Nat×Value)→List (Nat×Value)
 | o::os,v::vs,l=>adA P j os vs ((dn o,Tc v (av P o (lk l j)))::l)
 | _,_,l=>l
def WN(P:Program)(n:Nat)(j:Nat→Value)(w:World):List Oper→List Value→List (Nat×Value)→List (Bool×Result Next)
 | o::os,v::vs,l=>(yG o n,(execOp (eJ (lk l j)) o).run P w)::WN P n j w os vs ((dn o,Tc v (av P o (lk l j)))::l)
 | [],_::_,_=>[(false,.ok .skip w)]
 | _,[],_=>[]
def WO(P:Program)(j:Nat→Value)(w:World):List Oper→List Value→List (Nat×Value)→List (Bool×Result Next)
 | o::os,v::vs,l=>(true,.ok (.value (Tc v (av P o (lk l j)))) w)::WO P j w os vs ((dn o,Tc v (av P o (lk l j)))::l)
 | [],_::_,_=>[(true,.ok .skip w)]
 | _,[],_=>[]
def gx(ops:Array Oper)(n:Nat)(e:Nat→Value)(o:Oper):Option (Bool×Option (Bool×Value)):=o.guard.map (λg=>(g.2,((ops[g.1]?).bind (·.dst)).map λt=>(Nat.blt t n,e t)))
section
variable {P:Program}{ops:Array Oper}{Q:Exit→Act→World→Prop}{a:Act}{w w0 w1:World}{rest:List Oper}{o:Oper}{n d t T:Nat}{v u:Value}{l:List (Nat×Value)}{j e:Nat→Value}{L:List bE}{Df:List Deferred}{X:Act→World→Prop}
theorem qq(hr:cy Df n (lk l j) a)(k:KK Df n l j X w):X a w:=k a hr
theorem kwg{x c:Bool}(hr:cy Df n (lk l j) a)(pf:x=c)(hg:gx ops n (lk l j) o=some (c,some (true,.bool x))):Region.wanted o (yielded ops a.tmps)=true:=by
 rw[XX (i:=0) hr pf hg];cases c<;>rfl
theorem ke{f:FuncId}{fn:Func}{c:Code}{args:Array Value}{R:Ending→World→Prop}(hf:P.funcs[f]? = some fn)(n:Nat)(hb:fn.body=some c)
 (k:∀j,KK [] n (OL 0 args.toList) j (c.wp P (bodyPost P fn R)) w) (hn:fn.ntmps=n:=by rfl) (hs:Nat.ble args.size n=true:=by rfl):Calls P f args w R:=qe hf n hb (λj a r=>k j a r) hn hs
theorem ks{Rc:Nat}{y:Code}{os:List Oper}(h:KK Df n l j (wpList P os.toArray (Exit.then (y.wp P Q) Q) os) w):KK Df n l j ((Code.seq (.region Rc os.toArray false) y).wp P Q) w:=λa r=>sr (h a r)
theorem kn{K:Act→World→Prop}(h:KK Df n l j K w):KK Df n l j (wpList P ops (Exit.then K Q) []) w:=λa r=>ln (h a r)
theorem wq{x y:Code}(h:KK Df n l j (x.wp P (Exit.then (y.wp P Q) Q)) w):KK Df n l j ((Code.seq x y).wp P Q) w:=λa r=>wp_seq (h a r)
theorem wl{Rc:Nat}{os:List Oper}(h:KK Df n l j (wpList P os.toArray Q os) w):KK Df n l j ((Code.region Rc os.toArray false).wp P Q) w:=λa r=>wp_region_lit (h a r)
theorem wk(h:KK Df n l j (Q .normal) w):KK Df n l j (Code.skip.wp P Q) w:=λa r=>wp_skip (h a r)
theorem wr(h:KK Df n l j (Q .ret) w):KK Df n l j (Code.ret.wp P Q) w:=λa r=>wp_ret (h a r)
theorem wx{i:Nat}(h:KK Df n l j (Q (.exit i)) w):KK Df n l j ((Code.exit i).wp P Q) w:=λa r=>wp_exit (h a r)
theorem wb{i:Nat}{c:Code}(h:KK Df n l j (c.wp P (Exit.inBlock i Q)) w):KK Df n l j ((Code.block i c).wp P Q) w:=λa r=>wp_block (h a r)
theorem tn{K:Act→World→Prop}(h:KK Df n l j K w):KK Df n l j (Exit.then K Q .normal) w:=h
theorem tr{K:Act→World→Prop}(h:KK Df n l j (Q .ret) w):KK Df n l j (Exit.then K Q .ret) w:=h
theorem te{K:Act→World→Prop}{i:Nat}(h:KK Df n l j (Q (.exit i)) w):KK Df n l j (Exit.then K Q (.exit i)) w:=h
theorem bn{i:Nat}(h:KK Df n l j (Q .normal) w):KK Df n l j (Exit.inBlock i Q .normal) w:=h
theorem br{i:Nat}(h:KK Df n l j (Q .ret) w):KK Df n l j (Exit.inBlock i Q .ret) w:=h
theorem bh{i:Nat}(h:KK Df n l j (Q .normal) w):KK Df n l j (Exit.inBlock i Q (.exit i)) w:=λa r=>LW (h a r)
theorem kl(h:KK Df n l j (Q .normal) w):KK Df n l j (wpList P ops Q []) w:=λa r=>wpList_nil (h a r)
theorem ko:∀(vs:List Value) {os:List Oper} {l:List (Nat×Value)} (k:KK Df n (adA P j os vs l) j (wpList P ops Q (os.drop vs.length)) w) (hrun:WN P n j w os vs l=WO P j w os vs l:=by kernel_rfl),KK Df n l j (wpList P ops Q os) w
 | [],os,l,k,_=>by cases os<;>exact k
 | v::vs,[],l,k,hrun=>by simp[WN,WO]at hrun
 | v::vs,o::os,l,k,hrun=>by
  simp only[WN,WO,List.cons.injEq,Prod.mk.injEq]at hrun
  obtain⟨⟨h1,h2⟩,h3⟩:=hrun
  exact λa hr=>qo hr _ (λa hr=>ko vs k h3 a hr) h1 h2
theorem kp(v:Value)(hrun:(execOp (eJ (lk l j)) o).run P w= .ok (.value v) w)(k:KK Df n ((dn o,v)::l) j (wpList P ops Q rest) w)(ho:yG o n=true:=by rfl):KK Df n l j (wpList P ops Q (o::rest)) w:=λa hr=>qp hr v hrun k ho
theorem mH{b:Bool}(hb:b=true)(v:Value)(k:KK Df n ((dn o,v)::l) j (wpList P ops Q rest) w){c x y:Operand}(ho:yG o n=true:=by rfl)(h1:o.op= .pick c x y:=by rfl)(h2:eJ (lk l j) c= .bool b:=by kernel_rfl)(h3:eJ (lk l j) x=v:=by kernel_rfl):KK Df n l j (wpList P ops Q (o::rest)) w:=λa hr=>qT hb hr v k ho h1 h2 h3
theorem mF{b:Bool}(hb:b=false)(v:Value)(k:KK Df n ((dn o,v)::l) j (wpList P ops Q rest) w){c x y:Operand}(ho:yG o n=true:=by rfl)(h1:o.op= .pick c x y:=by rfl)(h2:eJ (lk l j) c= .bool b:=by kernel_rfl)(h3:eJ (lk l j) y=v:=by kernel_rfl):KK Df n l j (wpList P ops Q (o::rest)) w:=λa hr=>qF hb hr v k ho h1 h2 h3
theorem kL{b:Nat}{cs:Array Value}{T':TypeId}{q:Nat×Nat}{x:Operand}(hF:Fit w0 (an (pts b (.cells cs T' q)::L)) w)(i:Nat)(k:KK Df n ((dn o,cs.getD i undef)::l) j (wpList P ops Q rest) w)
 (h1:yG o n=true:=by rfl) (hi:Nat.blt i cs.size=true:=by rfl) (ho:o.op= .load T x:=by rfl) (hx:eJ (lk l j) x= .pointer (some ⟨b,i,none⟩):=by kernel_rfl) (hu:vb (P.underlying T)=true:=by kernel_rfl):KK Df n l j (wpList P ops Q (o::rest)) w:=λa hr=>qL hr hF i k h1 hi ho hx hu
theorem q9{c' x':Bool}{b:Nat}{cs:Array Value}{T':TypeId}{q:Nat×Nat}{x:Operand}(pf:x'=c')(hF:Fit w0 (an (pts b (.cells cs T' q)::L)) w)(i:Nat)(k:KK Df n ((dn o,cs.getD i undef)::l) j (wpList P ops Q rest) w)
 (hg:gx ops n (lk l j) o=some (c',some (true,.bool x')):=by kernel_rfl) (h1:Te o n=true:=by rfl) (hi:Nat.blt i cs.size=true:=by rfl) (ho:o.op= .load T x:=by rfl) (hx:eJ (lk l j) x= .pointer (some ⟨b,i,none⟩):=by kernel_rfl) (hu:vb (P.underlying T)=true:=by kernel_rfl):KK Df n l j (wpList P ops Q (o::rest)) w:=λa hr=>qLg (kwg hr pf hg) hr hF i k h1 hi ho hx hu
theorem kM{b:Nat}{cs:Array Value}{T':TypeId}{q:Nat×Nat}{x:Operand}(hF:Fit w0 (an (pts b (.cells cs T' q)::L)) w)(k:KK Df n ((dn o,.agg cs)::l) j (wpList P ops Q rest) w)
 (h1:yG o n=true:=by rfl) (ho:o.op= .load T x:=by rfl) (hx:eJ (lk l j) x= .pointer (some ⟨b,0,none⟩):=by kernel_rfl) (hu:sv (P.underlying T)=true:=by kernel_rfl) (hs:(P.info? T).map (·.size)=some cs.size:=by kernel_rfl):KK Df n l j (wpList P ops Q (o::rest)) w:=λa hr=>qM hr hF k h1 ho hx hu hs
theorem kN(hF:Fit w0 (an L) w)(cs:Array Value)(T:TypeId)
 (k:∀b w1,Fit w0 (an (pts b (.cells cs T)::L)) w1→KK Df n ((dn o,pA b 0)::l) j (wpList P ops Q rest) w1) (h1:yG o n=true:=by rfl) (hrun:(execOp (eJ (lk l j)) o).run P w= .ok (.value (pA w.heap.size 0)) (w.alloc (.cells cs T)):=by kernel_rfl):KK Df n l j (wpList P ops Q (o::rest)) w:=λa hr=>qN hr hF cs T (λb w a h r=>k b w h a r) h1 hrun
theorem kV(hF:Fit w0 (an L) w)(cs:Array Value)(T:TypeId)
 (k:∀b w1,Fit w0 (an (pts b (.cells cs T)::L)) w1→KK Df n ((dn o,.slice (some ⟨b,0,none⟩) 1 1)::l) j (wpList P ops Q rest) w1) (h1:yG o n=true:=by rfl) (hrun:(execOp (eJ (lk l j)) o).run P w= .ok (.value (.slice (some ⟨w.heap.size,0,none⟩) 1 1)) (w.alloc (.cells cs T)):=by kernel_rfl):KK Df n l j (wpList P ops Q (o::rest)) w:=λa hr=>qV hr hF cs T (λb w a h r=>k b w h a r) h1 hrun
theorem kS{x y:Operand}{b:Nat}{cs:Array Value}{T':TypeId}(hF:Fit w0 (an (pts b (.cells cs T')::L)) w)(i:Nat)(A:bE)
 (k:∀w1,Fit w0 (an (A::L)) w1→KK Df n l j (wpList P ops Q rest) w1) (hg:o.guard=none:=by rfl) (hd:o.dst=none:=by rfl) (ho:o.op= .store T x y:=by rfl) (hx:eJ (lk l j) x= .pointer (some ⟨b,i,none⟩):=by kernel_rfl)
 (hv:(eJ (lk l j) y).cells=#[eJ (lk l j) y]:=by kernel_rfl) (h1:(eJ (lk l j) y).oneCell'=true:=by kernel_rfl) (hs:(P.info? T).map (·.size)=some 1:=by kernel_rfl) (hc:(cs[i]?).isSome=true:=by kernel_rfl) (hA:pts b (.cells (cs.setIfInBounds i (eJ (lk l j) y)) T')=A:=by kernel_rfl):KK Df n l j (wpList P ops Q (o::rest)) w:=λa hr=>qS hr hF i A (λw h=>k w h a hr) hg hd ho hx hv h1 hs hc hA
theorem kA{x y:Operand}{b:Nat}{cs cs':Array Value}{T':TypeId}(hF:Fit w0 (an (pts b (.cells cs T')::L)) w)(A:bE)
 (k:∀w1,Fit w0 (an (A::L)) w1→KK Df n l j (wpList P ops Q rest) w1) (hA:pts b (.cells cs' T')=A:=by rfl) (hg:o.guard=none:=by rfl) (hd:o.dst=none:=by rfl) (ho:o.op= .store T x y:=by rfl) (hx:eJ (lk l j) x= .pointer (some ⟨b,0,none⟩):=by kernel_rfl) (hy:eJ (lk l j) y= .agg cs':=by kernel_rfl)
 (h1:cs'.toList.all (·.oneCell')=true:=by rfl) (h2:cs'.size=cs.size:=by rfl) (hs:(P.info? T).map (·.size)=some cs'.size:=by kernel_rfl):KK Df n l j (wpList P ops Q (o::rest)) w:=λa hr=>qA hr hF A (λw h=>k w h a hr) hA hg hd ho hx hy h1 h2 hs
theorem ki{x y:Operand}{i:Int}{α:Type}{E:TypeId}{sz m cc:Nat}{enc:α→List Value}{xs:List α}{ca:Option Addr}(hF:Fit w0 (an (rowOf E sz enc (.slice ca m cc) xs::L)) w)(hi:bT i xs.length)
 (k:KK Df n ((dn o,pA (bg ca) (i.toNat*sz))::l) j (wpList P ops Q rest) w) (h1:yG o n=true:=by rfl) (ho:o.op= .indexAddr t x y:=by rfl) (hx:eJ (lk l j) x= .slice ca m cc:=by kernel_rfl) (hy:eJ (lk l j) y= .int .i64 i:=by kernel_rfl)
 (ht:P.underlying t=some (.slice E):=by kernel_rfl) (hs:(P.info? E).map (·.size)=some sz:=by kernel_rfl):KK Df n l j (wpList P ops Q (o::rest)) w:=λa hr=>qi hr hF hi k h1 ho hx hy ht hs
theorem kj{x y:Operand}{i:Int}{α:Type}[Inhabited α]{sz:Nat}{enc:α→List Value}{xs:List α}{va:Option Addr}{L:List bE}(E:TypeId)(cc:Nat)(hF:cu L sz enc va xs)(hi:bT i xs.length)
 (k:KK Df n ((dn o,pA (bg va) (jY va+i.toNat*sz))::l) j (wpList P ops Q rest) w) (h1:yG o n=true:=by rfl) (ho:o.op= .indexAddr t x y:=by rfl) (hx:eJ (lk l j) x= .slice va xs.length cc:=by kernel_rfl) (hy:eJ (lk l j) y= .int .i64 i:=by kernel_rfl)
 (ht:P.underlying t=some (.slice E):=by kernel_rfl) (hs:(P.info? E).map (·.size)=some sz:=by kernel_rfl):KK Df n l j (wpList P ops Q (o::rest)) w:=λa hr=>qj E cc hr hF hi k h1 ho hx hy ht hs
theorem cS{x c:Bool}(pf:x=c)(ds:List Nat)(vs:List Value){os:List Oper}(k:KK Df n (L5 ds vs l) j (wpList P ops Q (os.drop ds.length)) w)
 (hl:ds.length=vs.length∧ds.all (λd=>Nat.blt d n)=true:=by exact⟨rfl,rfl⟩) (hrun:L9 P ops n (os.take ds.length) vs l j w=FW x c ds vs w:=by kernel_rfl):KK Df n l j (wpList P ops Q os) w:=λa hr=>onl pf ds vs hr k hl hrun
theorem bZ{x c:Bool}(pf:x=c)(ds:List Nat){os:List Oper}(k:KK Df n (Ma ds l) j (wpList P ops Q (os.drop ds.length)) w)
 (hl:ds.all (λd=>Nat.blt d n)=true:=by rfl) (hrun:Eh ops n (os.take ds.length) l j=yT (!c) (.bool x) ds:=by kernel_rfl):KK Df n l j (wpList P ops Q os) w:=λa hr=>Ux pf ds hr k hl hrun
theorem Jl(b:Bool)(ds:List Nat){os:List Oper}(k:KK Df n (Ma ds l) j (wpList P ops Q (os.drop ds.length)) w)
 (hl:ds.all (λd=>Nat.blt d n)=true:=by rfl) (hrun:Eh ops n (os.take ds.length) l j=yT b undef ds:=by kernel_rfl):KK Df n l j (wpList P ops Q os) w:=λa hr=>Uy b ds hr k hl hrun
section
variable {β:Type}{p:Prop}[Decidable p]{X Y r:Option β}{c:Operand}{x y:Code}
theorem dR(H:(if p then X else Y)=r)(k1:p→X=r→KK Df n l j (x.wp P Q) w)(k2:¬p→Y=r→KK Df n l j (y.wp P Q) w)(hc:eJ (lk l j) c= .bool (decide p):=by kernel_rfl):KK Df n l j ((Code.cond c x y).wp P Q) w:=λa hr=>cD hr H (λc h=>k1 c h a hr) (λc h=>k2 c h a hr) hc
theorem oA(H:(if p then X else Y)=r)(k1:p→X=r→KK Df n l j (y.wp P Q) w)(k2:¬p→Y=r→KK Df n l j (x.wp P Q) w)(hc:eJ (lk l j) c= .bool (!decide p):=by kernel_rfl):KK Df n l j ((Code.cond c x y).wp P Q) w:=λa hr=>cN hr H (λc h=>k1 c h a hr) (λc h=>k2 c h a hr) hc
theorem De{b:Bool}(H:(if b=true then X else Y)=r)(k1:b=true→X=r→KK Df n l j (x.wp P Q) w)(k2:¬b=true→Y=r→KK Df n l j (y.wp P Q) w)(hc:eJ (lk l j) c= .bool b:=by kernel_rfl):KK Df n l j ((Code.cond c x y).wp P Q) w:=λa hr=>cV hr H (λc h=>k1 c h a hr) (λc h=>k2 c h a hr) hc
theorem C3{b:Bool}(H:(if b=true then X else Y)=r)(k1:b=true→X=r→KK Df n l j (y.wp P Q) w)(k2:¬b=true→Y=r→KK Df n l j (x.wp P Q) w)(hc:eJ (lk l j) c= .bool (!b):=by kernel_rfl):KK Df n l j ((Code.cond c x y).wp P Q) w:=λa hr=>cM hr H (λc h=>k1 c h a hr) (λc h=>k2 c h a hr) hc
end
section
variable {f:FuncId}{args:Array Value}{fn:Func}
theorem eU{V:Value}{G:World→Prop}(hc:Calls P f args w λe w=>e= .returned V∧G w)(k:∀w,G w→KK Df n ((dn o,V)::l) j (wpList P ops Q rest) w)(h1:yG o n=true:=by rfl)(hrun:(execOp (eJ (lk l j)) o).run P w= .ok (.enter f args) w:=by kernel_rfl):KK Df n l j (wpList P ops Q (o::rest)) w:=λa hr =>
 qc (wn (iO h1).2) (iO h1).1.1 (iO h1).1.2 hr hrun hc λe w h=>by obtain⟨rfl,h⟩:=h;exact⟨_,rfl,k w h⟩
theorem Tf{V:Value}{G:World→Prop}{x c:Bool}(pf:x=c)(hc:Calls P f args w λe w=>e= .returned V∧G w)(k:∀w,G w→KK Df n ((dn o,V)::l) j (wpList P ops Q rest) w)(h1:Te o n=true:=by rfl)(hg:gx ops n (lk l j) o=some (c,some (true,.bool x)):=by kernel_rfl)(hrun:(execOp (eJ (lk l j)) o).run P w= .ok (.enter f args) w:=by kernel_rfl):KK Df n l j (wpList P ops Q (o::rest)) w:=λa hr =>
 qc (kwg hr pf hg) (Jj h1).1 (Jj h1).2 hr hrun hc λe w h=>by obtain⟨rfl,h⟩:=h;exact⟨_,rfl,k w h⟩
theorem Jm{V:Value}{G:World→Prop}(h:G w)(hres:fn.results=#[]:=by rfl)(hv: .tuple #[]=V:=by kernel_rfl):KK [] n l j (bodyPost P fn (λe w=>e= .returned V∧G w) .normal) w:=λa hr =>
 nH hres hr ⟨by rw[hv],h⟩
theorem gu{V:Value}{G:World→Prop}{t0:Nat}(h:G w)(hres:fn.results=#[.tmp t0]:=by rfl)(hv:lk l j t0=V:=by kernel_rfl):KK [] n l j (bodyPost P fn (λe w=>e= .returned V∧G w) .ret) w:=λa hr =>
 ez hres hr rfl ⟨by rw[hv],h⟩
theorem HH{V:Value}{G:World→Prop}{t0 t1:Nat}(h:G w)(hres:fn.results=#[.tmp t0,.tmp t1]:=by rfl)(hv: .tuple #[lk l j t0,lk l j t1]=V:=by kernel_rfl):KK [] n l j (bodyPost P fn (λe w=>e= .returned V∧G w) .ret) w:=λa hr =>
 lC hres hr rfl rfl ⟨by rw[hv],h⟩
theorem WQ{tX:Type}{V:tX→Value}{G:tX→World→Prop}(hc:Calls P f args w λe w =>∃x0,e= .returned (V x0)∧G x0 w)(k:∀x0 w,G x0 w→KK Df n ((dn o,(V x0))::l) j (wpList P ops Q rest) w)(h1:yG o n=true:=by rfl)(hrun:(execOp (eJ (lk l j)) o).run P w= .ok (.enter f args) w:=by kernel_rfl):KK Df n l j (wpList P ops Q (o::rest)) w:=λa hr =>
 qc (wn (iO h1).2) (iO h1).1.1 (iO h1).1.2 hr hrun hc λe w h=>by obtain⟨x0,rfl,h⟩:=h;exact⟨_,rfl,k _ w h⟩
theorem WR{tX:Type}{V:tX→Value}{G:tX→World→Prop}{t0:Nat}(x0:tX)(h:G x0 w)(hres:fn.results=#[.tmp t0]:=by rfl)(hv:lk l j t0=V x0:=by kernel_rfl):KK [] n l j (bodyPost P fn (λe w =>∃x0,e= .returned (V x0)∧G x0 w) .ret) w:=λa hr =>
 ez hres hr rfl ⟨x0,by rw[hv],h⟩
theorem Ri{tX vT:Type}{V:tX→vT→Value}{G:tX→vT→World→Prop}(hc:Calls P f args w λe w =>∃x0,∃x1,e= .returned (V x0 x1)∧G x0 x1 w)(k:∀x0 x1 w,G x0 x1 w→KK Df n ((dn o,(V x0 x1))::l) j (wpList P ops Q rest) w)(h1:yG o n=true:=by rfl)(hrun:(execOp (eJ (lk l j)) o).run P w= .ok (.enter f args) w:=by kernel_rfl):KK Df n l j (wpList P ops Q (o::rest)) w:=λa hr =>
 qc (wn (iO h1).2) (iO h1).1.1 (iO h1).1.2 hr hrun hc λe w h=>by obtain⟨x0,x1,rfl,h⟩:=h;exact⟨_,rfl,k _ _ w h⟩
theorem Tg{tX vT:Type}{V:tX→vT→Value}{G:tX→vT→World→Prop}{t0:Nat}(x0:tX)(x1:vT)(h:G x0 x1 w)(hres:fn.results=#[.tmp t0]:=by rfl)(hv:lk l j t0=V x0 x1:=by kernel_rfl):KK [] n l j (bodyPost P fn (λe w =>∃x0,∃x1,e= .returned (V x0 x1)∧G x0 x1 w) .ret) w:=λa hr =>
 ez hres hr rfl ⟨x0,x1,by rw[hv],h⟩
theorem jz{tX vT yH yI:Type}{V:tX→vT→yH→yI→Value}{G:tX→vT→yH→yI→World→Prop}(hc:Calls P f args w λe w =>∃x0,∃x1,∃x2,∃x3,e= .returned (V x0 x1 x2 x3)∧G x0 x1 x2 x3 w)(k:∀x0 x1 x2 x3 w,G x0 x1 x2 x3 w→KK Df n ((dn o,(V x0 x1 x2 x3))::l) j (wpList P ops Q rest) w)(h1:yG o n=true:=by rfl)(hrun:(execOp (eJ (lk l j)) o).run P w= .ok (.enter f args) w:=by kernel_rfl):KK Df n l j (wpList P ops Q (o::rest)) w:=λa hr =>
 qc (wn (iO h1).2) (iO h1).1.1 (iO h1).1.2 hr hrun hc λe w h=>by obtain⟨x0,x1,x2,x3,rfl,h⟩:=h;exact⟨_,rfl,k _ _ _ _ w h⟩
theorem xv4{tX vT yH yI:Type}{V:tX→vT→yH→yI→Value}{G:tX→vT→yH→yI→World→Prop}(x0:tX)(x1:vT)(x2:yH)(x3:yI)(h:G x0 x1 x2 x3 w)(hres:fn.results=#[]:=by rfl)(hv: .tuple #[]=V x0 x1 x2 x3:=by kernel_rfl):KK [] n l j (bodyPost P fn (λe w =>∃x0,∃x1,∃x2,∃x3,e= .returned (V x0 x1 x2 x3)∧G x0 x1 x2 x3 w) .normal) w:=λa hr =>
 nH hres hr ⟨x0,x1,x2,x3,by rw[hv],h⟩
theorem C4{tX vT yH yI:Type}{V:tX→vT→yH→yI→Value}{G:tX→vT→yH→yI→World→Prop}{t0:Nat}(x0:tX)(x1:vT)(x2:yH)(x3:yI)(h:G x0 x1 x2 x3 w)(hres:fn.results=#[.tmp t0]:=by rfl)(hv:lk l j t0=V x0 x1 x2 x3:=by kernel_rfl):KK [] n l j (bodyPost P fn (λe w =>∃x0,∃x1,∃x2,∃x3,e= .returned (V x0 x1 x2 x3)∧G x0 x1 x2 x3 w) .ret) w:=λa hr =>
 ez hres hr rfl ⟨x0,x1,x2,x3,by rw[hv],h⟩
theorem we{tX vT yH yI:Type}{V:tX→vT→yH→yI→Value}{G:tX→vT→yH→yI→World→Prop}{t0 t1:Nat}(x0:tX)(x1:vT)(x2:yH)(x3:yI)(h:G x0 x1 x2 x3 w)(hres:fn.results=#[.tmp t0,.tmp t1]:=by rfl)(hv: .tuple #[lk l j t0,lk l j t1]=V x0 x1 x2 x3:=by kernel_rfl):KK [] n l j (bodyPost P fn (λe w =>∃x0,∃x1,∃x2,∃x3,e= .returned (V x0 x1 x2 x3)∧G x0 x1 x2 x3 w) .ret) w:=λa hr =>
 lC hres hr rfl rfl ⟨x0,x1,x2,x3,by rw[hv],h⟩
theorem xc5{tX vT yH yI HI:Type}{V:tX→vT→yH→yI→HI→Value}{G:tX→vT→yH→yI→HI→World→Prop}(hc:Calls P f args w λe w =>∃x0,∃x1,∃x2,∃x3,∃x4,e= .returned (V x0 x1 x2 x3 x4)∧G x0 x1 x2 x3 x4 w)(k:∀x0 x1 x2 x3 x4 w,G x0 x1 x2 x3 x4 w→KK Df n ((dn o,(V x0 x1 x2 x3 x4))::l) j (wpList P ops Q rest) w)(h1:yG o n=true:=by rfl)(hrun:(execOp (eJ (lk l j)) o).run P w= .ok (.enter f args) w:=by kernel_rfl):KK Df n l j (wpList P ops Q (o::rest)) w:=λa hr =>
 qc (wn (iO h1).2) (iO h1).1.1 (iO h1).1.2 hr hrun hc λe w h=>by obtain⟨x0,x1,x2,x3,x4,rfl,h⟩:=h;exact⟨_,rfl,k _ _ _ _ _ w h⟩
theorem UD{tX vT yH yI HI LI:Type}{V:tX→vT→yH→yI→HI→LI→Value}{G:tX→vT→yH→yI→HI→LI→World→Prop}(hc:Calls P f args w λe w =>∃x0,∃x1,∃x2,∃x3,∃x4,∃x5,e= .returned (V x0 x1 x2 x3 x4 x5)∧G x0 x1 x2 x3 x4 x5 w)(k:∀x0 x1 x2 x3 x4 x5 w,G x0 x1 x2 x3 x4 x5 w→KK Df n ((dn o,(V x0 x1 x2 x3 x4 x5))::l) j (wpList P ops Q rest) w)(h1:yG o n=true:=by rfl)(hrun:(execOp (eJ (lk l j)) o).run P w= .ok (.enter f args) w:=by kernel_rfl):KK Df n l j (wpList P ops Q (o::rest)) w:=λa hr =>
 qc (wn (iO h1).2) (iO h1).1.1 (iO h1).1.2 hr hrun hc λe w h=>by obtain⟨x0,x1,x2,x3,x4,x5,rfl,h⟩:=h;exact⟨_,rfl,k _ _ _ _ _ _ w h⟩
theorem UE{tX vT yH yI HI LI:Type}{V:tX→vT→yH→yI→HI→LI→Value}{G:tX→vT→yH→yI→HI→LI→World→Prop}{t0:Nat}(x0:tX)(x1:vT)(x2:yH)(x3:yI)(x4:HI)(x5:LI)(h:G x0 x1 x2 x3 x4 x5 w)(hres:fn.results=#[.tmp t0]:=by rfl)(hv:lk l j t0=V x0 x1 x2 x3 x4 x5:=by kernel_rfl):KK [] n l j (bodyPost P fn (λe w =>∃x0,∃x1,∃x2,∃x3,∃x4,∃x5,e= .returned (V x0 x1 x2 x3 x4 x5)∧G x0 x1 x2 x3 x4 x5 w) .ret) w:=λa hr =>
 ez hres hr rfl ⟨x0,x1,x2,x3,x4,x5,by rw[hv],h⟩
theorem X8{tX vT yH yI HI LI UF:Type}{V:tX→vT→yH→yI→HI→LI→UF→Value}{G:tX→vT→yH→yI→HI→LI→UF→World→Prop}(hc:Calls P f args w λe w =>∃x0,∃x1,∃x2,∃x3,∃x4,∃x5,∃x6,e= .returned (V x0 x1 x2 x3 x4 x5 x6)∧G x0 x1 x2 x3 x4 x5 x6 w)(k:∀x0 x1 x2 x3 x4 x5 x6 w,G x0 x1 x2 x3 x4 x5 x6 w→KK Df n ((dn o,(V x0 x1 x2 x3 x4 x5 x6))::l) j (wpList P ops Q rest) w)(h1:yG o n=true:=by rfl)(hrun:(execOp (eJ (lk l j)) o).run P w= .ok (.enter f args) w:=by kernel_rfl):KK Df n l j (wpList P ops Q (o::rest)) w:=λa hr =>
 qc (wn (iO h1).2) (iO h1).1.1 (iO h1).1.2 hr hrun hc λe w h=>by obtain⟨x0,x1,x2,x3,x4,x5,x6,rfl,h⟩:=h;exact⟨_,rfl,k _ _ _ _ _ _ _ w h⟩
theorem X9{tX vT yH yI HI LI UF β7:Type}{V:tX→vT→yH→yI→HI→LI→UF→β7→Value}{G:tX→vT→yH→yI→HI→LI→UF→β7→World→Prop}(hc:Calls P f args w λe w =>∃x0,∃x1,∃x2,∃x3,∃x4,∃x5,∃x6,∃x7,e= .returned (V x0 x1 x2 x3 x4 x5 x6 x7)∧G x0 x1 x2 x3 x4 x5 x6 x7 w)(k:∀x0 x1 x2 x3 x4 x5 x6 x7 w,G x0 x1 x2 x3 x4 x5 x6 x7 w→KK Df n ((dn o,(V x0 x1 x2 x3 x4 x5 x6 x7))::l) j (wpList P ops Q rest) w)(h1:yG o n=true:=by rfl)(hrun:(execOp (eJ (lk l j)) o).run P w= .ok (.enter f args) w:=by kernel_rfl):KK Df n l j (wpList P ops Q (o::rest)) w:=λa hr =>
 qc (wn (iO h1).2) (iO h1).1.1 (iO h1).1.2 hr hrun hc λe w h=>by obtain⟨x0,x1,x2,x3,x4,x5,x6,x7,rfl,h⟩:=h;exact⟨_,rfl,k _ _ _ _ _ _ _ _ w h⟩
theorem kC{t T b:Nat}{R:Ending→World→Prop}{cs:Array Value}{T':TypeId}{q:Nat×Nat}(hF:Fit w0 (an (pts b (.cells cs T' q)::L)) w)(h:R (.returned (.agg cs)) w)(hres:fn.results=#[.cell t T]:=by rfl)(hv:lk l j t= .pointer (some ⟨b,0,none⟩):=by kernel_rfl)(hu:sv (P.underlying T)=true:=by kernel_rfl)
 (hs:(P.info? T).map (·.size)=some cs.size:=by kernel_rfl):KK [] n l j (bodyPost P fn R .ret) w:=λa hr=>qC hr hF h hres hv hu hs
end
section
variable {E:List Nat}{D:List (Nat×Nat×List Value)}{N:Nat}{listed:Array Bool}
theorem gg[hp:PI Q](hd:HL D w)(f:Nat)(is:List (Nat×Nat×Value))(k:KK Df n (Ox is l) j (ff P .any ops Q (HL D) E f (Ow is listed)) w)
 (hN:f+is.length=N:=by rfl) (hB:Uv ops E n is listed=true:=by kernel_rfl) (hrun:∀w,FV P ops is l j w=AO is w:=by intro w;kernel_rfl):KK Df n l j (ff P .any ops Q (HL D) E N listed) w:=λa hr=>XW hd f is hr k hN hB hrun
theorem kx[hp:PI Q](hd:HL D w)(q f i:Nat){b off:Nat}{x:Operand}(hi:ops[i]? = some o)(hq:D[q]? = some (b,off,[v]))
 (k:KK Df n ((dn o,v)::l) j (ff P .any ops Q (HL D) E f (listed.setIfInBounds i true)) w) (hg:o.guard=none:=by rfl) (hB:(okB ops E listed i&&yS .any ops E listed i)=true:=by kernel_rfl)
 (ho:o.op= .load T x:=by rfl) (hx:eJ (lk l j) x= .pointer (some ⟨b,off,none⟩):=by kernel_rfl) (hu:vb (P.underlying T)=true:=by kernel_rfl) (h1:o.dst=some (dn o):=by rfl) (hn:Nat.blt (dn o) n=true:=by rfl):KK Df n l j (ff P .any ops Q (HL D) E (f+1) listed) w:=λa hr =>
 WL hd q f i hr (wn hg) hi hq k hB ho hx hu h1 hn
theorem tL[hp:PI Q](hd:HL D w)(q f i:Nat){b off:Nat}{cs:List Value}{x:Operand}(hi:ops[i]? = some o)(hq:D[q]? = some (b,off,cs))
 (k:KK Df n ((dn o,.agg cs.toArray)::l) j (ff P .any ops Q (HL D) E f (listed.setIfInBounds i true)) w) (hg:o.guard=none:=by rfl) (hB:(okB ops E listed i&&yS .any ops E listed i)=true:=by kernel_rfl)
 (ho:o.op= .load T x:=by rfl) (hx:eJ (lk l j) x= .pointer (some ⟨b,off,none⟩):=by kernel_rfl) (hu:sv (P.underlying T)=true:=by kernel_rfl) (hs:(P.info? T).map (·.size)=some cs.length:=by kernel_rfl) (h1:o.dst=some (dn o):=by rfl) (hn:Nat.blt (dn o) n=true:=by rfl):KK Df n l j (ff P .any ops Q (HL D) E (f+1) listed) w:=λa hr =>
 WM hd q f i hr (wn hg) hi hq k hB ho hx hu hs h1 hn
end
end
end GX
end
end Go.Proofs.YtpikpffbcjpmcaaGreatDoor
