/- Panics; scopes; maps of which the keys are flat; a range over such a map. No program is named here. -/
import Derived.Test.YtpikpffbcjpmcaaGreatDoorRn
import Derived.Scope
import Derived.Laws.IdiomRangeMap
namespace Go.Proofs.YtpikpffbcjpmcaaGreatDoor.GX
open Go Go.RowKit Go.Proofs.YtpikpffbcjpmcaaGreatDoor.SL
set_option linter.unusedVariables false
set_option linter.unusedSectionVars false
section
variable {P : Program} {w w0 w1 z : World} {ops : Array Oper} {Q : Exit → Act → World → Prop} {a : Act} {rest : List Oper} {e : Nat → Value} {o : Oper} {n d : Nat} {l : List (Nat × Value)} {j : Nat → Value} {Df : List Deferred} {L : List HProp} {u : Value}
/-! ### panics -/
theorem op_pan {x : Operand} {T : TypeId} (hw : Region.wanted o (yielded ops a.tmps) = true) (hr : RepD Df n (lk l j) a) (ho : o.op = .panic x) (hx : evE (lk l j) x = .iface T u)
    (k : Q (.panic [{ v := .iface T u, recovered := false }]) a w) : wpList P ops Q (o :: rest) a w := by
  refine step_on hw ?_
  unfold Oper.wp
  have h : (execOp (evE (lk l j)) o).run P w = .halt (.panic (.iface T u)) w := by
    unfold execOp
    simp [ho, hx, Instr.panic, goPanic]
  rw [hr.eval, h, Oper.upon_panic]
  exact k
theorem op_callP {f : FuncId} {args : Array Value} {R : Ending → World → Prop} (hw : Region.wanted o (yielded ops a.tmps) = true) (hr : RepD Df n (lk l j) a)
    (hrun : (execOp (evE (lk l j)) o).run P w = .ok (.enter f args) w) (hc : Calls P f args w R)
    (k : ∀ e w1, R e w1 → ∃ ch, e = .panicked ch ∧ Q (.panic ch) a w1) : wpList P ops Q (o :: rest) a w := by
  refine step_on hw ?_
  unfold Oper.wp
  rw [hr.eval, hrun, Oper.upon_enter]
  refine hc.mono fun e w1 h => ?_
  obtain ⟨ch, rfl, h2⟩ := k e w1 h
  exact h2
theorem then_pan {K : Act → World → Prop} {ch : List PanicEntry} (h : Q (.panic ch) a w) : Exit.then K Q (.panic ch) a w := h
theorem blk_pan {i : Nat} {ch : List PanicEntry} (h : Q (.panic ch) a w) : Exit.inBlock i Q (.panic ch) a w := h
theorem end_pan {fn : Func} {R : Ending → World → Prop} {ch : List PanicEntry} (hr : Rep n e a) (h : R (.panicked ch) w) : bodyPost P fn R (.panic ch) a w := ⟨hr.defers, h⟩
theorem ejL {γ δ : Type} {x y : γ} (h : some (Sum.inl x : γ ⊕ δ) = some (Sum.inl y)) : some x = some y := by cases h; rfl
theorem ejR {γ δ : Type} {x y : δ} (h : some (Sum.inr x : γ ⊕ δ) = some (Sum.inr y)) : x = y := by cases h; rfl
/-! ### scopes -/
theorem sc_normal (h : Q .normal a w) : Exit.noGoto Q .normal a w := h
theorem sc_ret (h : Q .ret a w) : Exit.noGoto Q .ret a w := h
theorem sc_exit {i : Nat} (h : Q (.exit i) a w) : Exit.noGoto Q (.exit i) a w := h
theorem sc_pan {ch : List PanicEntry} (h : Q (.panic ch) a w) : Exit.noGoto Q (.panic ch) a w := h
instance pi_sc [h : PI Q] : PI (Exit.noGoto Q) := ⟨fun ch a w dst v k => h.pi ch a w dst v k⟩
end
/-! ### keys -/
section
variable {P : Program} {w : World}
theorem ck_flat (em : Bool) (d : Nat) (xs : Array Value) : ∀ (fs : List Field) (i : Nat) (us : List Value), flatB P i fs us us = true → (∀ j, us[j]? = xs[i + j]? ∨ us.length ≤ j) →
    Sem.run P (forIn fs PUnit.unit fun f _ => if f.name ≠ "_" then do let v ← part f.type xs f.offset; Instr.checkKey em (d + 1) f.type v; pure (ForInStep.yield PUnit.unit) else pure (ForInStep.yield PUnit.unit)) w = .ok PUnit.unit w
  | [], _, [], _, _ => by simp
  | f :: fs, i, .int k a :: us, h, hx => by
    simp only [flatB, Bool.and_eq_true, bne_iff_ne, ne_eq, beq_iff_eq] at h
    obtain ⟨⟨⟨⟨hn, ho⟩, ht⟩, _⟩, hr⟩ := h
    have hx0 : xs[i]? = some (.int k a) := by rcases hx 0 with h | h; simpa using h.symm; simp at h
    have hty : ∃ kk, P.underlying f.type = some (.int kk) := by
      revert ht
      cases hq : P.underlying f.type with
      | none => simp
      | some d => cases d <;> simp
    obtain ⟨kk, hty⟩ := hty
    have ih := ck_flat em d xs fs (i + 1) us hr (fun j => by rcases hx (j + 1) with h | h; left; simpa [Nat.add_comm, Nat.add_left_comm] using h; right; simpa using h)
    have pa := run_part1 (P := P) (w := w) (t := f.type) (cs := xs) (i := f.offset) (v := .int k a) (by rw [hty]) (by rw [ho]; exact hx0)
    have hc : (Instr.checkKey em (d + 1) f.type (.int k a)).run P w = .ok () w := by simp [Instr.checkKey, run_underlying hty]
    rw [List.forIn_cons]
    simp only [ne_eq, if_pos hn, Sem.run_bind, pa, hc, Result.andThen_ok, Sem.run_pure]
    simpa using ih
  | f :: fs, i, .bool a :: us, h, hx => by
    simp only [flatB, Bool.and_eq_true, bne_iff_ne, ne_eq, beq_iff_eq] at h
    obtain ⟨⟨⟨hn, ho⟩, ht⟩, hr⟩ := h
    have hx0 : xs[i]? = some (.bool a) := by rcases hx 0 with h | h; simpa using h.symm; simp at h
    have hty : P.underlying f.type = some .bool := by
      revert ht
      cases hq : P.underlying f.type with
      | none => simp
      | some d => cases d <;> simp
    have ih := ck_flat em d xs fs (i + 1) us hr (fun j => by rcases hx (j + 1) with h | h; left; simpa [Nat.add_comm, Nat.add_left_comm] using h; right; simpa using h)
    have pa := run_part1 (P := P) (w := w) (t := f.type) (cs := xs) (i := f.offset) (v := .bool a) (by rw [hty]) (by rw [ho]; exact hx0)
    have hc : (Instr.checkKey em (d + 1) f.type (.bool a)).run P w = .ok () w := by simp [Instr.checkKey, run_underlying hty]
    rw [List.forIn_cons]
    simp only [ne_eq, if_pos hn, Sem.run_bind, pa, hc, Result.andThen_ok, Sem.run_pure]
    simpa using ih
theorem run_ck {em : Bool} {T : TypeId} {us : List Value} (d : Nat) (hu : P.underlying T = some (.struct (P.fieldsOf T))) (hf : flatB P 0 (P.fieldsOf T).toList us us = true) : (Instr.checkKey em (d + 2) T (.agg us.toArray)).run P w = .ok () w := by
  unfold Instr.checkKey
  simp only [run_underlying hu, Sem.run_bind, Result.andThen_ok, ← Array.forIn_toList]
  rw [ck_flat em d us.toArray _ 0 us hf (fun j => by left; simp)]
  simp
structure KeyOK {α : Type} [DecidableEq α] (P : Program) (kt : TypeId) (ek : α → List Value) : Prop where
  hp : P.stoodInHeld kt = false
  hu : P.underlying kt = some (.struct (P.fieldsOf kt))
  hf : ∀ x y, flatB P 0 (P.fieldsOf kt).toList (ek x) (ek y) = true
  eq : ∀ x y, eqvs (ek x) (ek y) = decide (x = y)
end
/-! ### maps -/
section
variable {α β : Type} [DecidableEq α]
def mapE (ek : α → List Value) (ev : β → List Value) (l : List (α × β)) (k : Nat) : List MapEntry := (l.zipIdx k).map fun p => { key := .agg (ek p.1.1).toArray, val := .agg (ev p.1.2).toArray, born := p.2 }
def mapOf (ek : α → List Value) (ev : β → List Value) (b : Nat) (l : List (α × β)) : HProp := pts b (.map (mapE ek ev l 0).toArray l.length)
/-- What the map holds for a key. -/
def mget : List (α × β) → α → Option β
  | [], _ => none
  | p :: l, x => if x = p.1 then some p.2 else mget l x
variable {P : Program} {w w0 w1 z : World} {ops : Array Oper} {Q : Exit → Act → World → Prop} {a : Act} {rest : List Oper} {e : Nat → Value} {o : Oper} {n d : Nat} {l : List (Nat × Value)} {j : Nat → Value} {Df : List Deferred} {L : List HProp} {u : Value}
variable {ek : α → List Value} {ev : β → List Value} {b : Nat} {m : List (α × β)} {t kt et : TypeId}
theorem run_find (hk : KeyOK P kt ek) (x : α) : ∀ (m : List (α × β)) (k i : Nat), ((mget m x = none ∧ (Instr.findAsking kt (.agg (ek x).toArray) (mapE ek ev m k) i).run P w = .ok none w) ∨ ∃ v q, mget m x = some v ∧ (Instr.findAsking kt (.agg (ek x).toArray) (mapE ek ev m k) i).run P w = .ok (some (q, .agg (ev v).toArray)) w)
  | [], k, i => by left; exact ⟨rfl, by simp [mapE, Instr.findAsking]⟩
  | p :: m, k, i => by
    have h1 := run_equalIn_struct (P := P) w 9999 kt (ek x).toArray (ek p.1).toArray hk.hu hk.hp
    rw [flat_eq (P := P) (w := w) 9998 (ek x).toArray (ek p.1).toArray (P.fieldsOf kt).toList 0 (ek x) (ek p.1) (hk.hf x p.1) (fun j => by left; simp) (fun j => by left; simp)] at h1
    have h2 : (Op.equal kt (.agg (ek x).toArray) (.agg (ek p.1).toArray)).run P w = .ok (decide (x = p.1)) w := by rw [← hk.eq]; exact h1
    have e : mapE ek ev (p :: m) k = { key := .agg (ek p.1).toArray, val := .agg (ev p.2).toArray, born := k } :: mapE ek ev m (k + 1) := rfl
    rw [e]
    by_cases c : x = p.1
    · right
      refine ⟨p.2, i, by simp [mget, c], ?_⟩
      rw [Instr.findAsking]
      simp only [Sem.run_bind, h2, Result.andThen_ok]
      simp [c]
    · have ih := run_find hk x m (k + 1) (i + 1)
      have e2 : (Instr.findAsking kt (.agg (ek x).toArray) ({ key := .agg (ek p.1).toArray, val := .agg (ev p.2).toArray, born := k } :: mapE ek ev m (k + 1)) i).run P w = (Instr.findAsking kt (.agg (ek x).toArray) (mapE ek ev m (k + 1)) (i + 1)).run P w := by
        rw [Instr.findAsking]
        simp [h2, c]
      rw [e2]
      simpa [mget, c] using ih
theorem run_findK (hk : KeyOK P kt ek) (x : α) (m : List (α × β)) : ((mget m x = none ∧ (Instr.findKey kt (.agg (ek x).toArray) (mapE ek ev m 0)).run P w = .ok none w) ∨ ∃ v q, mget m x = some v ∧ (Instr.findKey kt (.agg (ek x).toArray) (mapE ek ev m 0)).run P w = .ok (some (q, .agg (ev v).toArray)) w) := by
  have h := run_find (P := P) (w := w) (ev := ev) hk x m 0 0
  unfold Instr.findKey
  simp only [Sem.run_bind, run_underlying hk.hu, Result.andThen_ok]
  cases m with
  | nil => left; exact ⟨rfl, by simp [mapE, Instr.findNow]⟩
  | cons p m =>
    have e : Instr.findNow (.struct (P.fieldsOf kt)) (.agg (ek x).toArray) (mapE ek ev (p :: m) 0) 0 = none := rfl
    rw [e]
    exact h
theorem op_mkmap (hw : Region.wanted o (yielded ops a.tmps) = true) (hd : o.dst = some d) (hn : Nat.blt d n = true) (hr : RepD Df n (lk l j) a) (ho : o.op = .makeMap t none) (ek : α → List Value) (ev : β → List Value) (hF : Fit z (sepL L) w)
    (k : ∀ b w a, Fit z (sepL (mapOf ek ev b [] :: L)) w → RepD Df n (lk ((d, .map (some b)) :: l) j) a → wpList P ops Q rest a w) : wpList P ops Q (o :: rest) a w := by
  refine op_valw hw hd hn hr (w1 := w.alloc (.map #[] 0)) (v := .map (some w.heap.size)) ?_ fun a hr' => k _ _ a (hF.alloc _) hr'
  unfold execOp
  simp [ho, Instr.makeMap, newObj]
  rfl
theorem zero_of {zc : Array Value} (h : (P.info? et).bind (·.zero) = some (.agg zc)) : (zeroValue et).run P w = .ok (.agg zc) w := by
  cases hi : P.info? et with
  | none => simp [hi] at h
  | some i =>
    simp [hi] at h
    simp [zeroValue, typeInfo, hi, h]
/-- A look into a map, with ', ok'. -/
theorem op_look {x y : Operand} {v0 : β} (hw : Region.wanted o (yielded ops a.tmps) = true) (hd : o.dst = some d) (hn : Nat.blt d n = true) (hr : RepD Df n (lk l j) a) (ho : o.op = .lookup t x y true) (hx : evE (lk l j) x = .map (some b)) (q : α) (hy : evE (lk l j) y = .agg (ek q).toArray)
    (ht : P.underlying t = some (.map kt et)) (hk : KeyOK P kt ek) (hz : (P.info? et).bind (·.zero) = some (.agg (ev v0).toArray)) (hF : Fit z (sepL (mapOf ek ev b m :: L)) w)
    (k : ∀ a, RepD Df n (lk ((d, .tuple #[.agg (ev ((mget m q).getD v0)).toArray, .bool (mget m q).isSome]) :: l) j) a → wpList P ops Q rest a w) : wpList P ops Q (o :: rest) a w := by
  refine op_valw hw hd hn hr (w1 := w) ?_ k
  unfold execOp
  have hb : (getObj b).run P w = .ok (.map (mapE ek ev m 0).toArray m.length) w := MapKept.run_getObj_map hF.block
  have hc : ∀ em, (Instr.checkKey em 10000 kt (.agg (ek q).toArray)).run P w = .ok () w := fun em => run_ck 9998 hk.hu (hk.hf q q)
  have hzv := zero_of (P := P) (w := w) hz
  rcases run_findK (P := P) (w := w) (ev := ev) hk q m with ⟨e, h⟩ | ⟨v, i, e, h⟩
  · simp [ho, hx, hy, Instr.lookup, run_underlying ht, hb, hc, h, e, hzv]
  · simp [ho, hx, hy, Instr.lookup, run_underlying ht, hb, hc, h, e]
theorem mapE_snoc (p : α × β) : ∀ (m : List (α × β)) (k : Nat), mapE ek ev (m ++ [p]) k = mapE ek ev m k ++ [{ key := .agg (ek p.1).toArray, val := .agg (ev p.2).toArray, born := k + m.length }]
  | [], k => rfl
  | q :: m, k => by
    have ih := mapE_snoc p m (k + 1)
    show _ :: mapE ek ev (m ++ [p]) (k + 1) = _ :: (mapE ek ev m (k + 1) ++ _)
    rw [ih]
    congr 3
    simp; omega
theorem fit_put {o o' : Obj} (h : Fit w0 (sepL (pts b o :: L)) w) : Fit w0 (sepL (pts b o' :: L)) { w with heap := w.heap.setIfInBounds b o' } := by
  refine h.turn ?_ (fun k hk hlt => ?_) rfl rfl rfl (by simp)
  · simp [h.lt]
  · show (w.heap.setIfInBounds b o')[k]? = _
    rw [Array.getElem?_setIfInBounds_ne (by omega)]
/-- A new key laid into a map. -/
theorem op_lay {x y v : Operand} (hw : Region.wanted o (yielded ops a.tmps) = true) (hd : o.dst = none) (hr : RepD Df n (lk l j) a) (ho : o.op = .mapUpdate t x y v ∨ o.op = .insert t x y v) (hx : evE (lk l j) x = .map (some b)) (q : α) (r : β) (hy : evE (lk l j) y = .agg (ek q).toArray) (hv : evE (lk l j) v = .agg (ev r).toArray)
    (ht : P.underlying t = some (.map kt et)) (hk : KeyOK P kt ek) (hq : mget m q = none) (hF : Fit z (sepL (mapOf ek ev b m :: L)) w)
    (k : ∀ w, Fit z (sepL (mapOf ek ev b (m ++ [(q, r)]) :: L)) w → wpList P ops Q rest a w) : wpList P ops Q (o :: rest) a w := by
  have hb : (getObj b).run P w = .ok (.map (mapE ek ev m 0).toArray m.length) w := MapKept.run_getObj_map hF.block
  have hc : ∀ em, (Instr.checkKey em 10000 kt (.agg (ek q).toArray)).run P w = .ok () w := fun em => run_ck 9998 hk.hu (hk.hf q q)
  have hrun : (Instr.mapUpdate t (.map (some b)) (.agg (ek q).toArray) (.agg (ev r).toArray)).run P w = .ok () { w with heap := w.heap.setIfInBounds b (.map (mapE ek ev (m ++ [(q, r)]) 0).toArray (m ++ [(q, r)]).length) } := by
    rcases run_findK (P := P) (w := w) (ev := ev) hk q m with ⟨e, h⟩ | ⟨v, i, e, h⟩
    · rw [mapE_snoc]
      have hs : ∀ o', (setObj b o').run P w = .ok () { w with heap := w.heap.setIfInBounds b o' } := fun o' => by simp [setObj, Sem.run, hF.block]
      simp [Instr.mapUpdate, run_underlying ht, hb, hc, h, hs]
    · rw [e] at hq; cases hq
  refine step_on hw ?_
  unfold Oper.wp
  have h2 : (execOp (evE (lk l j)) o).run P w = .ok .skip { w with heap := w.heap.setIfInBounds b (.map (mapE ek ev (m ++ [(q, r)]) 0).toArray (m ++ [(q, r)]).length) } := by
    unfold execOp
    rcases ho with ho | ho <;> simp [ho, hx, hy, hv, hrun]
  rw [hr.eval, h2, Oper.upon_skip, hd]
  exact k _ (fit_put hF)
/-! ### a range over a map -/
section
variable {ξ γ : Type}
/-- The fold, where its outcome does not hang on the order. -/
noncomputable def permFold (step : ξ → γ → Option γ) (s0 : γ) (l : List ξ) : Option γ :=
  open Classical in if h : ∃ r, ∀ l' : List ξ, l'.Perm l → l'.foldlM (fun s x => step x s) s0 = some r then some h.choose else none
theorem permFold_spec {step : ξ → γ → Option γ} {s0 r : γ} {l l' : List ξ} (h : permFold step s0 l = some r) (p : l'.Perm l) : l'.foldlM (fun s x => step x s) s0 = some r := by
  unfold permFold at h
  split at h
  · rename_i hx
    rw [← Option.some.inj h]
    exact hx.choose_spec l' p
  · cases h
theorem permFold_eq {step : ξ → γ → Option γ} {s0 r : γ} {l : List ξ} (h : ∀ l' : List ξ, l'.Perm l → l'.foldlM (fun s x => step x s) s0 = some r) : permFold step s0 l = some r := by
  unfold permFold
  have hx : ∃ r, ∀ l' : List ξ, l'.Perm l → l'.foldlM (fun s x => step x s) s0 = some r := ⟨r, h⟩
  rw [dif_pos hx]
  have e := hx.choose_spec l (List.Perm.refl l)
  rw [h l (List.Perm.refl l)] at e
  rw [← Option.some.inj e]
structure Seen (l : List ξ) (step : ξ → γ → Option γ) (s0 : γ) (seen : Array Nat) (s : γ) : Prop where
  nd : seen.toList.Nodup
  lt : ∀ i ∈ seen.toList, i < l.length
  fold : (seen.toList.filterMap (fun i => l[i]?)).foldlM (fun s x => step x s) s0 = some s
theorem Seen.nil {l : List ξ} {step : ξ → γ → Option γ} {s0 : γ} : Seen l step s0 #[] s0 := ⟨by simp, by simp, rfl⟩
theorem range_all (l : List ξ) : (List.range l.length).filterMap (fun i => l[i]?) = l := by
  apply List.ext_getElem?
  intro i
  have h : ∀ (l : List ξ), (List.range l.length).filterMap (fun i => l[i]?) = l := by
    intro l
    induction l with
    | nil => rfl
    | cons x l ih =>
      rw [List.length_cons, List.range_succ_eq_map, List.filterMap_cons]
      simp only [List.getElem?_cons_zero, List.filterMap_map]
      congr 1
  rw [h]
theorem nodup_perm_range {n : Nat} {l : List Nat} (h : l.Nodup) (hlt : ∀ i ∈ l, i < n) (hall : ∀ i, i < n → i ∈ l) : l.Perm (List.range n) :=
  (List.perm_ext_iff_of_nodup h List.nodup_range).2 fun i => ⟨fun hi => List.mem_range.2 (hlt i hi), fun hi => hall i (List.mem_range.1 hi)⟩
theorem Seen.done {l : List ξ} {step : ξ → γ → Option γ} {s0 s r : γ} {seen : Array Nat} (h : Seen l step s0 seen s) (H : permFold step s0 l = some r) (hall : ∀ i, i < l.length → i ∈ seen.toList) : s = r := by
  have p := (nodup_perm_range h.nd h.lt hall).filterMap (fun i => l[i]?)
  rw [range_all] at p
  have e := permFold_spec H p
  rw [h.fold] at e
  exact Option.some.inj e
theorem Seen.push {l : List ξ} {step : ξ → γ → Option γ} {s0 s r : γ} {seen : Array Nat} (h : Seen l step s0 seen s) (H : permFold step s0 l = some r) {i : Nat} {x : ξ} (hx : l[i]? = some x) (hi : i ∉ seen.toList) : ∃ s', step x s = some s' ∧ Seen l step s0 (seen.push i) s' := by
  have hil : i < l.length := (List.getElem?_eq_some_iff.1 hx).1
  have hnd : (seen.toList ++ [i]).Nodup := by
    rw [List.nodup_append]
    exact ⟨h.nd, by simp, fun a ha b hb => by simp at hb; subst hb; intro e; subst e; exact hi ha⟩
  have hlt : ∀ k ∈ seen.toList ++ [i], k < l.length := fun k hk => by
    rcases List.mem_append.1 hk with hk | hk
    · exact h.lt k hk
    · simp at hk; omega
  let rest := (List.range l.length).filter (fun k => !(seen.toList ++ [i]).contains k)
  have p : ((seen.toList ++ [i]) ++ rest).Perm (List.range l.length) := by
    refine nodup_perm_range ?_ ?_ ?_
    · rw [List.nodup_append]
      refine ⟨hnd, List.nodup_range.filter _, fun a ha b hb => ?_⟩
      intro e; subst e
      have := (List.mem_filter.1 hb).2
      simp at this ha
      rcases ha with ha | ha
      · exact this.1 ha
      · exact this.2 ha
    · intro k hk
      rcases List.mem_append.1 hk with hk | hk
      · exact hlt k hk
      · exact List.mem_range.1 (List.mem_filter.1 hk).1
    · intro k hk
      by_cases c : k ∈ seen.toList ++ [i]
      · exact List.mem_append.2 (.inl c)
      · refine List.mem_append.2 (.inr (List.mem_filter.2 ⟨List.mem_range.2 hk, ?_⟩))
        simpa using c
  have p2 := p.filterMap (fun i => l[i]?)
  rw [range_all] at p2
  have e := permFold_spec H p2
  rw [List.filterMap_append, List.filterMap_append, List.foldlM_append, List.foldlM_append, h.fold] at e
  have e1 : List.filterMap (fun i => l[i]?) [i] = [x] := by simp [hx]
  rw [e1] at e
  cases hs : step x s with
  | none => simp [hs] at e
  | some s' =>
    refine ⟨s', rfl, ⟨by simpa using hnd, fun k hk => hlt k (by simpa using hk), ?_⟩⟩
    rw [Array.toList_push, List.filterMap_append, List.foldlM_append, h.fold, e1]
    simp [hs]
theorem Seen.size {l : List ξ} {step : ξ → γ → Option γ} {s0 s : γ} {seen : Array Nat} (h : Seen l step s0 seen s) : seen.size ≤ l.length := by
  have p : (seen.toList ++ (List.range l.length).filter (fun k => !seen.toList.contains k)).Perm (List.range l.length) := by
    refine nodup_perm_range ?_ ?_ ?_
    · rw [List.nodup_append]
      refine ⟨h.nd, List.nodup_range.filter _, fun a ha b hb => ?_⟩
      intro e; subst e
      have := (List.mem_filter.1 hb).2
      simp at this ha
      exact this ha
    · intro k hk
      rcases List.mem_append.1 hk with hk | hk
      · exact h.lt k hk
      · exact List.mem_range.1 (List.mem_filter.1 hk).1
    · intro k hk
      by_cases c : k ∈ seen.toList
      · exact List.mem_append.2 (.inl c)
      · refine List.mem_append.2 (.inr (List.mem_filter.2 ⟨List.mem_range.2 hk, ?_⟩))
        simpa using c
  have h1 := p.length_eq
  simp at h1
  omega
end
theorem range_rule {ξ γ : Type} {c : Code} (m : List ξ) (step : ξ → γ → Option γ) (s0 : γ) (I : Array Nat → γ → Act → World → Prop) (h0 : I #[] s0 a w)
    (round : ∀ seen s a w, Seen m step s0 seen s → I seen s a w → c.wp P (Exit.then (fun a w => ∃ i s', Seen m step s0 (seen.push i) s' ∧ I (seen.push i) s' a w) Q) a w) : (Code.loop c).wp P Q a w := by
  refine loop_rule (fun x : Array Nat × γ => m.length - x.1.size) (fun x a w => Seen m step s0 x.1 x.2 ∧ I x.1 x.2 a w) (#[], s0) ⟨Seen.nil, h0⟩ ?_
  rintro ⟨seen, s⟩ a w ⟨hs, hI⟩
  refine Code.wp_mono (fun e a w q => ?_) (round seen s a w hs hI)
  cases e with
  | normal =>
    obtain ⟨i, s', h1, h2⟩ := q
    refine ⟨(seen.push i, s'), ⟨h1, h2⟩, ?_⟩
    have := h1.size
    simp at this ⊢
    omega
  | _ => exact q
def iterP (it b n : Nat) (seen : Array Nat) : HProp := pts it (.mapIter (some b) n seen n)
theorem op_range {x : Operand} (hw : Region.wanted o (yielded ops a.tmps) = true) (hd : o.dst = some d) (hn : Nat.blt d n = true) (hr : RepD Df n (lk l j) a) (ho : o.op = .range t x) (hx : evE (lk l j) x = .map (some b)) (ht : P.underlying t = some (.map kt et))
    (hF : Fit z (sepL (mapOf ek ev b m :: L)) w)
    (k : ∀ it w a, Fit z (sepL (iterP it b m.length #[] :: mapOf ek ev b m :: L)) w → RepD Df n (lk ((d, .pointer (some ⟨it, 0, none⟩)) :: l) j) a → wpList P ops Q rest a w) : wpList P ops Q (o :: rest) a w := by
  refine op_valw hw hd hn hr (w1 := w.alloc (.mapIter (some b) m.length #[] m.length)) (v := .pointer (some ⟨w.heap.size, 0, none⟩)) ?_ fun a hr' => k _ _ a (hF.alloc _) hr'
  have h := run_range_map (P := P) w t kt et b (mapE ek ev m 0).toArray m.length ht hF.block
  unfold execOp
  simp [ho, hx, h]
theorem mapE_get (m : List (α × β)) (k i : Nat) : (mapE ek ev m k)[i]? = (m[i]?).map fun p => { key := .agg (ek p.1).toArray, val := .agg (ev p.2).toArray, born := k + i } := by
  unfold mapE
  rw [List.getElem?_map, List.getElem?_zipIdx]
  cases m[i]? <;> rfl
theorem mapE_mem {m : List (α × β)} {x : MapEntry} (h : x ∈ mapE ek ev m 0) : ∃ p, m[x.born]? = some p ∧ x = { key := .agg (ek p.1).toArray, val := .agg (ev p.2).toArray, born := x.born } := by
  obtain ⟨i, hi⟩ := List.getElem?_of_mem h
  rw [mapE_get] at hi
  cases hm : m[i]? with
  | none => simp [hm] at hi
  | some p =>
    simp [hm] at hi
    subst hi
    exact ⟨p, hm, rfl⟩
theorem op_next {x : Operand} {it n0 : Nat} {seen : Array Nat} (hw : Region.wanted o (yielded ops a.tmps) = true) (hd : o.dst = some d) (hn : Nat.blt d n = true) (hr : RepD Df n (lk l j) a) (ho : o.op = .next x false) (hx : evE (lk l j) x = .pointer (some ⟨it, 0, none⟩)) (hn0 : n0 = m.length)
    (hF : Fit z (sepL (iterP it b n0 seen :: mapOf ek ev b m :: L)) w)
    (k0 : (∀ i, i < m.length → i ∈ seen.toList) → ∀ a, RepD Df n (lk ((d, .tuple #[.bool false]) :: l) j) a → wpList P ops Q rest a w)
    (k1 : ∀ i x w a, m[i]? = some x → i ∉ seen.toList → Fit z (sepL (iterP it b n0 (seen.push i) :: mapOf ek ev b m :: L)) w → RepD Df n (lk ((d, .tuple #[.bool true, .agg (ek x.1).toArray, .agg (ev x.2).toArray]) :: l) j) a → wpList P ops Q rest a w) : wpList P ops Q (o :: rest) a w := by
  subst hn0
  have hb1 : (getObj it).run P w = .ok (.mapIter (some b) m.length seen m.length) w := by simp [getObj, Sem.run, hF.block]
  have hb2 : (getObj b).run P w = .ok (.map (mapE ek ev m 0).toArray m.length) w := MapKept.run_getObj_map (hF.pick 1).block
  have hold : ∀ x ∈ (mapE ek ev m 0).toArray.toList, x.born < m.length := fun x hx => by
    obtain ⟨p, hp, _⟩ := mapE_mem (by simpa using hx)
    exact (List.getElem?_eq_some_iff.1 hp).1
  have htest := next_test_false seen (mapE ek ev m 0).toArray m.length m.length hold (Nat.le_refl _)
  have hset : ∀ (w : World) o', w.heap[it]? = some (.mapIter (some b) m.length seen m.length) → (setObj it o').run P w = .ok () { w with heap := w.heap.setIfInBounds it o' } := fun w o' h => by simp [setObj, Sem.run, h]
  have hmem : ∀ x ∈ (Array.filter (fun e => !seen.contains e.born) (mapE ek ev m 0).toArray).toList, x.born < m.length := fun x hx => hold x (by simp at hx ⊢; exact hx.1)
  have hsrc : ∀ x ∈ (Array.filter (fun e => !seen.contains e.born) (mapE ek ev m 0).toArray).toList, ∃ p, m[x.born]? = some p ∧ x.born ∉ seen.toList ∧ x = { key := .agg (ek p.1).toArray, val := .agg (ev p.2).toArray, born := x.born } := fun x hx => by
    simp at hx
    obtain ⟨p, h1, h2⟩ := mapE_mem hx.1
    exact ⟨p, h1, by simpa using hx.2, h2⟩
  have hall : (Array.filter (fun e => !seen.contains e.born) (mapE ek ev m 0).toArray).size = 0 → ∀ i, i < m.length → i ∈ seen.toList := by
    intro h0 i hi
    have h1 : Array.filter (fun e => !seen.contains e.born) (mapE ek ev m 0).toArray = #[] := Array.eq_empty_of_size_eq_zero h0
    rw [Array.filter_eq_empty_iff] at h1
    have h2 := h1 { key := .agg (ek m[i].1).toArray, val := .agg (ev m[i].2).toArray, born := i } (by
      have : (mapE ek ev m 0)[i]? = some { key := .agg (ek m[i].1).toArray, val := .agg (ev m[i].2).toArray, born := i } := by rw [mapE_get, List.getElem?_eq_getElem hi]; simp
      simpa using List.mem_of_getElem? this)
    simpa using h2
  have hrun : ∀ ty, (∃ i x w1, m[i]? = some x ∧ i ∉ seen.toList ∧ Fit z (sepL (iterP it b m.length (seen.push i) :: mapOf ek ev b m :: L)) w1 ∧ (Instr.next (.pointer (some ⟨it, 0, none⟩)) false ty).run P w = .ok (.tuple #[.bool true, .agg (ek x.1).toArray, .agg (ev x.2).toArray]) w1) ∨
      ((∀ i, i < m.length → i ∈ seen.toList) ∧ (Instr.next (.pointer (some ⟨it, 0, none⟩)) false ty).run P w = .ok (.tuple #[.bool false]) w) := by
    intro ty
    simp only [Instr.next, Sem.run_bind, hb1, hb2, Result.andThen_ok, htest, Bool.false_eq_true, if_false]
    generalize Array.filter (fun e => !seen.contains e.born) (mapE ek ev m 0).toArray = K at hmem hsrc hall ⊢
    have e1 : K.filter (fun x => decide (x.born < m.length)) = K := Array.filter_eq_self.2 (fun x hx => by simpa using hmem x (by simpa using hx))
    have e2 : K.filter (fun x => decide (x.born ≥ m.length)) = #[] := by
      rw [Array.filter_eq_empty_iff]
      intro x hx
      have := hmem x (by simpa using hx)
      simp
      omega
    simp only [e1, e2, Array.append_empty]
    by_cases h0 : K.size = 0
    · right
      have h1 : K = #[] := Array.eq_empty_of_size_eq_zero h0
      refine ⟨hall h0, ?_⟩
      subst h1
      simp [choose, Sem.run, Question.forced]
    · left
      have hne : K.isEmpty = false := by simp [Array.isEmpty, h0]
      simp only [hne, Bool.false_eq_true, if_false, Array.empty_append, Array.size_map]
      have hch : ∃ (q : Nat) (w1 : World), q < K.size ∧ (w1 = w ∨ w1 = w.drew) ∧ (choose (Question.mapNext K.size)).run P w = .ok q w1 := by
        by_cases hf : K.size ≤ 1
        · exact ⟨0, w, by omega, .inl rfl, by simp [choose, Sem.run, Question.forced, hf]⟩
        · exact ⟨_, w.drew, Nat.mod_lt _ (by omega), .inr rfl, by
            simp only [choose, Sem.run, Question.forced, decide_eq_true_eq, hf, if_false, Question.cut]
            rfl⟩
      obtain ⟨q, w1, hq, hw1, hrun⟩ := hch
      obtain ⟨p, hp1, hp2, hp3⟩ := hsrc K[q] (by simp)
      have hF1 : Fit z (sepL (iterP it b m.length seen :: mapOf ek ev b m :: L)) w1 := by
        rcases hw1 with rfl | rfl
        · exact hF
        · exact hF.drew
      refine ⟨K[q].born, p, _, hp1, hp2, fit_put (o' := .mapIter (some b) m.length (seen.push K[q].born) m.length) hF1, ?_⟩
      have hkey : K[q].key = .agg (ek p.1).toArray := by rw [hp3]
      have hval : K[q].val = .agg (ev p.2).toArray := by rw [hp3]
      simp only [hrun, Array.getElem?_map, Array.getElem?_eq_getElem hq, Option.map_some, Sem.run_bind, hset w1 _ hF1.block, Result.andThen_ok, hkey, hval]
      rfl
  refine step_on hw ?_
  unfold Oper.wp
  rcases hrun o.type with ⟨i, y, w1, h1, h2, h3, h4⟩ | ⟨h1, h4⟩
  · have h5 : (execOp (evE (lk l j)) o).run P w = .ok (.value (.tuple #[.bool true, .agg (ek y.1).toArray, .agg (ev y.2).toArray])) w1 := by
      unfold execOp
      simp [ho, hx, h4]
    rw [hr.eval, h5, Oper.upon_value, hd]
    exact k1 i y w1 _ h1 h2 h3 (hr.put d _ hn)
  · have h5 : (execOp (evE (lk l j)) o).run P w = .ok (.value (.tuple #[.bool false])) w := by
      unfold execOp
      simp [ho, hx, h4]
    rw [hr.eval, h5, Oper.upon_value, hd]
    exact k0 h1 _ (hr.put d _ hn)
theorem op_entry {x : Operand} {it n0 i : Nat} {seen : Array Nat} {p : α × β} (hw : Region.wanted o (yielded ops a.tmps) = true) (hd : o.dst = some d) (hn : Nat.blt d n = true) (hr : RepD Df n (lk l j) a) (ho : o.op = .entry x) (hx : evE (lk l j) x = .pointer (some ⟨it, 0, none⟩)) (hn0 : n0 = m.length)
    (hF : Fit z (sepL (iterP it b n0 (seen.push i) :: mapOf ek ev b m :: L)) w) (hp : m[i]? = some p)
    (k : ∀ a, RepD Df n (lk ((d, .tuple #[.agg (ek p.1).toArray, .agg (ev p.2).toArray]) :: l) j) a → wpList P ops Q rest a w) : wpList P ops Q (o :: rest) a w := by
  subst hn0
  have hb1 : (getObj it).run P w = .ok (.mapIter (some b) m.length (seen.push i) m.length) w := by simp [getObj, Sem.run, hF.block]
  have hb2 : (getObj b).run P w = .ok (.map (mapE ek ev m 0).toArray m.length) w := MapKept.run_getObj_map (hF.pick 1).block
  have hf : (mapE ek ev m 0).toArray.find? (·.born == i) = some { key := .agg (ek p.1).toArray, val := .agg (ev p.2).toArray, born := i } := by
    rw [← Array.find?_toList, List.toList_toArray]
    have hmem : { key := .agg (ek p.1).toArray, val := .agg (ev p.2).toArray, born := i } ∈ mapE ek ev m 0 := List.mem_of_getElem? (i := i) (by rw [mapE_get, hp]; simp)
    have hnd : ((mapE ek ev m 0).map (·.born)).Nodup := by
      have e : (mapE ek ev m 0).map (·.born) = List.range m.length := by
        apply List.ext_getElem?
        intro k
        rw [List.getElem?_map, mapE_get]
        by_cases c : k < m.length
        · simp [List.getElem?_eq_getElem c, List.getElem?_range c]
        · rw [List.getElem?_eq_none (by omega), List.getElem?_eq_none (by simpa using c)]; rfl
      rw [e]; exact List.nodup_range
    exact find_born _ _ hnd hmem
  refine op_valw hw hd hn hr (w1 := w) ?_ k
  unfold execOp
  have h : (Instr.entry (.pointer (some ⟨it, 0, none⟩))).run P w = .ok (.tuple #[.agg (ek p.1).toArray, .agg (ev p.2).toArray]) w := by
    simp only [Instr.entry, Sem.run_bind, hb1, hb2, Result.andThen_ok, Array.back?_push, bne_self_eq_false, Bool.false_eq_true, if_false, hf]
    rfl
  simp [ho, hx, h]
end
end Go.Proofs.YtpikpffbcjpmcaaGreatDoor.GX
