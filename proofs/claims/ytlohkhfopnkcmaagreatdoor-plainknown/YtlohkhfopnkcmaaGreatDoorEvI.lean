/- Operations whose order is drawn: the evaluator is right in every order; the evaluator is right. -/
import Derived.Test.YtlohkhfopnkcmaaGreatDoorEvH
import Derived.Test.YtlohkhfopnkcmaaGreatDoorEvA

/- Regions whose order is drawn: orders, and what a plan holds. -/
namespace Go.Ev
open Go

-- orders
inductive LinOk (ops : Array Oper) : Array Bool → List Nat → Prop
  | nil (listed : Array Bool) (h : Region.ready .any ops listed = []) : LinOk ops listed []
  | cons (listed : Array Bool) (i : Nat) (R : List Nat) (h : i ∈ Region.ready .any ops listed) (t : LinOk ops (listed.setIfInBounds i true) R) : LinOk ops listed (i :: R)

def free (listed : Array Bool) : Nat := (listed.toList.filter (! ·)).length
theorem free_set {listed : Array Bool} {i : Nat} (h : listed[i]? = some false) : free (listed.setIfInBounds i true) + 1 = free listed := by
  unfold free
  rw [Array.toList_setIfInBounds]
  have h' : listed.toList[i]? = some false := by simpa using h
  clear h
  generalize listed.toList = l at h' ⊢
  induction l generalizing i with
  | nil => simp at h'
  | cons x l ih =>
    cases i with
    | zero => simp at h'; subst h'; simp
    | succ i =>
      have := ih (i := i) (by simpa using h')
      simp only [List.set_cons_succ, List.filter_cons]
      split <;> simp_all
theorem free_zero {listed : Array Bool} (h : free listed = 0) (i : Nat) : listed.getD i true = true := by
  unfold free at h
  rw [List.length_eq_zero_iff, List.filter_eq_nil_iff] at h
  rw [Array.getD_eq_getD_getElem?]
  cases hi : listed[i]? with
  | none => rfl
  | some b =>
    have := h b (by rw [Array.mem_toList_iff]; exact Array.mem_of_getElem? hi)
    simpa using this
theorem ready_free {ops : Array Oper} {listed : Array Bool} {i : Nat} (h : i ∈ Region.ready .any ops listed) : listed[i]? = some false := by
  have := (mem_ready.1 h).1
  rw [Array.getD_eq_getD_getElem?] at this
  cases hi : listed[i]? with
  | none => rw [hi] at this; cases this
  | some b => rw [hi] at this; simp at this; rw [this]
theorem linearise_ok (ops : Array Oper) : ∀ (fuel t : Nat) (listed : Array Bool), free listed ≤ fuel → LinOk ops listed (Region.linearise.go .any ops fuel t listed []) := by
  intro fuel
  induction fuel with
  | zero =>
    intro t listed h
    have h0 : free listed = 0 := by omega
    refine .nil _ (List.eq_nil_iff_forall_not_mem.2 fun i hi => ?_)
    have := (mem_ready.1 hi).1
    rw [free_zero h0] at this
    cases this
  | succ fuel ih =>
    intro t listed h
    simp only [Region.linearise.go]
    change LinOk ops listed (match (Region.ready .any ops listed)[t % (Region.ready .any ops listed).length]? with
      | some i => Region.linearise.go .any ops fuel (t / (Region.ready .any ops listed).length) (listed.setIfInBounds i true) [i]
      | none => [].reverse)
    cases hi : (Region.ready .any ops listed)[t % (Region.ready .any ops listed).length]? with
    | none =>
      have hnil : Region.ready .any ops listed = [] := by
        cases hr : Region.ready .any ops listed with
        | nil => rfl
        | cons x xs =>
          rw [hr] at hi
          have hlt : t % (x :: xs).length < (x :: xs).length := Nat.mod_lt _ (by simp)
          simp at hi
          simp at hlt
          omega
      exact .nil _ hnil
    | some i =>
      simp only []
      rw [linearise_go_acc, List.reverse_singleton, List.singleton_append]
      have hm := List.mem_of_getElem? hi
      exact .cons _ _ _ hm (ih _ _ (by have := free_set (ready_free hm); omega))
theorem schedule_ok {P : Program} (hm : P.follows .mixedOrders = true) (ops : Array Oper) (t : Nat) : LinOk ops (Array.replicate ops.size false) (Region.schedule (P.follows .mixedOrders) ops t) := by
  simp only [Region.schedule, hm, Bool.true_or, if_true]
  refine linearise_ok ops _ _ _ ?_
  unfold free
  rw [Array.toList_replicate]
  exact Nat.le_trans (List.length_filter_le _ _) (by simp)

-- masks
theorem forceN_eq {α : Type} (n : Nat) (k : Nat → α) : forceN n k = k n := by cases n <;> rfl
noncomputable def msk (ops : Array Oper) (i : Nat) : Nat := mAt ops.size (masksN ops) i
theorem mask1_bits {n W j : Nat} : ∀ {l : List Edge}, Nat.testBit (mask1 n W l) j = true → ∃ e ∈ l, Region.binds .any e = true ∧ (j = e.on ∨ Nat.testBit (mAt n W e.on) j = true) := by
  intro l
  induction l with
  | nil => intro h; simp [mask1] at h
  | cons e l ih =>
    intro h
    have h1 : Nat.testBit (Bool.rec (mask1 n W l) (Nat.lor (Nat.lor (mask1 n W l) (Nat.pow 2 e.on)) (mAt n W e.on)) (Region.binds .any e)) j = true := h
    cases hb : Region.binds .any e
    · rw [hb] at h1
      obtain ⟨e', he, hh⟩ := ih h1
      exact ⟨e', by simp [he], hh⟩
    · rw [hb] at h1
      have h2 : ((mask1 n W l ||| 2 ^ e.on) ||| mAt n W e.on).testBit j = true := h1
      rw [Nat.testBit_or, Nat.testBit_or, Bool.or_eq_true, Bool.or_eq_true] at h2
      rcases h2 with (h2 | h2) | h2
      · obtain ⟨e', he, hh⟩ := ih h2
        exact ⟨e', by simp [he], hh⟩
      · rw [Nat.testBit_two_pow, decide_eq_true_eq] at h2
        exact ⟨e, by simp, hb, .inl h2.symm⟩
      · exact ⟨e, by simp, hb, .inr h2⟩
theorem bit_sub {E m : Nat} (h : Nat.beq (Nat.land E m) E = true) {j : Nat} (hj : Nat.testBit E j = true) : Nat.testBit m j = true := by
  have h1 : E &&& m = E := nbeq h
  rw [← h1, Nat.testBit_and, Bool.and_eq_true] at hj
  exact hj.2
theorem bit_sup {D m : Nat} (h : Nat.beq (Nat.land D m) m = true) {j : Nat} (hj : Nat.testBit m j = true) : Nat.testBit D j = true := by
  have h1 : D &&& m = m := nbeq h
  rw [← h1, Nat.testBit_and, Bool.and_eq_true] at hj
  exact hj.1
theorem namesB_bit {t : Nat} : ∀ {l : List Nat}, t ∈ l → Nat.testBit (namesB l) t = true := by
  intro l
  induction l with
  | nil => intro h; cases h
  | cons x l ih =>
    intro h
    show Nat.testBit (2 ^ x ||| namesB l) t = true
    rw [Nat.testBit_or, Bool.or_eq_true, Nat.testBit_two_pow, decide_eq_true_eq]
    rcases List.mem_cons.1 h with rfl | h
    · exact .inl rfl
    · exact .inr (ih h)

theorem allB_ok {α : Type} {p : α → Bool} : ∀ {l : List α}, allB p l = true → ∀ x ∈ l, p x = true := by
  intro l
  induction l with
  | nil => intro _ x hx; cases hx
  | cons y l ih =>
    intro h x hx
    have h1 : Bool.rec (motive := fun _ => Bool) false (allB p l) (p y) = true := h
    cases hp : p y
    · rw [hp] at h1; cases h1
    · rw [hp] at h1
      rcases List.mem_cons.1 hx with rfl | hx
      · exact hp
      · exact ih h1 x hx

/-- what a plan holds to -/
structure Tidy (ops : Array Oper) : Prop where
  back : ∀ (i : Nat) (o : Oper), ops[i]? = some o → ∀ e ∈ o.after, Region.binds .any e = true → e.on < i
  mask : ∀ (i : Nat) (o : Oper), ops[i]? = some o → ∀ j, Nat.testBit (msk ops i) j = true → ∃ e ∈ o.after, Region.binds .any e = true ∧ (j = e.on ∨ Nat.testBit (msk ops e.on) j = true)
  self : ∀ (i : Nat) (o : Oper), ops[i]? = some o → effB o.op = false → ∃ d, o.dst = some d ∧ d ∉ o.looksAt ops
  names : ∀ (q : Nat) (oq : Oper), ops[q]? = some oq → ∀ t ∈ namesO ops oq, ∀ (i : Nat) (o : Oper), ops[i]? = some o → o.dst = some t → i = q ∨ Nat.testBit (msk ops q) i = true ∨ (effB o.op = true ∧ Nat.testBit (msk ops i) q = true)
theorem plan_tidy {ops : Array Oper} {l : List PStep} (h : plan ops = some l) : Tidy ops ∧ planGo ops ops.size (masksN ops) (planOrder ops ops.size (masksN ops)) 0 0 0 [] = some l := by
  unfold plan at h
  rw [forceN_eq, forceN_eq] at h
  unfold planAt at h
  cases hb : (backOk ops.toList.zipIdx && (selfOk ops ops.toList.zipIdx && (maskOk ops.size (masksN ops) ops.toList.zipIdx && namesOk ops ops.size (masksN ops) ops.toList.zipIdx)))
  · rw [hb] at h; cases h
  rw [hb] at h
  refine ⟨?_, h⟩
  rw [Bool.and_eq_true, Bool.and_eq_true, Bool.and_eq_true] at hb
  obtain ⟨h1, h2, h3, h4⟩ := hb
  have mem : ∀ (i : Nat) (o : Oper), ops[i]? = some o → (o, i) ∈ ops.toList.zipIdx := fun i o h => by
    rw [List.mem_zipIdx_iff_getElem?]
    simpa using h
  refine ⟨fun i o ho e he hbd => ?_, fun i o ho j hj => ?_, fun i o ho hf => ?_, fun q oq hq t ht i o hi hd => ?_⟩
  · have := allB_ok (allB_ok h1 _ (mem i o ho)) e (by simpa using he)
    simp only [hbd, Bool.not_true, Bool.false_or] at this
    rw [Nat.blt_eq] at this
    exact this
  · have := allB_ok h3 _ (mem i o ho)
    simp only [forceN_eq] at this
    obtain ⟨e, he, hh⟩ := mask1_bits (bit_sub this hj)
    exact ⟨e, by simpa using he, hh⟩
  · have := allB_ok h2 _ (mem i o ho)
    simp only [hf, Bool.false_or] at this
    split at this
    · rename_i d hd
      exact ⟨d, hd, by simpa using this⟩
    · cases this
  · have := allB_ok h4 _ (mem q oq hq)
    simp only [forceN_eq] at this
    have := allB_ok this _ (mem i o hi)
    unfold writes1 at this
    simp only [hd] at this
    rw [namesB_bit ht] at this
    have this : (Nat.beq i q || (Nat.testBit (msk ops q) i || (effB o.op && Nat.testBit (msk ops i) q))) = true := this
    simp only [Bool.or_eq_true, Bool.and_eq_true] at this
    rcases this with h | h | h
    · exact .inl (nbeq h)
    · exact .inr (.inl h)
    · exact .inr (.inr h)
end Go.Ev

/- Regions whose order is drawn: operations that are done here already, and not yet there. -/
namespace Go.Ev
open Go

section
variable {P : Program}

/-- is an operation done? -/
def Wt (ops : Array Oper) (o : Oper) (fr : T AV) (b : Bool) : Prop := ∀ y n, wantedk ops o fr y n = if b then y else n
theorem wt_of {ops : Array Oper} {o : Oper} {fr : T AV} {y n : R} (e : wantedk ops o fr y n = .ok) : ∃ b, Wt ops o fr b ∧ (if b then y else n) = .ok := by
  have he : ∀ y n, wantedk ops o fr y n = Option.rec (motive := fun _ => R) y (fun g => guardk ops g fr y n) o.guard := fun _ _ => rfl
  cases hg : o.guard with
  | none => exact ⟨true, fun y n => by rw [he, hg]; rfl, by rw [he, hg] at e; exact e⟩
  | some g =>
    rw [he, hg] at e
    obtain ⟨d, hd, e1⟩ := optk_ok (show optk ((ops[g.1]?).bind (·.dst)) 241 (fun d => optk (T.get (adr d) fr) 242 fun v => guardV g.2 v y n) = .ok from e)
    obtain ⟨v, hv, e2⟩ := optk_ok e1
    have hw : ∀ y n, wantedk ops o fr y n = guardV g.2 v y n := fun y n => by
      rw [he, hg]
      show optk ((ops[g.1]?).bind (·.dst)) 241 (fun d => optk (T.get (adr d) fr) 242 fun v => guardV g.2 v y n) = _
      rw [hd]
      show optk (T.get (adr d) fr) 242 (fun v => guardV g.2 v y n) = _
      rw [hv]; rfl
    by_cases hb : ∃ b, v = .bool b
    · obtain ⟨b, rfl⟩ := hb
      have hw2 : ∀ y n, wantedk ops o fr y n = if (b == g.2) = true then y else n := fun y n => by
        rw [hw]; show ifk (b == g.2) y n = _; rw [ifk_eq]
      refine ⟨b == g.2, hw2, ?_⟩
      rw [← hw2, he, hg]; exact e
    · have hw2 : ∀ y n, wantedk ops o fr y n = ifk v.isUnk (.no 243) n := fun y n => by
        rw [hw]
        cases v <;> first | rfl | exact absurd ⟨_, rfl⟩ hb
      cases ht : v.isUnk
      · have hw3 : ∀ y n, wantedk ops o fr y n = n := fun y n => by rw [hw2, ht]; rfl
        refine ⟨false, hw3, ?_⟩
        have := hw3 y n
        rw [he, hg] at this
        exact this.symm.trans e
      · have := hw2 y n
        rw [he, hg, ht] at this
        exact (no_ok (this.symm.trans e)).elim
theorem Wt.same {ops : Array Oper} {o : Oper} {fr fr' : T AV} {b : Bool} (h : Wt ops o fr b) (hs : ∀ t ∈ o.looksAt ops, T.get (adr t) fr = T.get (adr t) fr') : Wt ops o fr' b := by
  intro y n
  rw [← h y n]
  have he : ∀ fr, wantedk ops o fr y n = Option.rec (motive := fun _ => R) y (fun g => guardk ops g fr y n) o.guard := fun _ => rfl
  rw [he, he]
  cases hg : o.guard with
  | none => rfl
  | some g =>
    show optk ((ops[g.1]?).bind (·.dst)) 241 (fun d => optk (T.get (adr d) fr') 242 fun v => guardV g.2 v y n) = optk ((ops[g.1]?).bind (·.dst)) 241 (fun d => optk (T.get (adr d) fr) 242 fun v => guardV g.2 v y n)
    cases hd : (ops[g.1]?).bind (·.dst) with
    | none => rfl
    | some d =>
      have := hs d (by
        obtain ⟨g1, g2⟩ := g
        simp [Oper.looksAt, hg, hd])
      show optk (T.get (adr d) fr') 242 _ = optk (T.get (adr d) fr) 242 _
      rw [this]
theorem Wt.wanted {ops : Array Oper} {o : Oper} {fr : T AV} {b : Bool} (h : Wt ops o fr b) {σ : Sg} {a : Act} (hg : GKnows σ ops fr a o) : Region.wanted o (yielded ops a.tmps) = b := by
  cases b
  · have e : wantedk ops o fr (.no 0) .ok = .ok := by rw [h]; rfl
    rcases wantedk_ok hg e with ⟨_, h2⟩ | ⟨h1, _⟩
    · cases h2
    · exact h1
  · have e : wantedk ops o fr .ok (.no 0) = .ok := by rw [h]; rfl
    rcases wantedk_ok hg e with ⟨h1, _⟩ | ⟨_, h2⟩
    · exact h1
    · cases h2

theorem sameAt_of {ops : Array Oper} {o : Oper} {fr fr' : T AV} (hs : ∀ t ∈ o.looksAt ops, T.get (adr t) fr = T.get (adr t) fr') : ∀ x ∈ o.op.operands, SameAt fr fr' x := by
  intro x hx t ht
  subst ht
  refine hs t (List.mem_append_left _ (List.mem_filterMap.2 ⟨.tmp t, by simpa using hx, rfl⟩))

/-- an operation that is done here and not yet there -/
inductive Pend (P : Program) (ops : Array Oper) (nx0 : Nat) (o : Oper) (a : Adr) (fr : T AV) (s : St) (σ : Sg) : Prop
  | skip (d : Tmp) (hd : o.dst = some d) (hf : effB o.op = false) (hW : Wt ops o fr false) (hg : T.get (adr d) fr = some (.tuple []))
  | val (d : Tmp) (v : AV) (hd : o.dst = some d) (hf : flB o.op = true) (hW : Wt ops o fr true) (hg : T.get (adr d) fr = some v) (he : ∀ k, execk o.op P fr s k = k (.val v) s)
  | row (d : Tmp) (el : TypeId) (cs : List AV) (mk : Adr → AV) (hd : o.dst = some d) (hf : alB o.op = true) (hW : Wt ops o fr true) (hg : T.get (adr d) fr = some (mk a)) (hA : AllocAt P o fr el cs mk)
      (hT : T.get a s.heap = some (.cells el false 0 cs)) (hx : a.nat < s.nx.nat) (h0 : nx0 ≤ a.nat) (hσ : σ a = .none)

theorem Form.keep {o : Oper} {F : T AV → St → (AV → R) → R} (h : Form P o F) {fr fr' : T AV} {s s' : St} {v : AV} (he : ∀ k, execk o.op P fr s k = k (.val v) s) (hs : ∀ x ∈ o.op.operands, SameAt fr fr' x) (hr : rdB o.op = false ∨ s = s') : ∀ k, execk o.op P fr' s' k = k (.val v) s' := by
  intro k
  have hF : F fr s = F fr' s' := by
    rw [h.same fr fr' s hs]
    rcases hr with hr | rfl
    · exact h.still hr _ _ _
    · rfl
  rw [h.eq, ← hF]
  have := he fun r _ => k r s'
  rw [h.eq] at this
  exact this

theorem Pend.move {ops : Array Oper} {nx0 : Nat} {o : Oper} {a : Adr} {fr fr' : T AV} {s s' : St} {σ σ' : Sg} (h : Pend P ops nx0 o a fr s σ) (hs : ∀ t ∈ namesO ops o, T.get (adr t) fr = T.get (adr t) fr')
    (hrow : a.nat < s.nx.nat → σ a = .none → nx0 ≤ a.nat → alB o.op = true → Wt ops o fr true → σ' a = .none ∧ T.get a s'.heap = T.get a s.heap) (hnx : s.nx.nat ≤ s'.nx.nat)
    (hread : s = s' ∨ rdB o.op = false ∨ ∀ d, o.dst = some d → Wt ops o fr' true → ∃ v, T.get (adr d) fr' = some v ∧ ∀ k, execk o.op P fr' s' k = k (.val v) s') : Pend P ops nx0 o a fr' s' σ' := by
  have hl : ∀ t ∈ o.looksAt ops, T.get (adr t) fr = T.get (adr t) fr' := fun t ht => hs t (List.mem_append_left _ ht)
  have hdd : ∀ d, o.dst = some d → T.get (adr d) fr = T.get (adr d) fr' := fun d hd => hs d (List.mem_append_right _ (by rw [hd]; simp))
  cases h with
  | skip d hd hf hW hg => exact .skip d hd hf (hW.same hl) ((hdd d hd).symm.trans hg)
  | val d v hd hf hW hg he =>
    have hW' := hW.same hl
    obtain ⟨F, hF⟩ := form_of (P := P) hf
    rcases hread with rfl | hr | hr
    · exact .val d v hd hf hW' ((hdd d hd).symm.trans hg) (hF.keep he (sameAt_of hl) (.inr rfl))
    · exact .val d v hd hf hW' ((hdd d hd).symm.trans hg) (hF.keep he (sameAt_of hl) (.inl hr))
    · obtain ⟨v', hg', he'⟩ := hr d hd hW'
      exact .val d v' hd hf hW' hg' he'
  | row d el cs mk hd hf hW hg hA hT hx h0 hσ =>
    obtain ⟨h1, h2⟩ := hrow hx hσ h0 hf hW
    exact .row d el cs mk hd hf (hW.same hl) ((hdd d hd).symm.trans hg) (hA.same hf (sameAt_of hl)) (h2.trans hT) (Nat.lt_of_lt_of_le hx hnx) h0 h1

/-- looked at again -/
theorem again1_ok {ops : Array Oper} {fr : T AV} {s : St} {o : Oper} {go : R} (hf : flB o.op = true) (e : again1 P ops fr s o go = .ok) : go = .ok ∧ ∀ d, o.dst = some d → Wt ops o fr true → ∃ v, T.get (adr d) fr = some v ∧ ∀ k, execk o.op P fr s k = k (.val v) s := by
  obtain ⟨d, hd, e1⟩ := optk_ok e
  obtain ⟨b, hW, e2⟩ := wt_of e1
  cases b
  · refine ⟨e2, fun d' hd' hW' => ?_⟩
    have h1 := hW .ok (.no 0)
    have h2 := hW' .ok (.no 0)
    rw [h1] at h2; cases h2
  · have e3 : execk o.op P fr s (fun r _ => againV d fr go r) = .ok := e2
    obtain ⟨F, hF⟩ := form_of (P := P) hf
    rw [hF.eq] at e3
    rcases hF.det fr s with ⟨v, hv⟩ | ⟨n, hn⟩
    · rw [hv] at e3
      obtain ⟨w, hw, e4⟩ := optk_ok (show optk (T.get (adr d) fr) 252 (fun w => ifk (AV.beqF 6 v w) go (.no 253)) = .ok from e3)
      obtain ⟨hb, e5⟩ := ifk_no e4
      have := beqF_ok 6 _ _ hb
      subst this
      refine ⟨e5, fun d' hd' _ => ?_⟩
      rw [hd] at hd'; cases hd'
      exact ⟨v, hw, fun k => by rw [hF.eq, hv]⟩
    · rw [hn] at e3; exact (no_ok e3).elim
theorem againk_ok {ops : Array Oper} {fr : T AV} {s : St} {k : R} : ∀ {l : List Nat}, (∀ q ∈ l, ∀ o, ops[q]? = some o → flB o.op = true) → againk P ops fr s l k = .ok →
    k = .ok ∧ ∀ q ∈ l, ∀ o, ops[q]? = some o → ∀ d, o.dst = some d → Wt ops o fr true → ∃ v, T.get (adr d) fr = some v ∧ ∀ k, execk o.op P fr s k = k (.val v) s := by
  intro l
  induction l with
  | nil => intro _ e; exact ⟨e, by simp⟩
  | cons q l ih =>
    intro hl e
    obtain ⟨o, ho, e1⟩ := optk_ok (show optk ops[q]? 250 (fun o => again1 P ops fr s o (againk P ops fr s l k)) = .ok from e)
    obtain ⟨e2, h1⟩ := again1_ok (hl q (by simp) o ho) e1
    obtain ⟨e3, h2⟩ := ih (fun q hq => hl q (by simp [hq])) e2
    refine ⟨e3, fun q' hq' o' ho' => ?_⟩
    rcases List.mem_cons.1 hq' with rfl | hq'
    · rw [ho] at ho'; cases ho'; exact h1
    · exact h2 q' hq' o' ho'

-- memory
theorem Ext.place {σ0 σ : Sg} {s0 s : St} {w0 w : World} (h : Ext σ0 s0 w0 σ s w) (hr0 : Rep P σ0 s0 w0) {a : Adr} (ha : σ a = .none) (h0 : s0.nx.nat ≤ a.nat) (l : Nat × Nat) (O : Obj) : Ext σ0 s0 w0 (σ.upd a (.at w.heap.size l.1 l.2)) s (w.push O) := by
  have hle := Sg.le_upd ha (.at w.heap.size l.1 l.2)
  have hsz : (w.push O).heap.size = w.heap.size + 1 := by simp [World.push]
  refine ⟨Sg.le_trans h.le hle, ?_, h.nx, ?_, ?_, ?_, h.os, h.output, h.tape, h.bd, ?_⟩
  · intro b hb e
    obtain ⟨h1, h2⟩ := h.none b hb e
    refine ⟨?_, h2⟩
    rw [Sg.upd_ne _ _ (fun hba => by subst hba; omega)]
    exact h1
  · rw [hsz]; have := h.size; omega
  · intro c hc hn
    rw [push_get_lt _ _ (Nat.lt_of_lt_of_le hc h.size)]
    exact h.frame c hc hn
  · intro b c sh sz e hc
    by_cases hb : b = a
    · subst hb
      rw [Sg.upd_self] at e; cases e
      have := h.size; omega
    · rw [Sg.upd_ne _ _ hb] at e
      exact h.range b c sh sz e hc
  · intro e
    obtain ⟨h1, h2⟩ := h.wl e
    refine ⟨h1, fun hb b hlt => ?_⟩
    obtain ⟨h3, h4⟩ := h2 hb b hlt
    refine ⟨h3, fun c sh sz e1 e2 => ?_⟩
    rw [← h4 c sh sz e1 e2]
    exact push_get_lt _ _ (Nat.lt_of_lt_of_le (hr0.lt _ _ _ _ e1) h.size)
theorem Ext.alloc {σ0 σ : Sg} {s0 s : St} {w0 w : World} (h : Ext σ0 s0 w0 σ s w) (hr0 : Rep P σ0 s0 w0) (_hr : Rep P σ s w) (o : AObj) : Ext σ0 s0 w0 σ (s.new o) w := by
  have hne : ∀ b : Adr, b.nat < s0.nx.nat → s.nx ≠ b := fun b hb hh => by subst hh; have := h.nx; omega
  refine ⟨h.le, ?_, ?_, h.size, h.frame, h.range, h.os, h.output, h.tape, h.bd, ?_⟩
  · intro b hb e
    obtain ⟨h1, h2⟩ := h.none b hb e
    exact ⟨h1, (T.get_set_ne _ (hne b hb) _).trans h2⟩
  · show s0.nx.nat ≤ (s.nx.succ).nat
    rw [Adr.nat_succ]; have := h.nx; omega
  · intro e
    obtain ⟨h1, h2⟩ := h.wl e
    refine ⟨h1, fun hb b hlt => ?_⟩
    obtain ⟨h3, h4⟩ := h2 hb b hlt
    exact ⟨(T.get_set_ne _ (hne b (Nat.lt_of_lt_of_le hlt hr0.bd)) _).trans h3, h4⟩
end
end Go.Ev

/- Regions whose order is drawn: what holds between. -/
namespace Go.Ev
open Go

theorem bit_or (D i j : Nat) : Nat.testBit (Nat.lor D (Nat.pow 2 i)) j = (Nat.testBit D j || decide (i = j)) := by
  show Nat.testBit (D ||| 2 ^ i) j = _
  rw [Nat.testBit_or, Nat.testBit_two_pow]
/-- a plan's first step -/
theorem planGo_cons {ops : Array Oper} {i : Nat} {is : List Nat} {D E M : Nat} {RD : List Nat} {l : List PStep} (h : planGo ops ops.size (masksN ops) (i :: is) D E M RD = some l) :
    ∃ o p l', l = p :: l' ∧ p.i = i ∧ ops[i]? = some o ∧ Nat.testBit D i = false ∧ (∀ j, Nat.testBit E j = true → Nat.testBit (msk ops i) j = true) ∧
      ((effB o.op = true ∧ planGo ops ops.size (masksN ops) is (Nat.lor D (Nat.pow 2 i)) (Nat.lor E (Nat.pow 2 i)) (Nat.lor M (msk ops i)) RD = some l' ∧ p.again = RD.filter fun q => !Nat.testBit (Nat.lor M (msk ops i)) q) ∨
       (effB o.op = false ∧ (∀ j, Nat.testBit (msk ops i) j = true → Nat.testBit D j = true) ∧
        ((alB o.op = true ∧ planGo ops ops.size (masksN ops) is (Nat.lor D (Nat.pow 2 i)) E M RD = some l' ∧ p.again = RD.filter fun q => !Nat.testBit M q) ∨
         (alB o.op = false ∧ planGo ops ops.size (masksN ops) is (Nat.lor D (Nat.pow 2 i)) E M (if rdB o.op then i :: RD else RD) = some l' ∧ p.again = [])))) := by
  have h1 : (Option.rec (motive := fun _ => Option (List PStep)) none (fun o =>
      forceN (msk ops i) fun m => forceN (Nat.lor D (Nat.pow 2 i)) fun D' => Bool.rec
          (Bool.rec
            (Bool.rec none
              (Bool.rec ((planGo ops ops.size (masksN ops) is D' E M (Bool.rec RD (i :: RD) (rdB o.op))).map (⟨i, []⟩ :: ·))
                ((planGo ops ops.size (masksN ops) is D' E M RD).map (⟨i, RD.filter fun q => !Nat.testBit M q⟩ :: ·)) (alB o.op))
              (Nat.beq (Nat.land D m) m))
            (forceN (Nat.lor E (Nat.pow 2 i)) fun E' => forceN (Nat.lor M m) fun M' => (planGo ops ops.size (masksN ops) is D' E' M' RD).map (⟨i, RD.filter fun q => !Nat.testBit M' q⟩ :: ·)) (effB o.op))
          none (Nat.testBit D i || !Nat.beq (Nat.land E m) E)) ops[i]?) = some l := h
  simp only [forceN_eq] at h1
  cases ho : ops[i]? with
  | none => rw [ho] at h1; cases h1
  | some o =>
    rw [ho] at h1
    cases hc : (Nat.testBit D i || !Nat.beq (Nat.land E (msk ops i)) E)
    · simp only [hc] at h1
      rw [Bool.or_eq_false_iff, Bool.not_eq_false'] at hc
      obtain ⟨hD, hE⟩ := hc
      cases he : effB o.op
      · simp only [he] at h1
        cases hm : Nat.beq (Nat.land D (msk ops i)) (msk ops i)
        · simp only [hm] at h1; cases h1
        · simp only [hm] at h1
          cases ha : alB o.op
          · simp only [ha] at h1
            obtain ⟨l', hl', rfl⟩ := Option.map_eq_some_iff.1 h1
            refine ⟨o, _, l', rfl, rfl, rfl, hD, fun j hj => bit_sub hE hj, .inr ⟨he, fun j hj => bit_sup hm hj, .inr ⟨ha, ?_, rfl⟩⟩⟩
            cases hr : rdB o.op <;> simp only [hr] at hl' <;> exact hl'
          · simp only [ha] at h1
            obtain ⟨l', hl', rfl⟩ := Option.map_eq_some_iff.1 h1
            exact ⟨o, _, l', rfl, rfl, rfl, hD, fun j hj => bit_sub hE hj, .inr ⟨he, fun j hj => bit_sup hm hj, .inl ⟨ha, hl', rfl⟩⟩⟩
      · simp only [he] at h1
        obtain ⟨l', hl', rfl⟩ := Option.map_eq_some_iff.1 h1
        exact ⟨o, _, l', rfl, rfl, rfl, hD, fun j hj => bit_sub hE hj, .inl ⟨he, hl', rfl⟩⟩
    · simp only [hc] at h1; cases h1
theorem planGo_nil {ops : Array Oper} {n W : Nat} {D E M : Nat} {RD : List Nat} {l : List PStep} (h : planGo ops n W [] D E M RD = some l) : l = [] ∧ ∀ i, i < ops.size → Nat.testBit D i = true := by
  have h1 : Bool.rec (motive := fun _ => Option (List PStep)) none (some []) (allB (Nat.testBit D) (List.range ops.size)) = some l := h
  cases ha : allB (Nat.testBit D) (List.range ops.size)
  · rw [ha] at h1; cases h1
  · rw [ha] at h1
    refine ⟨by cases h1; rfl, fun i hi => allB_ok ha i (by simpa using hi)⟩
theorem planGo_all {ops : Array Oper} : ∀ {order : List Nat} {D E M : Nat} {RD : List Nat} {l : List PStep}, planGo ops ops.size (masksN ops) order D E M RD = some l →
    (∀ i, i < ops.size → Nat.testBit D i = true ∨ i ∈ order) ∧ ∀ i ∈ order, ∀ j, Nat.testBit E j = true → Nat.testBit (msk ops i) j = true := by
  intro order
  induction order with
  | nil => intro D E M RD l h; exact ⟨fun i hi => .inl ((planGo_nil h).2 i hi), by simp⟩
  | cons x order ih =>
    intro D E M RD l h
    obtain ⟨o, p, l', rfl, hp, ho, hD, hE, hcase⟩ := planGo_cons h
    have grow : ∀ {D' E' M' RD'}, planGo ops ops.size (masksN ops) order (Nat.lor D (Nat.pow 2 x)) E' M' RD' = some l' → (∀ j, Nat.testBit E j = true → Nat.testBit E' j = true) → D' = Nat.lor D (Nat.pow 2 x) →
        (∀ i, i < ops.size → Nat.testBit D i = true ∨ i ∈ x :: order) ∧ ∀ i ∈ x :: order, ∀ j, Nat.testBit E j = true → Nat.testBit (msk ops i) j = true := fun {D' E' M' RD'} h' hEE _ => by
      obtain ⟨h1, h2⟩ := ih h'
      refine ⟨fun i hi => ?_, fun i hi j hj => ?_⟩
      · rcases h1 i hi with h1 | h1
        · rw [bit_or, Bool.or_eq_true, decide_eq_true_eq] at h1
          rcases h1 with h1 | rfl
          · exact .inl h1
          · exact .inr (by simp)
        · exact .inr (by simp [h1])
      · rcases List.mem_cons.1 hi with rfl | hi
        · exact hE j hj
        · exact h2 i hi j (hEE j hj)
    rcases hcase with ⟨_, h', _⟩ | ⟨_, _, ⟨_, h', _⟩ | ⟨_, h', _⟩⟩
    · exact grow h' (fun j hj => by rw [bit_or, hj]; rfl) rfl
    · exact grow h' (fun j hj => hj) rfl
    · exact grow h' (fun j hj => hj) rfl

theorem set_true {listed : Array Bool} {i : Nat} (hi : i < listed.size) (j : Nat) : (listed.setIfInBounds i true).getD j false = (listed.getD j false || decide (i = j)) := by
  by_cases h : i = j
  · subst h; simp [hi]
  · rw [getD_set_ne false h]; simp [h]
theorem put_get (a : Act) {d : Tmp} (hd : d < a.tmps.size) (x : Value) (t : Tmp) : (a.put (some d) x).tmps.getD t undef = if d = t then x else a.tmps.getD t undef := by
  show (a.tmps.setIfInBounds d x).getD t undef = _
  by_cases h : d = t
  · subst h; simp [Array.getD, hd]
  · rw [if_neg h]
    simp only [Array.getD_eq_getD_getElem?, Array.getElem?_setIfInBounds_ne h]
theorem put_size (a : Act) (dst : Option Tmp) (x : Value) : (a.put dst x).tmps.size = a.tmps.size := by cases dst <;> simp [Act.put]

section
variable {P : Program} {X : FuncId → Option Hook} {r : Rec}

/-- what holds between -/
structure Inv (P : Program) (ops : Array Oper) (base : List Frame) (b : Frame) (n : Nat) (σ0 : Sg) (s0 : St) (w0 : World) (D : Nat) (listed : Array Bool) (ad : Nat → Adr) (fr : T AV) (ds : List ADef) (up : Up) (s : St) (σ : Sg) (w : World) (a : Act) (cs : List Frame) : Prop where
  did : Did2 P σ0 s0 w0 σ s w
  defs : DefsRel σ ds a.defers
  up : UpRel σ base up b.kind b.roundOf cs
  size : a.tmps.size = n
  lsz : listed.size = ops.size
  cd : ∀ i, listed.getD i false = true → Nat.testBit D i = true
  dlt : ∀ i, Nat.testBit D i = true → i < ops.size
  closed : ∀ i, listed.getD i false = true → ∀ j, Nat.testBit (msk ops i) j = true → listed.getD j false = true
  dcl : ∀ i, Nat.testBit D i = true → ∀ j, Nat.testBit (msk ops i) j = true → Nat.testBit D j = true
  eff : ∀ (i : Nat) (o : Oper), ops[i]? = some o → Nat.testBit D i = true → effB o.op = true → listed.getD i false = true
  pend : ∀ (i : Nat) (o : Oper), ops[i]? = some o → Nat.testBit D i = true → listed.getD i false = false → Pend P ops s0.nx.nat o (ad i) fr s σ
  inj : ∀ (i j : Nat) (oi oj : Oper), ops[i]? = some oi → ops[j]? = some oj → Nat.testBit D i = true → listed.getD i false = false → Nat.testBit D j = true → listed.getD j false = false → alB oi.op = true → alB oj.op = true →
    Wt ops oi fr true → Wt ops oj fr true → ad i = ad j → i = j
  fk : ∀ t v, T.get (adr t) fr = some v → (∀ (i : Nat) (o : Oper), ops[i]? = some o → Nat.testBit D i = true → listed.getD i false = false → o.dst ≠ some t) → RelV σ v (a.tmps.getD t undef)

/-- what a plan knows -/
structure Pl (ops : Array Oper) (D : Nat) (listed : Array Bool) (E M : Nat) (RD : List Nat) : Prop where
  e : ∀ (i : Nat) (o : Oper), ops[i]? = some o → Nat.testBit D i = true → effB o.op = true → Nat.testBit E i = true
  m : ∀ j, Nat.testBit M j = true → listed.getD j false = true
  rd : ∀ (q : Nat) (o : Oper), ops[q]? = some o → Nat.testBit D q = true → flB o.op = true → rdB o.op = true → q ∈ RD
  rdf : ∀ q ∈ RD, ∀ o : Oper, ops[q]? = some o → flB o.op = true

section
variable {ops : Array Oper} {base : List Frame} {b : Frame} {n : Nat} {σ0 : Sg} {s0 : St} {w0 : World} {D : Nat} {listed : Array Bool} {ad : Nat → Adr} {fr : T AV} {ds : List ADef} {up : Up} {s : St} {σ : Sg} {w : World} {a : Act} {cs : List Frame}

theorem ready_mask (hT : Tidy ops) (hI : Inv P ops base b n σ0 s0 w0 D listed ad fr ds up s σ w a cs) {i : Nat} (hi : i ∈ Region.ready .any ops listed) : ∀ j, Nat.testBit (msk ops i) j = true → listed.getD j false = true := by
  intro j hj
  obtain ⟨_, o, ho, hall⟩ := mem_ready.1 hi
  obtain ⟨e, he, hb, hj'⟩ := hT.mask i o ho j hj
  have hl := hall e he hb
  rcases hj' with rfl | hj'
  · exact hl
  · exact hI.closed _ hl _ hj'
theorem looks_known (hT : Tidy ops) (hI : Inv P ops base b n σ0 s0 w0 D listed ad fr ds up s σ w a cs) {i : Nat} {o : Oper} (ho : ops[i]? = some o) (hm : ∀ j, Nat.testBit (msk ops i) j = true → listed.getD j false = true) {t : Tmp} (ht : t ∈ o.looksAt ops) :
    ∀ (q : Nat) (oq : Oper), ops[q]? = some oq → Nat.testBit D q = true → listed.getD q false = false → oq.dst ≠ some t := by
  intro q oq hq hD hl hd
  have hnl : ∀ {x : Bool}, listed.getD q false = true → x = true := fun h => by rw [hl] at h; cases h
  rcases hT.names i o ho t (List.mem_append_left _ ht) q oq hq hd with rfl | hmq | ⟨he, _⟩
  · rw [ho] at hq; cases hq
    cases he : effB o.op
    · obtain ⟨d, hd', hn⟩ := hT.self _ _ ho he
      rw [hd] at hd'; cases hd'
      exact hn ht
    · have := hI.eff _ _ ho hD he
      rw [hl] at this; cases this
  · have := hm q hmq
    rw [hl] at this; cases this
  · have := hI.eff _ _ hq hD he
    rw [hl] at this; cases this
theorem knows_of (hT : Tidy ops) (hI : Inv P ops base b n σ0 s0 w0 D listed ad fr ds up s σ w a cs) {i : Nat} {o : Oper} (ho : ops[i]? = some o) (hm : ∀ j, Nat.testBit (msk ops i) j = true → listed.getD j false = true) : ∀ x ∈ o.op.operands, Knows σ fr a x := by
  intro x hx t ht v hv
  subst ht
  exact hI.fk t v hv (looks_known hT hI ho hm (List.mem_append_left _ (List.mem_filterMap.2 ⟨.tmp t, by simpa using hx, rfl⟩)))
theorem gknows_of (hT : Tidy ops) (hI : Inv P ops base b n σ0 s0 w0 D listed ad fr ds up s σ w a cs) {i : Nat} {o : Oper} (ho : ops[i]? = some o) (hm : ∀ j, Nat.testBit (msk ops i) j = true → listed.getD j false = true) : GKnows σ ops fr a o := by
  intro g d hg hd v hv
  refine hI.fk d v hv (looks_known hT hI ho hm ?_)
  obtain ⟨g1, g2⟩ := g
  simp [Oper.looksAt, hg, hd]

theorem on_op_val' {K : List Item} {w' : World} {i : Nat} {rest : List Nat} {o : Oper} {x : Value} (ho : ops[i]? = some o) (hw : Region.wanted o (yielded ops a.tmps) = true) (hd : ∀ c, o.op ≠ .defer c)
    (hrun : (execOp a.eval o).run P w = .ok (.value x) w') :
    step P (lone (b.on a (.inRegion ops (i :: rest) :: K)) cs w) = .next (lone (b.on (a.put o.dst x) (.inRegion ops rest :: K)) cs w') := by
  have hfin : (b.on a (.inRegion ops (i :: rest) :: K)).finish x = b.on (a.put o.dst x) (.inRegion ops rest :: K) := by rw [Frame.finish_on, ho]; rfl
  rw [← hfin]
  exact step_lone_go (by rw [stepG_on ho hw (.inr hd)]; simp [stepG.apply, hrun])

theorem valB_of {o : Op} (h : flB o = true) : valB P o = true := by
  cases o <;> first | rfl | (cases h; done) | skip
  case call c =>
    obtain ⟨callee, args, ts⟩ := c
    cases callee <;> first | (cases h; done) | skip
    case builtin bi => cases bi <;> first | rfl | (cases h; done)
theorem not_defer {o : Op} (h : effB o = false) : ∀ c, o ≠ .defer c := by
  intro c hc; subst hc; cases h

/-- an operation that is done here is done there -/
theorem settle (hP : Fit P) (hT : Tidy ops) (hlt : ∀ (i : Nat) (o : Oper), ops[i]? = some o → ∀ d, o.dst = some d → d < n) (hr0 : Rep P σ0 s0 w0) (hI : Inv P ops base b n σ0 s0 w0 D listed ad fr ds up s σ w a cs) {i : Nat} (hi : i ∈ Region.ready .any ops listed)
    (hD : Nat.testBit D i = true) {R : List Nat} {K : List Item} :
    ∃ σ' w' a', step P (lone (b.on a (.inRegion ops (i :: R) :: K)) cs w) = .next (lone (b.on a' (.inRegion ops R :: K)) cs w') ∧ Inv P ops base b n σ0 s0 w0 D (listed.setIfInBounds i true) ad fr ds up s σ' w' a' cs := by
  obtain ⟨hli0, o, ho, _⟩ := mem_ready.1 hi
  have hilt : i < listed.size := by rw [hI.lsz]; exact hI.dlt i hD
  have hli : listed.getD i false = false := by
    rw [Array.getD_eq_getD_getElem?] at hli0 ⊢
    rw [Array.getElem?_eq_getElem hilt] at hli0 ⊢
    exact hli0
  have hm := ready_mask hT hI hi
  have hkn := knows_of hT hI ho hm
  have hgk := gknows_of hT hI ho hm
  have hset := set_true (listed := listed) hilt
  have hp := hI.pend i o ho hD hli
  -- what is common
  have fin : ∀ {σ' : Sg} {w' : World} {x : Value} {d : Tmp} {v : AV}, σ.le σ' → Did2 P σ0 s0 w0 σ' s w' → o.dst = some d → T.get (adr d) fr = some v → RelV σ' v x →
      (∀ (j : Nat) (oj : Oper), ops[j]? = some oj → Nat.testBit D j = true → listed.getD j false = false → j ≠ i → alB oj.op = true → Wt ops oj fr true → σ (ad j) = .none → (ad j).nat < s.nx.nat → σ' (ad j) = .none) →
      Inv P ops base b n σ0 s0 w0 D (listed.setIfInBounds i true) ad fr ds up s σ' w' (a.put o.dst x) cs := fun {σ' w' x d v} hle hdid hd hv hrel hrow => by
    have pendsub : ∀ {j : Nat}, (listed.setIfInBounds i true).getD j false = false → listed.getD j false = false ∧ j ≠ i := fun {j} h => by
      rw [hset, Bool.or_eq_false_iff, decide_eq_false_iff_not] at h
      exact ⟨h.1, fun hh => h.2 hh.symm⟩
    refine ⟨hdid, by rw [put_defers]; exact hI.defs.mono hle, hI.up.mono hle, by rw [put_size]; exact hI.size, by simpa using hI.lsz, ?_, hI.dlt, ?_, hI.dcl, ?_, ?_, ?_, ?_⟩
    · intro j hj
      rw [hset, Bool.or_eq_true, decide_eq_true_eq] at hj
      rcases hj with hj | rfl
      · exact hI.cd j hj
      · exact hD
    · intro j hj q hq
      rw [hset, Bool.or_eq_true, decide_eq_true_eq] at hj
      rw [hset, Bool.or_eq_true]
      rcases hj with hj | rfl
      · exact .inl (hI.closed j hj q hq)
      · exact .inl (hm q hq)
    · intro j oj hj hDj he
      rw [hset, Bool.or_eq_true]
      exact .inl (hI.eff j oj hj hDj he)
    · intro j oj hj hDj hlj
      obtain ⟨h1, h2⟩ := pendsub hlj
      exact (hI.pend j oj hj hDj h1).move (fun _ _ => rfl) (fun hx hσ _ hal hW => ⟨hrow j oj hj hDj h1 h2 hal hW hσ hx, rfl⟩) (Nat.le_refl _) (.inl rfl)
    · intro j q oj oq hj hq hDj hlj hDq hlq
      exact hI.inj j q oj oq hj hq hDj (pendsub hlj).1 hDq (pendsub hlq).1
    · intro t u hu hno
      have hds : d < a.tmps.size := by rw [hI.size]; exact hlt i o ho d hd
      rw [hd, put_get a hds]
      by_cases ht : d = t
      · subst ht
        rw [if_pos rfl]
        rw [hv] at hu; cases hu
        exact hrel
      · rw [if_neg ht]
        refine (hI.fk t u hu fun q oq hq hDq hlq hdq => ?_).mono hle
        by_cases hqi : q = i
        · subst hqi
          rw [ho] at hq; cases hq
          rw [hd] at hdq; cases hdq
          exact ht rfl
        · exact hno q oq hq hDq (by rw [hset, hlq]; simp; exact fun hh => hqi hh.symm) hdq
  cases hp with
  | skip d hd hf hW hg =>
    have hw := hW.wanted hgk
    refine ⟨σ, w, a.put o.dst undef, ?_, fin σ.le_refl hI.did hd hg (.tuple _ _ .nil) fun _ _ _ _ _ _ _ _ h _ => h⟩
    have := on_op_skip (P := P) (b := b) (a := a) (k := K) (cs := cs) (w := w) (ops := ops) (i := i) (rest := R) (by rw [ho]; simpa using hw)
    rw [ho] at this
    exact this
  | val d v hd hf hW hg he =>
    have hw := hW.wanted hgk
    classical
    have e : execk o.op P fr s (fun r _ => if r = .val v then .ok else .no 0) = .ok := by rw [he]; exact if_pos rfl
    obtain ⟨v', x, e1, hrel, hrun⟩ := valk_ok (A := a) hP hI.did.1.toRepC o (valB_of hf) hkn e
    have hv : v' = v := by
      by_cases hc : (ARes.val v') = .val v
      · injection hc
      · simp only [if_neg hc] at e1; cases e1
    subst hv
    have hef : effB o.op = false := by unfold effB; rw [hf]; rfl
    exact ⟨σ, w, a.put o.dst x, on_op_val' ho hw (not_defer hef) hrun, fin σ.le_refl hI.did hd hg hrel fun _ _ _ _ _ _ _ _ h _ => h⟩
  | row d el cs' mk hd hf hW hg hA hT' hx h0 hσ =>
    have hw := hW.wanted hgk
    obtain ⟨cells, x, hcells, hrun, hval⟩ := alloc_run hP hf hA hI.did.1 hkn
    have hef : effB o.op = false := by unfold effB; rw [hf]; simp
    have hcl : cs'.length = cells.size := by rw [hcells.length]; simp
    have hle := Sg.le_upd hσ (.at w.heap.size 0 cells.size)
    have hrelO : RelO (σ.upd (ad i) (.at w.heap.size 0 cells.size)) (.cells el false 0 cs') 0 cells.size (.cells cells el) := by
      refine .cells _ _ _ _ _ _ _ _ rfl (by omega) (fun _ => ⟨rfl, hcl⟩) ?_ (fun _ => rfl) (fun o _ h2 => by simp at h2) (fun _ => by simp)
      have : ((cells.toList.drop 0).take cs'.length) = cells.toList := by rw [List.drop_zero, List.take_of_length_le (by simp; omega)]
      rw [this]
      exact hcells.mono hle
    have hrep := hI.did.1.place hσ hx hT' hrelO
    have hext := hI.did.2.place hr0 hσ h0 (0, cells.size) (.cells cells el)
    refine ⟨_, _, a.put o.dst x, on_op_val' ho hw (not_defer hef) hrun, fin hle ⟨hrep, hext⟩ hd hg (hval _ _ (Sg.upd_self _ _ _)) fun j oj hj hDj hlj hne hal hWj hσj hxj => ?_⟩
    rw [Sg.upd_ne]
    · exact hσj
    · intro hh
      exact hne (hI.inj j i oj o hj ho hDj hlj hD hli hal hf hWj hW hh)
end
end
end Go.Ev

/- Regions whose order is drawn: steps. -/
namespace Go.Ev
open Go

theorem wt_not {ops : Array Oper} {o : Oper} {fr : T AV} (h1 : Wt ops o fr true) (h2 : Wt ops o fr false) : False := by
  have := (h1 .ok (.no 0)).symm.trans (h2 .ok (.no 0))
  cases this
theorem fl_not_al {o : Op} (h : flB o = true) : alB o = false := by cases o <;> first | rfl | (cases h; done)
theorem rd_fl {o : Op} (h : rdB o = true) : flB o = true := by
  cases o <;> first | rfl | (cases h; done) | skip
  case call c =>
    obtain ⟨callee, args, ts⟩ := c
    cases callee <;> first | (cases h; done) | skip
    case builtin bi => cases bi <;> first | rfl | (cases h; done)
theorem eff_split {o : Op} (h : effB o = false) : flB o = true ∨ alB o = true := by
  unfold effB at h
  cases h1 : flB o
  · cases h2 : alB o
    · rw [h1, h2] at h; cases h
    · exact .inr rfl
  · exact .inl rfl
theorem topsk_get {k : T AV → R} : ∀ {l : List Tmp} {fr : T AV}, topsk l fr k = .ok → ∃ fr', k fr' = .ok ∧ ∀ t, T.get (adr t) fr' = some .top ∨ (t ∉ l ∧ T.get (adr t) fr' = T.get (adr t) fr) := by
  intro l
  induction l with
  | nil => intro fr e; exact ⟨fr, e, fun t => .inr ⟨by simp, rfl⟩⟩
  | cons d l ih =>
    intro fr e
    have e1 : T.setk (adr d) (some .top) fr (fun fr => topsk l fr k) = .ok := e
    rw [T.setk_eq] at e1
    obtain ⟨fr', e2, h⟩ := ih e1
    refine ⟨fr', e2, fun t => ?_⟩
    rcases h t with h | ⟨h1, h2⟩
    · exact .inl h
    · by_cases hd : d = t
      · subst hd; rw [T.get_set_self] at h2; exact .inl h2
      · rw [T.get_set_ne _ (fun hh => hd (adr_inj hh))] at h2
        exact .inr ⟨by simp [h1]; exact fun hh => hd hh.symm, h2⟩
/-- a value laid into a frame -/
theorem putk_get {dst : Option Tmp} {v : AV} {fr : T AV} {k : T AV → R} (e : putk dst v fr k = .ok) : ∃ fr', k fr' = .ok ∧ (∀ t, dst ≠ some t → T.get (adr t) fr' = T.get (adr t) fr) ∧ ∀ d, dst = some d → T.get (adr d) fr' = some v := by
  cases dst with
  | none => exact ⟨fr, e, fun _ _ => rfl, fun _ h => by cases h⟩
  | some d =>
    have e1 : T.setk (adr d) (some v) fr k = .ok := e
    rw [T.setk_eq] at e1
    refine ⟨_, e1, fun t ht => T.get_set_ne _ (fun hh => ht (by rw [adr_inj hh])) _, fun d' hd' => ?_⟩
    cases hd'
    exact T.get_set_self _ _ _
theorem put_get' (a : Act) {dst : Option Tmp} (hd : ∀ d, dst = some d → d < a.tmps.size) (x : Value) (t : Tmp) : (dst = some t ∧ (a.put dst x).tmps.getD t undef = x) ∨ (dst ≠ some t ∧ (a.put dst x).tmps.getD t undef = a.tmps.getD t undef) := by
  cases dst with
  | none => exact .inr ⟨by simp, rfl⟩
  | some d =>
    rw [put_get a (hd d rfl)]
    by_cases h : d = t
    · subst h; exact .inl ⟨rfl, by simp⟩
    · exact .inr ⟨by simpa using h, by simp [h]⟩

section
variable {P : Program} {X : FuncId → Option Hook} {r : Rec}
variable {ops : Array Oper} {base : List Frame} {b : Frame} {n : Nat} {σ0 : Sg} {s0 : St} {w0 : World} {D : Nat} {listed : Array Bool} {ad : Nat → Adr} {fr : T AV} {ds : List ADef} {up : Up} {s : St} {σ : Sg} {w : World} {a : Act} {cs : List Frame}
variable {E M : Nat} {RD : List Nat}

theorem drawnL_cons {p : PStep} {l : List PStep} {o : Oper} (ho : ops[p.i]? = some o) {cx : Cx} {k : KE} (e : drawnL (p :: l) P X r ops cx s k = .ok) :
    wantedk ops o cx.fr (opRun P X r o cx s (fun cx s => againk P ops cx.fr s p.again (drawnL l P X r ops cx s k)) (kmask ops k)) (skipRun o cx s fun cx s => drawnL l P X r ops cx s k) = .ok := by
  have e1 : optk ops[p.i]? 255 (fun o => drawn1 P X r ops p o cx s (fun cx s => drawnL l P X r ops cx s k) k) = .ok := e
  rw [ho] at e1
  exact e1

/-- an operation that is done here, and not yet there -/
theorem early (_hP : Fit P) (hT : Tidy ops) (hr0 : Rep P σ0 s0 w0) (hI : Inv P ops base b n σ0 s0 w0 D listed ad fr ds up s σ w a cs) (hPl : Pl ops D listed E M RD) {j : Nat} {order : List Nat} {l : List PStep}
    (hplan : planGo ops ops.size (masksN ops) (j :: order) D E M RD = some l) (hef : ∀ o, ops[j]? = some o → effB o.op = false) {k : KE} (e : drawnL l P X r ops ⟨fr, n, ds, up⟩ s k = .ok) :
    ∃ E' M' RD' l' ad' fr' s', planGo ops ops.size (masksN ops) order (Nat.lor D (Nat.pow 2 j)) E' M' RD' = some l' ∧ Pl ops (Nat.lor D (Nat.pow 2 j)) listed E' M' RD' ∧
      Inv P ops base b n σ0 s0 w0 (Nat.lor D (Nat.pow 2 j)) listed ad' fr' ds up s' σ w a cs ∧ drawnL l' P X r ops ⟨fr', n, ds, up⟩ s' k = .ok := by
  obtain ⟨o, p, l', rfl, hpi, ho, hD, _, hcase⟩ := planGo_cons hplan
  have he0 := hef o ho
  obtain ⟨d, hd, hself⟩ := hT.self j o ho he0
  have hjl : j < ops.size := (Array.getElem?_eq_some_iff.1 ho).1
  have hlj : listed.getD j false = false := by
    cases h : listed.getD j false
    · rfl
    · have := hI.cd j h; rw [hD] at this; cases this
  obtain ⟨_, hmask, hcase⟩ : effB o.op = false ∧ (∀ q, Nat.testBit (msk ops j) q = true → Nat.testBit D q = true) ∧ _ := by
    rcases hcase with ⟨h, _⟩ | h
    · rw [he0] at h; cases h
    · exact h
  have e1 := drawnL_cons (by rw [hpi]; exact ho) e
  -- others do not name what is laid
  have apart : ∀ (q : Nat) (oq : Oper), ops[q]? = some oq → Nat.testBit D q = true → ∀ t ∈ namesO ops oq, o.dst ≠ some t := fun q oq hq hDq t ht hdt => by
    rcases hT.names q oq hq t ht j o ho hdt with rfl | h | ⟨h, _⟩
    · rw [hD] at hDq; cases hDq
    · have := hI.dcl q hDq j h
      rw [hD] at this; cases this
    · rw [he0] at h; cases h
  have fin : ∀ {v : AV} {fr' : T AV} {s' : St} {adj : Adr}, (∀ t, o.dst ≠ some t → T.get (adr t) fr' = T.get (adr t) fr) → Did2 P σ0 s0 w0 σ s' w → s.nx.nat ≤ s'.nx.nat → (∀ x : Adr, x.nat < s.nx.nat → T.get x s'.heap = T.get x s.heap) →
      Pend P ops s0.nx.nat o adj fr' s' σ → (alB o.op = true → Wt ops o fr' true → s.nx.nat ≤ adj.nat) →
      (s = s' ∨ ∀ (q : Nat) (oq : Oper), ops[q]? = some oq → Nat.testBit D q = true → listed.getD q false = false → rdB oq.op = true → ∀ d, oq.dst = some d → Wt ops oq fr' true → ∃ v, T.get (adr d) fr' = some v ∧ ∀ k, execk oq.op P fr' s' k = k (.val v) s') →
      Inv P ops base b n σ0 s0 w0 (Nat.lor D (Nat.pow 2 j)) listed (fun q => if q = j then adj else ad q) fr' ds up s' σ w a cs := fun {v fr' s' adj} hfr hdid hnx hheap hp hadj hread => by
    have hsame : ∀ (q : Nat) (oq : Oper), ops[q]? = some oq → Nat.testBit D q = true → ∀ t ∈ namesO ops oq, T.get (adr t) fr = T.get (adr t) fr' := fun q oq hq hDq t ht => (hfr t (apart q oq hq hDq t ht)).symm
    have hother : ∀ (q : Nat), Nat.testBit (Nat.lor D (Nat.pow 2 j)) q = true → q ≠ j → Nat.testBit D q = true := fun q h hne => by
      rw [bit_or, Bool.or_eq_true, decide_eq_true_eq] at h
      exact h.resolve_right fun hh => hne hh.symm
    have hwback : ∀ (q : Nat) (oq : Oper), ops[q]? = some oq → Nat.testBit D q = true → Wt ops oq fr' true → Wt ops oq fr true := fun q oq hq hDq hW => hW.same fun t ht => (hsame q oq hq hDq t (List.mem_append_left _ ht)).symm
    have hrowlt : ∀ (q : Nat) (oq : Oper), ops[q]? = some oq → Nat.testBit D q = true → listed.getD q false = false → alB oq.op = true → Wt ops oq fr' true → (ad q).nat < s.nx.nat := fun q oq hq hDq hlq hal hW => by
      have hW' := hwback q oq hq hDq hW
      cases hI.pend q oq hq hDq hlq with
      | skip _ _ _ h _ => exact (wt_not hW' h).elim
      | val _ _ _ h _ _ _ => rw [fl_not_al h] at hal; cases hal
      | row _ _ _ _ _ _ _ _ _ _ hx _ _ => exact hx
    refine ⟨hdid, hI.defs, hI.up, hI.size, hI.lsz, ?_, ?_, hI.closed, ?_, ?_, ?_, ?_, ?_⟩
    · intro q hq; rw [bit_or, hI.cd q hq]; rfl
    · intro q hq
      by_cases hqj : q = j
      · subst hqj; exact hjl
      · exact hI.dlt q (hother q hq hqj)
    · intro q hq x hx
      rw [bit_or, Bool.or_eq_true]
      by_cases hqj : q = j
      · subst hqj; exact .inl (hmask x hx)
      · exact .inl (hI.dcl q (hother q hq hqj) x hx)
    · intro q oq hq hDq hee
      by_cases hqj : q = j
      · subst hqj; rw [ho] at hq; cases hq; rw [he0] at hee; cases hee
      · exact hI.eff q oq hq (hother q hDq hqj) hee
    · intro q oq hq hDq hlq
      by_cases hqj : q = j
      · subst hqj; rw [ho] at hq; cases hq; simp only [if_pos]; exact hp
      · simp only [if_neg hqj]
        have hDq' := hother q hDq hqj
        refine (hI.pend q oq hq hDq' hlq).move (hsame q oq hq hDq') (fun hx hσ _ _ _ => ⟨hσ, hheap _ hx⟩) hnx ?_
        rcases hread with h | h
        · exact .inl h
        · cases hrd : rdB oq.op
          · exact .inr (.inl rfl)
          · exact .inr (.inr (h q oq hq hDq' hlq hrd))
    · intro q x oq ox hq hx hDq hlq hDx hlx halq halx hWq hWx heq
      by_cases hqj : q = j
      · by_cases hxj : x = j
        · rw [hqj, hxj]
        · exfalso
          subst hqj; rw [ho] at hq; cases hq
          simp only [if_pos, if_neg hxj] at heq
          have h1 := hadj halq hWq
          have h2 := hrowlt x ox hx (hother x hDx hxj) hlx halx hWx
          rw [heq] at h1; omega
      · by_cases hxj : x = j
        · exfalso
          subst hxj; rw [ho] at hx; cases hx
          simp only [if_pos, if_neg hqj] at heq
          have h1 := hadj halx hWx
          have h2 := hrowlt q oq hq (hother q hDq hqj) hlq halq hWq
          rw [← heq] at h1; omega
        · simp only [if_neg hqj, if_neg hxj] at heq
          exact hI.inj q x oq ox hq hx (hother q hDq hqj) hlq (hother x hDx hxj) hlx halq halx (hwback q oq hq (hother q hDq hqj) hWq) (hwback x ox hx (hother x hDx hxj) hWx) heq
    · intro t u hu hno
      have htd : o.dst ≠ some t := hno j o ho (by rw [bit_or]; simp) hlj
      rw [hfr t htd] at hu
      exact hI.fk t u hu fun q oq hq hDq hlq => hno q oq hq (by rw [bit_or, hDq]; rfl) hlq
  have hPl' : ∀ {RD' : List Nat}, (∀ q ∈ RD, q ∈ RD') → (flB o.op = true → rdB o.op = true → j ∈ RD') → (∀ q ∈ RD', q ∈ RD ∨ (q = j ∧ flB o.op = true)) → Pl ops (Nat.lor D (Nat.pow 2 j)) listed E M RD' := fun {RD'} h1 h2 h3 => by
    have hother : ∀ (q : Nat), Nat.testBit (Nat.lor D (Nat.pow 2 j)) q = true → q ≠ j → Nat.testBit D q = true := fun q h hne => by
      rw [bit_or, Bool.or_eq_true, decide_eq_true_eq] at h
      exact h.resolve_right fun hh => hne hh.symm
    refine ⟨fun q oq hq hDq hee => ?_, hPl.m, fun q oq hq hDq hf hrd => ?_, fun q hq oq hoq => ?_⟩
    · by_cases hqj : q = j
      · subst hqj; rw [ho] at hq; cases hq; rw [he0] at hee; cases hee
      · exact hPl.e q oq hq (hother q hDq hqj) hee
    · by_cases hqj : q = j
      · subst hqj; rw [ho] at hq; cases hq; exact h2 hf hrd
      · exact h1 q (hPl.rd q oq hq (hother q hDq hqj) hf hrd)
    · rcases h3 q hq with h | ⟨rfl, h⟩
      · exact hPl.rdf q h oq hoq
      · rw [ho] at hoq; cases hoq; exact h
  obtain ⟨bW, hW, e2⟩ := wt_of e1
  have same_self : ∀ {fr' : T AV}, (∀ t, o.dst ≠ some t → T.get (adr t) fr' = T.get (adr t) fr) → ∀ t ∈ o.looksAt ops, T.get (adr t) fr = T.get (adr t) fr' := fun {fr'} hfr t ht => by
    refine (hfr t fun h => ?_).symm
    rw [hd] at h; cases h; exact hself ht
  have planfor : ∃ RD', planGo ops ops.size (masksN ops) order (Nat.lor D (Nat.pow 2 j)) E M RD' = some l' ∧ Pl ops (Nat.lor D (Nat.pow 2 j)) listed E M RD' := by
    rcases hcase with ⟨hal, h, _⟩ | ⟨hal, h, _⟩
    · refine ⟨RD, h, hPl' (fun _ h => h) (fun hf _ => ?_) fun _ h => .inl h⟩
      rw [fl_not_al hf] at hal; cases hal
    · have hfl : flB o.op = true := (eff_split he0).resolve_right (by rw [hal]; simp)
      refine ⟨_, h, hPl' (fun q hq => ?_) (fun _ hrd => by rw [if_pos hrd]; simp) fun q hq => ?_⟩
      · split
        · simp [hq]
        · exact hq
      · split at hq
        · rcases List.mem_cons.1 hq with rfl | hq
          · exact .inr ⟨rfl, hfl⟩
          · exact .inl hq
        · exact .inl hq
  obtain ⟨RD', hplan', hPl''⟩ := planfor
  cases bW
  · -- it is not asked for
    obtain ⟨fr', e3, hfr, hdst⟩ := putk_get (show putk o.dst (.tuple []) fr (fun fr => drawnL l' P X r ops ⟨fr, n, ds, up⟩ s k) = .ok from e2)
    refine ⟨E, M, RD', l', _, fr', s, hplan', hPl'', fin (v := .tuple []) (adj := .e) hfr hI.did (Nat.le_refl _) (fun _ _ => rfl) (.skip d hd he0 (hW.same (same_self hfr)) (hdst d hd)) (fun _ hW' => (wt_not hW' (hW.same (same_self hfr))).elim) (.inl rfl), e3⟩
  · have e3 : execk o.op P fr s (fun res s => resk res X r ⟨fr, n, ds, up⟩ s (fun v cx s => putk o.dst v cx.fr fun fr => againk P ops fr s p.again (drawnL l' P X r ops ⟨fr, cx.n, cx.defs, cx.up⟩ s k)) (kmask ops k)) = .ok := e2
    rcases hcase with ⟨hal, _, hag⟩ | ⟨hal, _, hag⟩
    · obtain ⟨el, cs', mk, hA⟩ := alloc_at (P := P) hal e3
      rw [hA.eq] at e3
      obtain ⟨fr', e4, hfr, hdst⟩ := putk_get (show putk o.dst (mk s.nx) fr (fun fr => againk P ops fr (s.new (.cells el false 0 cs')) p.again (drawnL l' P X r ops ⟨fr, n, ds, up⟩ (s.new (.cells el false 0 cs')) k)) = .ok from e3)
      obtain ⟨e5, hagain⟩ := againk_ok (P := P) (fun q hq oq hoq => hPl.rdf q (by rw [hag] at hq; exact (List.mem_filter.1 hq).1) oq hoq) e4
      have hW' := hW.same (same_self hfr)
      refine ⟨E, M, RD', l', _, fr', _, hplan', hPl'', fin (v := mk s.nx) (adj := s.nx) hfr ⟨hI.did.1.alloc _, hI.did.2.alloc hr0 hI.did.1 _⟩ ?_ (fun x hx => T.get_set_ne _ (fun hh => by subst hh; omega) _)
        (.row d el cs' mk hd hal hW' (hdst d hd) (hA.same hal (sameAt_of (same_self hfr))) (T.get_set_self _ _ _) ?_ ?_ (hI.did.1.free (Nat.le_refl _))) (fun _ _ => Nat.le_refl _) (.inr fun q oq hq hDq hlq hrd d' hd' hWq => ?_), e5⟩
      · show s.nx.nat ≤ s.nx.succ.nat; rw [Adr.nat_succ]; omega
      · show s.nx.nat < s.nx.succ.nat; rw [Adr.nat_succ]; omega
      · exact hI.did.2.nx
      · refine hagain q ?_ oq hq d' hd' hWq
        rw [hag, List.mem_filter]
        refine ⟨hPl.rd q oq hq hDq (rd_fl hrd) hrd, ?_⟩
        cases hM : Nat.testBit M q
        · rfl
        · have := hPl.m q hM; rw [hlq] at this; cases this
    · have hfl : flB o.op = true := (eff_split he0).resolve_right (by rw [hal]; simp)
      obtain ⟨F, hF⟩ := form_of (P := P) hfl
      have e3' := e3
      rw [hF.eq] at e3'
      rcases hF.det fr s with ⟨v, hv⟩ | ⟨m, hm⟩
      · rw [hv] at e3'
        obtain ⟨fr', e4, hfr, hdst⟩ := putk_get (show putk o.dst v fr (fun fr => againk P ops fr s p.again (drawnL l' P X r ops ⟨fr, n, ds, up⟩ s k)) = .ok from e3')
        rw [hag] at e4
        have hkeep := hF.keep (fr := fr) (fr' := fr') (s := s) (s' := s) (v := v) (fun k => by rw [hF.eq, hv]) (sameAt_of (same_self hfr)) (.inr rfl)
        refine ⟨E, M, RD', l', _, fr', s, hplan', hPl'', fin (v := v) (adj := .e) hfr hI.did (Nat.le_refl _) (fun _ _ => rfl) (.val d v hd hfl (hW.same (same_self hfr)) (hdst d hd) hkeep) (fun h _ => by rw [hal] at h; cases h) (.inl rfl), e4⟩
      · rw [hm] at e3'; exact (no_ok e3').elim
end
end Go.Ev

/- Regions whose order is drawn: all of it. -/
namespace Go.Ev
open Go

section
variable {P : Program} {X : FuncId → Option Hook} {r : Rec}
variable {ops : Array Oper} {base : List Frame} {b : Frame} {n : Nat} {σ0 : Sg} {s0 : St} {w0 : World} {D : Nat} {listed : Array Bool} {ad : Nat → Adr} {fr : T AV} {ds : List ADef} {up : Up} {s : St} {σ : Sg} {w : World} {a : Act} {cs : List Frame}
variable {E M : Nat} {RD : List Nat}

/-- an operation that acts -/
theorem acts (hP : Fit P) (hX : ∀ f h, X f = some h → HookOk P f h) (hr : RecOk P r) (hT : Tidy ops) (hlt : ∀ (i : Nat) (o : Oper), ops[i]? = some o → ∀ d, o.dst = some d → d < n) (hI : Inv P ops base b n σ0 s0 w0 D listed ad fr ds up s σ w a cs) (hPl : Pl ops D listed E M RD) {i : Nat} {order : List Nat} {l : List PStep}
    (hplan : planGo ops ops.size (masksN ops) (i :: order) D E M RD = some l) (hi : i ∈ Region.ready .any ops listed) (hef : ∀ o, ops[i]? = some o → effB o.op = true) {k : KE} (e : drawnL l P X r ops ⟨fr, n, ds, up⟩ s k = .ok) {R : List Nat} {K : List Item} {cx : Cx} (hcx : cx.n = n) :
    (∃ E' M' RD' l' fr' ds' up' s' σ' w' a' cs', planGo ops ops.size (masksN ops) order (Nat.lor D (Nat.pow 2 i)) E' M' RD' = some l' ∧ Pl ops (Nat.lor D (Nat.pow 2 i)) (listed.setIfInBounds i true) E' M' RD' ∧
      Inv P ops base b n σ0 s0 w0 (Nat.lor D (Nat.pow 2 i)) (listed.setIfInBounds i true) ad fr' ds' up' s' σ' w' a' cs' ∧ drawnL l' P X r ops ⟨fr', n, ds', up'⟩ s' k = .ok ∧
      Steps P (lone (b.on a (.inRegion ops (i :: R) :: K)) cs w) (lone (b.on a' (.inRegion ops R :: K)) cs' w')) ∨
    Ran P σ0 s0 w0 base b cx (lone (b.on a (.inRegion ops (i :: R) :: K)) cs w) K k := by
  obtain ⟨o, p, l', rfl, hpi, ho, hD, _, hcase⟩ := planGo_cons hplan
  have he1 := hef o ho
  obtain ⟨_, hplan', hag⟩ : effB o.op = true ∧ _ ∧ _ := by
    rcases hcase with h | ⟨h, _⟩
    · exact h
    · rw [he1] at h; cases h
  have hil : i < ops.size := (Array.getElem?_eq_some_iff.1 ho).1
  have hilt : i < listed.size := by rw [hI.lsz]; exact hil
  have hm := ready_mask hT hI hi
  have hkn := knows_of hT hI ho hm
  have hgk := gknows_of hT hI ho hm
  have hset := set_true (listed := listed) hilt
  have hadst : ∀ d, o.dst = some d → d < a.tmps.size := fun d hd => by rw [hI.size]; exact hlt i o ho d hd
  have hother : ∀ (q : Nat), Nat.testBit (Nat.lor D (Nat.pow 2 i)) q = true → q ≠ i → Nat.testBit D q = true := fun q h hne => by
    rw [bit_or, Bool.or_eq_true, decide_eq_true_eq] at h
    exact h.resolve_right fun hh => hne hh.symm
  have pendsub : ∀ {q : Nat}, (listed.setIfInBounds i true).getD q false = false → listed.getD q false = false ∧ q ≠ i := fun {q} h => by
    rw [hset, Bool.or_eq_false_iff, decide_eq_false_iff_not] at h
    exact ⟨h.1, fun hh => h.2 hh.symm⟩
  have apart : ∀ (q : Nat) (oq : Oper), ops[q]? = some oq → Nat.testBit D q = true → listed.getD q false = false → ∀ t ∈ namesO ops oq, o.dst ≠ some t := fun q oq hq hDq hlq t ht hdt => by
    rcases hT.names q oq hq t ht i o ho hdt with rfl | h | ⟨_, h⟩
    · rw [hD] at hDq; cases hDq
    · have := hI.dcl q hDq i h
      rw [hD] at this; cases this
    · have := hm q h
      rw [hlq] at this; cases this
  have hPl' : Pl ops (Nat.lor D (Nat.pow 2 i)) (listed.setIfInBounds i true) (Nat.lor E (Nat.pow 2 i)) (Nat.lor M (msk ops i)) RD := by
    refine ⟨fun q oq hq hDq hee => ?_, fun q hq => ?_, fun q oq hq hDq hf hrd => ?_, hPl.rdf⟩
    · rw [bit_or]
      by_cases hqi : q = i
      · subst hqi; simp
      · rw [hPl.e q oq hq (hother q hDq hqi) hee]; rfl
    · have hq : Nat.testBit (M ||| msk ops i) q = true := hq
      rw [Nat.testBit_or, Bool.or_eq_true] at hq
      rw [hset, Bool.or_eq_true]
      rcases hq with hq | hq
      · exact .inl (hPl.m q hq)
      · exact .inl (hm q hq)
    · by_cases hqi : q = i
      · subst hqi; rw [ho] at hq; cases hq
        unfold effB at he1; rw [hf] at he1; cases he1
      · exact hPl.rd q oq hq (hother q hDq hqi) hf hrd
  have fin : ∀ {v : AV} {x : Value} {fr' : T AV} {ds1 : List ADef} {up1 : Up} {s' : St} {σ' : Sg} {w' : World} {ds' : List Deferred} {cs' : List Frame}, (∀ t, o.dst ≠ some t → T.get (adr t) fr' = T.get (adr t) fr) → (∀ d, o.dst = some d → T.get (adr d) fr' = some v) → Did2 P σ s w σ' s' w' → RelV σ' v x →
      DefsRel σ' ds1 ds' → UpRel σ' base up1 b.kind b.roundOf cs' →
      (s = s' ∨ ∀ (q : Nat) (oq : Oper), ops[q]? = some oq → Nat.testBit D q = true → listed.getD q false = false → rdB oq.op = true → ∀ d, oq.dst = some d → Wt ops oq fr' true → ∃ v, T.get (adr d) fr' = some v ∧ ∀ k, execk oq.op P fr' s' k = k (.val v) s') →
      Inv P ops base b n σ0 s0 w0 (Nat.lor D (Nat.pow 2 i)) (listed.setIfInBounds i true) ad fr' ds1 up1 s' σ' w' ({ a with defers := ds' }.put o.dst x) cs' := fun {v x fr' ds1 up1 s' σ' w' ds' cs'} hfr hdst hdid hv hds hup hread => by
    have hsame : ∀ (q : Nat) (oq : Oper), ops[q]? = some oq → Nat.testBit D q = true → listed.getD q false = false → ∀ t ∈ namesO ops oq, T.get (adr t) fr = T.get (adr t) fr' := fun q oq hq hDq hlq t ht => (hfr t (apart q oq hq hDq hlq t ht)).symm
    have hwback : ∀ (q : Nat) (oq : Oper), ops[q]? = some oq → Nat.testBit D q = true → listed.getD q false = false → Wt ops oq fr' true → Wt ops oq fr true := fun q oq hq hDq hlq hW => hW.same fun t ht => (hsame q oq hq hDq hlq t (List.mem_append_left _ ht)).symm
    refine ⟨hI.did.trans hdid, by rw [put_defers]; exact hds, hup, by rw [put_size]; exact hI.size, by simpa using hI.lsz, ?_, ?_, ?_, ?_, ?_, ?_, ?_, ?_⟩
    · intro q hq
      rw [hset, Bool.or_eq_true, decide_eq_true_eq] at hq
      rw [bit_or, Bool.or_eq_true, decide_eq_true_eq]
      rcases hq with hq | hq
      · exact .inl (hI.cd q hq)
      · exact .inr hq
    · intro q hq
      by_cases hqi : q = i
      · subst hqi; exact hil
      · exact hI.dlt q (hother q hq hqi)
    · intro q hq y hy
      rw [hset, Bool.or_eq_true, decide_eq_true_eq] at hq
      rw [hset, Bool.or_eq_true]
      rcases hq with hq | rfl
      · exact .inl (hI.closed q hq y hy)
      · exact .inl (hm y hy)
    · intro q hq y hy
      rw [bit_or, Bool.or_eq_true]
      by_cases hqi : q = i
      · subst hqi; exact .inl (hI.cd y (hm y hy))
      · exact .inl (hI.dcl q (hother q hq hqi) y hy)
    · intro q oq hq hDq hee
      rw [hset, Bool.or_eq_true, decide_eq_true_eq]
      by_cases hqi : q = i
      · exact .inr hqi.symm
      · exact .inl (hI.eff q oq hq (hother q hDq hqi) hee)
    · intro q oq hq hDq hlq
      obtain ⟨h1, h2⟩ := pendsub hlq
      have hDq' := hother q hDq h2
      refine (hI.pend q oq hq hDq' h1).move (hsame q oq hq hDq' h1) (fun hx hσ _ _ _ => hdid.2.none _ hx hσ) hdid.2.nx ?_
      rcases hread with h | h
      · exact .inl h
      · cases hrd : rdB oq.op
        · exact .inr (.inl rfl)
        · exact .inr (.inr (h q oq hq hDq' h1 hrd))
    · intro q y oq oy hq hy hDq hlq hDy hly halq haly hWq hWy heq
      obtain ⟨h1, h2⟩ := pendsub hlq
      obtain ⟨h3, h4⟩ := pendsub hly
      exact hI.inj q y oq oy hq hy (hother q hDq h2) h1 (hother y hDy h4) h3 halq haly (hwback q oq hq (hother q hDq h2) h1 hWq) (hwback y oy hy (hother y hDy h4) h3 hWy) heq
    · intro t u hu hno
      rw [put_tmps]
      rcases put_get' a hadst x t with ⟨h1, h2⟩ | ⟨h1, h2⟩
      · rw [h2]
        rw [hdst t h1] at hu; cases hu
        exact hv
      · rw [h2]
        rw [hfr t h1] at hu
        refine (hI.fk t u hu fun q oq hq hDq hlq => hno q oq hq (by rw [bit_or, hDq]; rfl) ?_).mono hdid.2.le
        rw [hset, hlq]
        simp
        intro hh; subst hh; rw [hD] at hDq; cases hDq
  have e1 := drawnL_cons (by rw [hpi]; exact ho) e
  rcases wantedk_ok hgk e1 with ⟨hw, e2⟩ | ⟨hw, e2⟩
  · obtain ⟨res, s1, w1, τ, e3, hd1, hres, hdf⟩ := execk_ok' (A := a) hP hI.did.1 o hkn (show execk o.op P fr s (fun res s => resk res X r ⟨fr, n, ds, up⟩ s (fun v cx s => putk o.dst v cx.fr fun fr => againk P ops fr s p.again (drawnL l' P X r ops ⟨fr, cx.n, cx.defs, cx.up⟩ s k)) (kmask ops k)) = .ok from e2)
    rcases resk_ok (K := K) (rest := R) hP hX hr ho hw hdf e3 hd1.1 hres (hI.defs.mono hd1.2.le) (hI.up.mono hd1.2.le) with ⟨v, x, ds1, up1, ds', s2, υ, w2, cs2, e4, hd2, hv, hds, hup, hsteps⟩ | ⟨ch, ds1, up1, ds', s2, υ, w2, cs2, todo, chain, e4, hd2, hch, hds, hup, hcat, hsteps⟩
    · obtain ⟨fr', e5, hfr, hdst⟩ := putk_get (show putk o.dst v fr (fun fr => againk P ops fr s2 p.again (drawnL l' P X r ops ⟨fr, n, ds1, up1⟩ s2 k)) = .ok from e4)
      obtain ⟨e6, hagain⟩ := againk_ok (P := P) (fun q hq oq hoq => hPl.rdf q (by rw [hag] at hq; exact (List.mem_filter.1 hq).1) oq hoq) e5
      refine .inl ⟨_, _, _, l', fr', ds1, up1, s2, υ, w2, _, cs2, hplan', hPl', fin hfr hdst (hd1.trans hd2) hv hds hup (.inr fun q oq hq hDq hlq hrd d hd hWq => ?_), e6, hsteps⟩
      refine hagain q ?_ oq hq d hd hWq
      rw [hag, List.mem_filter]
      refine ⟨hPl.rd q oq hq hDq (rd_fl hrd) hrd, ?_⟩
      cases hM : Nat.testBit (Nat.lor M (msk ops i)) q
      · rfl
      · have hM : Nat.testBit (M ||| msk ops i) q = true := hM
        rw [Nat.testBit_or, Bool.or_eq_true] at hM
        rcases hM with hM | hM
        · have := hPl.m q hM; rw [hlq] at this; cases this
        · have := hm q hM; rw [hlq] at this; cases this
    · right
      obtain ⟨fr', e5, hfr⟩ := topsk_get (show topsk (dstsO ops.toList) fr (fun fr => k (.panic ch) ⟨fr, n, ds1, up1⟩ s2) = .ok from e4)
      refine ⟨.panic ch, ⟨fr', n, ds1, up1⟩, s2, υ, w2, { a with defers := ds' }, cs2, e5, hI.did.trans (hd1.trans hd2), ⟨⟨hI.size, fun t u hu => ?_⟩, hds, hup⟩, hcx.symm, todo, chain, hch, hcat, hsteps⟩
      rcases hfr t with h | ⟨h1, h2⟩
      · rw [h] at hu; cases hu; exact .top _
      · rw [h2] at hu
        refine (hI.fk t u hu fun q oq hq _ _ hdq => ?_).mono (Sg.le_trans hd1.2.le hd2.2.le)
        exact h1 (dstsO_mem (by have := Array.mem_of_getElem? hq; simpa using this) hdq)
  · obtain ⟨fr', e3, hfr, hdst⟩ := putk_get (show putk o.dst (.tuple []) fr (fun fr => drawnL l' P X r ops ⟨fr, n, ds, up⟩ s k) = .ok from e2)
    have hskip := on_op_skip (P := P) (b := b) (a := a) (k := K) (cs := cs) (w := w) (ops := ops) (i := i) (rest := R) (by rw [ho]; simpa using hw)
    rw [ho] at hskip
    exact .inl ⟨_, _, _, l', fr', ds, up, s, σ, w, _, cs, hplan', hPl', fin (x := undef) hfr hdst (.refl hI.did.1) (.tuple _ _ .nil) hI.defs hI.up (.inl rfl), e3, .one hskip⟩

theorem sim (hP : Fit P) (hX : ∀ f h, X f = some h → HookOk P f h) (hr : RecOk P r) (hT : Tidy ops) (hlt : ∀ (i : Nat) (o : Oper), ops[i]? = some o → ∀ d, o.dst = some d → d < n) (hr0 : Rep P σ0 s0 w0) {k : KE} {K : List Item} {cx : Cx} (hcx : cx.n = n) :
    ∀ {listed : Array Bool} {R : List Nat}, LinOk ops listed R → ∀ {order : List Nat} {D E M : Nat} {RD : List Nat} {l : List PStep} {ad : Nat → Adr} {fr : T AV} {ds : List ADef} {up : Up} {s : St} {σ : Sg} {w : World} {a : Act} {cs : List Frame},
      planGo ops ops.size (masksN ops) order D E M RD = some l → Pl ops D listed E M RD → Inv P ops base b n σ0 s0 w0 D listed ad fr ds up s σ w a cs → drawnL l P X r ops ⟨fr, n, ds, up⟩ s k = .ok →
      Ran P σ0 s0 w0 base b cx (lone (b.on a (.inRegion ops R :: K)) cs w) K k := by
  intro listed R hL
  induction hL with
  | nil listed hnil =>
    intro order D E M RD l ad fr ds up s σ w a cs hplan hPl hI e
    -- all are done
    have hall : ∀ i, i < ops.size → listed.getD i false = true := by
      intro i
      induction i using Nat.strongRecOn with
      | _ i ih =>
        intro hi
        cases hl : listed.getD i false
        · exfalso
          obtain ⟨o, ho⟩ : ∃ o, ops[i]? = some o := ⟨_, Array.getElem?_eq_getElem hi⟩
          have : i ∈ Region.ready .any ops listed := by
            refine mem_ready.2 ⟨?_, o, ho, fun x hx hb => ?_⟩
            · have hil : i < listed.size := by rw [hI.lsz]; exact hi
              rw [Array.getD_eq_getD_getElem?] at hl ⊢
              rw [Array.getElem?_eq_getElem hil] at hl ⊢
              exact hl
            · have hlt := hT.back i o ho x hx hb
              exact ih x.on hlt (Nat.lt_trans hlt hi)
          rw [hnil] at this; cases this
        · rfl
    cases order with
    | cons i order =>
      obtain ⟨o, p, l', _, _, ho, hD, _⟩ := planGo_cons hplan
      have := hI.cd i (hall i (Array.getElem?_eq_some_iff.1 ho).1)
      rw [hD] at this; cases this
    | nil =>
      obtain ⟨rfl, _⟩ := planGo_nil hplan
      refine ⟨.normal, ⟨fr, n, ds, up⟩, s, σ, w, a, cs, e, hI.did, ⟨⟨hI.size, fun t u hu => hI.fk t u hu fun q oq hq hDq hlq => ?_⟩, hI.defs, hI.up⟩, hcx.symm, .one on_region_end⟩
      have := hall q (Array.getElem?_eq_some_iff.1 hq).1
      rw [hlq] at this; cases this
  | cons listed i R hi _ ih =>
    have done : ∀ {order : List Nat} {D E M : Nat} {RD : List Nat} {l : List PStep} {ad : Nat → Adr} {fr : T AV} {ds : List ADef} {up : Up} {s : St} {σ : Sg} {w : World} {a : Act} {cs : List Frame}, Nat.testBit D i = true →
        planGo ops ops.size (masksN ops) order D E M RD = some l → Pl ops D listed E M RD → Inv P ops base b n σ0 s0 w0 D listed ad fr ds up s σ w a cs → drawnL l P X r ops ⟨fr, n, ds, up⟩ s k = .ok →
        Ran P σ0 s0 w0 base b cx (lone (b.on a (.inRegion ops (i :: R) :: K)) cs w) K k := fun {order D E M RD l ad fr ds up s σ w a cs} hD hplan hPl hI e => by
      obtain ⟨σ', w', a', hst, hI'⟩ := settle (R := R) (K := K) hP hT hlt hr0 hI hi hD
      have hil : i < listed.size := by rw [hI.lsz]; exact hI.dlt i hD
      refine (ih hplan ⟨hPl.e, fun j hj => ?_, hPl.rd, hPl.rdf⟩ hI' e).of_steps (.one hst)
      rw [set_true hil, hPl.m j hj]; rfl
    intro order
    induction order with
    | nil =>
      intro D E M RD l ad fr ds up s σ w a cs hplan hPl hI e
      obtain ⟨_, o, ho, _⟩ := mem_ready.1 hi
      exact done ((planGo_nil hplan).2 i (Array.getElem?_eq_some_iff.1 ho).1) hplan hPl hI e
    | cons j order iho =>
      intro D E M RD l ad fr ds up s σ w a cs hplan hPl hI e
      cases hD : Nat.testBit D i
      · obtain ⟨hli0, o, ho, _⟩ := mem_ready.1 hi
        have hil : i < ops.size := (Array.getElem?_eq_some_iff.1 ho).1
        obtain ⟨oj, p, l', hl', hpi, hoj, hDj, hE, hcase⟩ := planGo_cons hplan
        by_cases heff : effB oj.op = true
        · by_cases hij : j = i
          · subst hij
            rcases acts (R := R) (K := K) (cx := cx) hP hX hr hT hlt hI hPl hplan hi (fun o' ho' => by rw [hoj] at ho'; cases ho'; exact heff) e hcx with ⟨E', M', RD', l'', fr', ds', up', s', σ', w', a', cs', hplan', hPl', hI', e', hsteps⟩ | h
            · exact (ih hplan' hPl' hI' e').of_steps hsteps
            · exact h
          · exfalso
            obtain ⟨_, h, _⟩ : effB oj.op = true ∧ _ ∧ _ := by
              rcases hcase with h | ⟨h, _⟩
              · exact h
              · rw [heff] at h; cases h
            obtain ⟨h1, h2⟩ := planGo_all h
            rcases h1 i hil with h1 | h1
            · rw [bit_or, hD, Bool.false_or, decide_eq_true_eq] at h1
              exact hij h1
            · have := h2 i h1 j (by rw [bit_or]; simp)
              have := hI.cd j (ready_mask hT hI hi j this)
              rw [hDj] at this; cases this
        · have hef : ∀ o', ops[j]? = some o' → effB o'.op = false := fun o' ho' => by rw [hoj] at ho'; cases ho'; simpa using heff
          obtain ⟨E', M', RD', l'', ad', fr', s', hplan', hPl', hI', e'⟩ := early hP hT hr0 hI hPl hplan hef e
          by_cases hij : j = i
          · subst hij
            exact done (by rw [bit_or]; simp) hplan' hPl' hI' e'
          · exact iho hplan' hPl' hI' e'
      · exact done hD hplan hPl hI e

theorem drawn_ok (hP : Fit P) (hX : ∀ f h, X f = some h → HookOk P f h) (hr : RecOk P r) {id : Nat} {cx : Cx} {k : KE} {K : List Item} (e : cRegion P X ops true r cx s k = .ok) (h : Rep P σ s w) (hc : CxRel σ base b cx a cs) :
    Ran P σ s w base b cx (lone (b.on a (.code (.region id ops true) :: K)) cs w) K k := by
  obtain ⟨hb, e1⟩ := ifk_no e
  obtain ⟨l, hl, e2⟩ := optk_ok (show optk (plan ops) 261 (fun l => drawnRun P X r ops l cx s k) = .ok from e1)
  obtain ⟨hT, hplan⟩ := plan_tidy hl
  have hlt : ∀ (i : Nat) (o : Oper), ops[i]? = some o → ∀ d, o.dst = some d → d < cx.n := fun i o ho d hd => allLt_ok hb d (dstsO_mem (by have := Array.mem_of_getElem? ho; simpa using this) hd)
  have hrep : Rep P σ s (w.draw (w.drawn + 1)) := h.draw _
  have hlist : ∀ q, (Array.replicate ops.size false).getD q false = false := fun q => by
    rw [Array.getD_eq_getD_getElem?]
    cases hq : (Array.replicate ops.size false)[q]? with
    | none => rfl
    | some x =>
      rw [Array.getElem?_replicate] at hq
      split at hq
      · cases hq; rfl
      · cases hq
  have hno : ∀ {q : Nat} {p : Prop}, (Array.replicate ops.size false).getD q false = true → p := fun {q p} hh => by rw [hlist] at hh; cases hh
  have hz : ∀ {q : Nat} {p : Prop}, Nat.testBit 0 q = true → p := fun {q p} hh => by simp at hh
  have hI : Inv P ops base b cx.n σ s (w.draw (w.drawn + 1)) 0 (Array.replicate ops.size false) (fun _ => .e) cx.fr cx.defs cx.up s σ (w.draw (w.drawn + 1)) a cs :=
    ⟨.refl hrep, hc.defs, hc.up, hc.fr.1, by simp, fun _ hh => hno hh, fun _ hh => hz hh, fun _ hh => hno hh, fun _ hh => hz hh, fun _ _ _ hh => hz hh, fun _ _ _ hh => hz hh, fun _ _ _ _ _ _ hh => hz hh, fun t v hv _ => hc.fr.2 t v hv⟩
  have hPl : Pl ops 0 (Array.replicate ops.size false) 0 0 [] := ⟨fun _ _ _ hh => hz hh, fun _ hh => hz hh, fun _ _ _ hh => hz hh, fun _ hh => by cases hh⟩
  have hsim := sim (K := K) (cx := cx) hP hX hr hT hlt hrep rfl (schedule_ok hP.mixed ops (w.tape w.drawn (.order b.fn id))) hplan hPl hI e2
  exact Ran.of_steps (.one on_region_draw) (Ran.of_did (Did2.draw h _) hsim)
end
end Go.Ev

/- The evaluator is right. -/
namespace Go.Ev
open Go

section
variable {P : Program} {X : FuncId → Option Hook} {r : Rec}

theorem codeStep_ok (hP : Fit P) (hX : ∀ f h, X f = some h → HookOk P f h) (hr : RecOk P r) : CodeOk P (fun c => codeStep c P X r) := by
  intro c cx s k σ w base b a cs K m hs e h hc
  cases c with
  | skip => cases hs; exact ⟨.normal, cx, s, σ, w, a, cs, e, .refl h, hc, rfl, .one on_skip⟩
  | region id ops d =>
    cases hs
    cases d
    · exact cRegion_ok hP hX hr e h hc
    · exact drawn_ok hP hX hr e h hc
  | seq x y => cases hs; exact cSeq_ok hr e h hc
  | cond c x y => cases hs; exact cCond_ok hr e h hc
  | block id x => cases hs; exact cBlock_ok hr e h hc
  | loop x =>
    have e1 : (Option.rec (plainLoop x) (fun m => mapLoop P X m x) (mlOf x) : Rec → Cx → St → KE → R) r cx s k = .ok := e
    cases hm : mlOf x with
    | none => rw [hm] at e1; exact plainLoop_ok hr hs e1 h hc
    | some m => rw [hm] at e1; exact mapLoop_ok hP hX hr hm hs e1 h hc
  | rangeFunc f ps x y => cases hs; exact cRangeFunc_ok hP hr e h hc
  | exit id => cases hs; exact ⟨.exit id, cx, s, σ, w, a, cs, e, .refl h, hc, rfl, K, rfl, .refl _ _⟩
  | scope x =>
    cases hs
    obtain ⟨ex, cx1, s1, τ, w1, a1, cs1, e1, hd, hc1, hn, harr⟩ := hr.scope x x cx s k σ w base b a cs K e h hc
    exact ⟨ex, cx1, s1, τ, w1, a1, cs1, e1, hd, hc1, hn, harr.of_steps (.one on_scope)⟩
  | label l => cases hs; exact ⟨.normal, cx, s, σ, w, a, cs, e, .refl h, hc, rfl, .one on_label⟩
  | goto l => cases hs; exact ⟨.goto l, cx, s, σ, w, a, cs, e, .refl h, hc, rfl, K, rfl, .refl _ _⟩
  | ret => cases hs; exact ⟨.ret, cx, s, σ, w, a, cs, e, .refl h, hc, rfl, K, .refl _ _⟩
  | refuse why => exact (no_ok (n := 263) e).elim

theorem ev_ok (hP : Fit P) (hX : ∀ f h, X f = some h → HookOk P f h) (n : Nat) : RecOk P (ev P X n) := by
  induction n with
  | zero => exact ⟨fun _ _ _ _ _ _ _ _ _ _ _ _ _ e => (no_ok (n := 290) e).elim, fun _ _ _ _ _ _ _ _ _ _ _ e => (no_ok (n := 290) e).elim, fun _ _ _ _ _ _ _ _ _ _ _ _ e => (no_ok (n := 290) e).elim⟩
  | succ n ih => exact ⟨codeStep_ok hP hX ih, callStep_ok hP ih, scopeStep_ok ih⟩

/-- what the evaluator says of a call -/
theorem ev_calls (hP : Fit P) (hX : ∀ f h, X f = some h → HookOk P f h) {n : Nat} {f : FuncId} {args : List AV} {s : St} {k : AEnd → Up → St → R} {σ : Sg} {w : World} {xs : Array Value}
    (e : (ev P X n).call f args .no s k = .ok) (h : Rep P σ s w) (ha : RelL σ args xs.toList) (hk : ∀ en up s, k en up s = .ok → ∃ v, en = .returned v) :
    Calls P f xs w fun en w' => ∃ v x s' τ, en = .returned x ∧ k (.returned v) .no s' = .ok ∧ Did2 P σ s w τ s' w' ∧ RelV τ v x := by
  intro cs
  obtain ⟨⟨fn, hfn, _⟩, en, up', s', τ, w', fr, cs', e1, hd, hup, hsteps, ⟨hkind, hfr⟩, hend⟩ := (ev_ok hP hX n).call f args .no s k σ w cs cs .normal xs e h ha .no
  obtain ⟨v, rfl⟩ := hk _ _ _ e1
  cases hend with
  | returned _ x fn' hm hdf hf hr hv =>
    cases hup
    exact ⟨.returned x, w', fr, ⟨v, x, s', τ, rfl, e1, hd, hv⟩, hsteps, hfr, hm, hdf, hkind, fn', hf, hr⟩
end
end Go.Ev
