/- The evaluator's rounds over a map agree with the machine's, in whatever order it goes. -/
import Derived.Test.YtlohkhfopnkcmaaGreatDoorEvF
import Derived.Maps.RangeRun

/- Control: rounds over a map. -/
namespace Go.Ev
open Go

-- what was known before is known of what is there now
mutual
theorem RelV.back {σ τ : Sg} (hl : σ.le τ) {v : AV} {x y : Value} (h' : RelV τ v y) (h : RelV σ v x) : RelV σ v y := by
  cases h' with
  | top => exact .top _
  | bool => exact .bool _
  | int => exact .int _ _
  | str => exact .str _
  | ptr a off c sh sz e => cases h with | ptr _ _ c' sh' sz' e' => have := hl _ _ _ _ e'; rw [e] at this; cases this; exact .ptr _ _ _ _ _ e'
  | nilptr => exact .nilptr
  | slice a off len cap c sh sz e => cases h with | slice _ _ _ _ c' sh' sz' e' => have := hl _ _ _ _ e'; rw [e] at this; cases this; exact .slice _ _ _ _ _ _ _ e'
  | gslice a off len es c sh sz cap p e hc hlc he hp => cases h with | gslice _ _ _ _ c' sh' sz' cap' p' e' _ _ _ _ => have := hl _ _ _ _ e'; rw [e] at this; cases this; exact .gslice _ _ _ _ _ _ _ _ _ e' hc hlc he hp
  | nilslice => exact .nilslice
  | map a c sh sz e => cases h with | map _ c' sh' sz' e' => have := hl _ _ _ _ e'; rw [e] at this; cases this; exact .map _ _ _ _ e'
  | nilmap => exact .nilmap
  | func f g x y u v hf h1 h2 =>
    cases h with
    | func _ g' _ _ u' v' hf' h1' h2' =>
    cases hf with
    | same f hne => exact .func _ _ _ _ _ _ (.same f hne) (RelL.back hl h1 h1') (RelL.back hl h2 h2')
    | yield l c sh sz e => cases hf' with
      | same _ hne => exact absurd rfl (hne l)
      | yield _ c' sh' sz' e' => have := hl _ _ _ _ e'; rw [e] at this; cases this; exact .func _ _ _ _ _ _ (.yield _ _ _ _ e') (RelL.back hl h1 h1') (RelL.back hl h2 h2')
  | nilfunc => exact .nilfunc
  | iface t x v hv => cases h with | iface _ _ v' hv' => exact .iface _ _ _ (RelV.back hl hv hv')
  | niliface => exact .niliface
  | agg x v hv => cases h with | agg _ v' hv' => exact .agg _ _ (RelL.back hl hv hv')
  | tuple x v hv => cases h with | tuple _ v' hv' => exact .tuple _ _ (RelL.back hl hv hv')
  | aint k lo hi n hl hh => exact .aint _ _ _ _ hl hh
  | abool => exact .abool _
  | zslice => exact .zslice _
theorem RelL.back {σ τ : Sg} (hl : σ.le τ) {v : List AV} {x y : List Value} (h' : RelL τ v y) (h : RelL σ v x) : RelL σ v y := by
  cases h' with
  | nil => exact .nil
  | cons a b as bs hv ht => cases h with | cons _ b' _ bs' hv' ht' => exact .cons _ _ _ _ (RelV.back hl hv hv') (RelL.back hl ht ht')
end

theorem lessT_ok : ∀ {t u : T AV}, lessT t u = true → ∀ p v, T.get p t = some v → v = .top ∨ T.get p u = some v := by
  intro t
  induction t with
  | l => intro u _ p v e; rw [T.get_l] at e; cases e
  | n x ta tb tc td iha ihb ihc ihd =>
    intro u h p v e
    cases u with
    | l => cases h
    | n y a b c d =>
      have h1 : (Bool.rec false (Bool.rec false (Bool.rec false (Bool.rec false (lessT td d) (lessT tc c)) (lessT tb b)) (lessT ta a)) (lessV x y) : Bool) = true := h
      have hand : ∀ (p q : Bool), (Bool.rec false q p : Bool) = true → p = true ∧ q = true := by intro p q; cases p <;> simp
      obtain ⟨h0, h2⟩ := hand _ _ h1
      obtain ⟨ha, h3⟩ := hand _ _ h2
      obtain ⟨hb, h4⟩ := hand _ _ h3
      obtain ⟨hc, hd⟩ := hand _ _ h4
      cases p with
      | e =>
        have e1 : x = some v := e
        subst e1
        by_cases hv : v = .top
        · exact .inl hv
        · cases y with
          | none => exfalso; cases v <;> first | exact hv rfl | cases h0
          | some w =>
            have h6 : AV.beqF 6 v w = true := by cases v <;> first | exact absurd rfl hv | exact h0
            exact .inr (by rw [beqF_ok 6 _ _ h6]; rfl)
      | a p => exact iha ha p v e
      | b p => exact ihb hb p v e
      | c p => exact ihc hc p v e
      | d p => exact ihd hd p v e

theorem topsk_ok {k : T AV → R} : ∀ {l : List Tmp} {fr : T AV}, topsk l fr k = .ok → ∃ fr', k fr' = .ok ∧ ∀ (σ : Sg) (n : Nat) (ts : Array Value), FrRel σ n fr ts → FrRel σ n fr' ts := by
  intro l
  induction l with
  | nil => intro fr e; exact ⟨fr, e, fun _ _ _ h => h⟩
  | cons d l ih =>
    intro fr e
    have e1 : T.setk (adr d) (some .top) fr (fun fr => topsk l fr k) = .ok := e
    rw [T.setk_eq] at e1
    obtain ⟨fr', e2, h⟩ := ih e1
    refine ⟨fr', e2, fun σ n ts hf => h σ n ts ⟨hf.1, fun t v hv => ?_⟩⟩
    by_cases hd : d = t
    · subst hd; rw [T.get_set_self] at hv; cases hv; exact .top _
    · rw [T.get_set_ne _ (fun hh => hd (adr_inj hh))] at hv; exact hf.2 t v hv

section
variable {P : Program} {X : FuncId → Option Hook} {r : Rec}

theorem Rep.inner {σ : Sg} {s : St} {w : World} (h : Rep P σ s w) : Rep P σ ⟨s.heap, s.nx, s.nx.nat, false⟩ w := ⟨⟨h.glob, h.obj, h.lt, h.inj⟩, h.fresh, Nat.le_refl _, h.over⟩
/-- behind a run that changed nothing that was there, all is as it was -/
theorem Did2.back {σ τ : Sg} {s t : St} {w u : World} (h : Rep P σ s w) (hnx : s.nx.nat ≠ 0) (he : Ext σ ⟨s.heap, s.nx, s.nx.nat, false⟩ w τ t u) (hw : t.wl = false) : Did2 P σ s w σ s u := by
  have key : ∀ a c sh sz, σ a = .at c sh sz → T.get a s.heap ≠ none → u.heap[c]? = w.heap[c]? := fun a c sh sz e hl => ((he.wl hw).2 hnx a (h.fresh a (by rw [e]; simp))).2 c sh sz e hl
  refine ⟨⟨⟨h.glob, ?_, ?_, h.inj⟩, h.fresh, h.bd, h.over⟩, ?_⟩
  · intro a c sh sz o e eo
    obtain ⟨O, h1, h2⟩ := h.obj a c sh sz o e eo
    exact ⟨O, (key a c sh sz e (by rw [eo]; simp)).trans h1, h2⟩
  · intro a c sh sz e; exact Nat.lt_of_lt_of_le (h.lt a c sh sz e) he.size
  · exact { le := σ.le_refl, none := fun _ _ e => ⟨e, rfl⟩, nx := Nat.le_refl _, size := he.size, frame := he.frame, range := fun a c sh sz e _ => ⟨a, sh, sz, e⟩, os := he.os, output := he.output, tape := he.tape, bd := rfl,
            wl := fun e => ⟨e, fun _ a _ => ⟨rfl, fun c sh sz e' hl => key a c sh sz e' hl⟩⟩ }
/-- the iterator goes on -/
theorem Did2.goes {σ : Sg} {s : St} {w : World} (h : Rep P σ s w) {a : Adr} {c sh sz : Nat} (ha : σ a = .at c sh sz) (hany : T.get a s.heap = some .any) (hwl : s.wl = false → s.bd ≠ 0 → s.bd ≤ a.nat) (n : Nat) (O : Obj) : Did2 P σ s w σ s ((w.draw n).upd c O) := by
  have hlive : T.get a s.heap ≠ none := by rw [hany]; simp
  have hc := h.lt _ _ _ _ ha
  have hsz : ((w.draw n).upd c O).heap.size = w.heap.size := by simp [World.upd, World.draw]
  have hne : ∀ d, c ≠ d → ((w.draw n).upd c O).heap[d]? = w.heap[d]? := fun d hd => upd_get_ne (w.draw n) _ _ _ hd
  refine ⟨⟨⟨h.glob, ?_, ?_, h.inj⟩, h.fresh, h.bd, h.over⟩, ?_⟩
  · intro b d sh' sz' o e eo
    by_cases hab : a = b
    · subst hab
      rw [ha] at e; cases e
      rw [hany] at eo; cases eo
      exact ⟨O, upd_get _ _ _ hc, .any _ _ _⟩
    · obtain ⟨O', h1, h2⟩ := h.obj b d sh' sz' o e eo
      refine ⟨O', ?_, h2⟩
      rw [hne _ (fun hcd => hab (h.inj a b c _ _ _ _ ha (hcd ▸ e) hlive (by rw [eo]; simp)))]
      exact h1
  · intro b d sh' sz' e; rw [hsz]; exact h.lt b d sh' sz' e
  · refine { le := σ.le_refl, none := fun _ _ e => ⟨e, rfl⟩, nx := Nat.le_refl _, size := (by rw [hsz]; exact Nat.le_refl _), frame := (fun d _ hn => hne d (fun hcd => hn a sh sz (hcd ▸ ha))), range := fun a c sh sz e _ => ⟨a, sh, sz, e⟩, os := rfl, output := rfl, tape := rfl, bd := rfl,
             wl := (fun e => ⟨e, fun hb b hlt => ⟨rfl, fun d s1 s2 hd hl => hne d (fun hcd => ?_)⟩⟩) }
    subst hcd
    have := h.inj _ _ _ _ _ _ _ ha hd hlive hl
    subst this
    exact absurd hlt (Nat.not_lt_of_le (hwl e hb))
/-- nothing is asked of an object any more -/
theorem Rep.any {σ : Sg} {s : St} {w : World} (h : Rep P σ s w) {a : Adr} (hlive : T.get a s.heap ≠ none) : Rep P σ (s.put a (some AObj.any)) w where
  glob := h.glob
  obj b d sh' sz' o' e eo := by
    by_cases hab : a = b
    · subst hab
      have eo' : some AObj.any = some o' := (T.get_set_self (some AObj.any) a s.heap).symm.trans eo
      cases eo'
      obtain ⟨o, ho⟩ := Option.ne_none_iff_exists'.1 hlive
      obtain ⟨O, hO, _⟩ := h.obj a d sh' sz' o e ho
      exact ⟨O, hO, .any _ _ _⟩
    · exact h.obj b d sh' sz' o' e ((T.get_set_ne (some AObj.any) hab s.heap).symm.trans eo)
  lt := h.lt
  inj b d c' s1 s2 s3 s4 e1 e2 l1 l2 := by
    have live : ∀ b, T.get b (s.put a (some AObj.any)).heap ≠ none → T.get b s.heap ≠ none := fun b hb => by
      by_cases hab : a = b
      · subst hab; exact hlive
      · exact fun hh => hb ((T.get_set_ne (some AObj.any) hab s.heap).trans hh)
    exact h.inj b d c' s1 s2 s3 s4 e1 e2 (live b l1) (live d l2)
  fresh := h.fresh
  bd := h.bd
  over b hb := by
    have : a ≠ b := fun hab => by subst hab; exact hlive (h.over a hb)
    exact (T.get_set_ne (some AObj.any) this s.heap).trans (h.over b hb)
theorem Did2.any {σ : Sg} {s : St} {w : World} (h : Rep P σ s w) {a : Adr} {c sh sz : Nat} (ha : σ a = .at c sh sz) (hlive : T.get a s.heap ≠ none) : Did2 P σ s w σ (s.put a (some AObj.any)) w := by
  refine ⟨h.any hlive, { le := σ.le_refl, none := fun b _ e => ⟨e, T.get_set_ne _ (fun hab => by subst hab; rw [ha] at e; cases e) _⟩, nx := Nat.le_refl _, size := Nat.le_refl _, frame := fun _ _ _ => rfl, range := fun a c sh sz e _ => ⟨a, sh, sz, e⟩, os := rfl, output := rfl, tape := rfl, bd := rfl, wl := fun e => ?_ }⟩
  obtain ⟨e1, e2⟩ := wl_lt e
  exact ⟨e1, fun hb b hlt => ⟨T.get_set_ne _ (e2 hb b hlt) _, fun _ _ _ _ _ => rfl⟩⟩

/-- an operation that gives a value -/
theorem on_op_val {b : Frame} {a : Act} {K : List Item} {cs : List Frame} {w w' : World} {ops : Array Oper} {i : Nat} {rest : List Nat} {o : Oper} {x : Value} (ho : ops[i]? = some o) (hg : o.guard = none) (hd : ∀ c, o.op ≠ .defer c)
    (hrun : (execOp a.eval o).run P w = .ok (.value x) w') :
    step P (lone (b.on a (.inRegion ops (i :: rest) :: K)) cs w) = .next (lone (b.on (a.put o.dst x) (.inRegion ops rest :: K)) cs w') := by
  have hfin : (b.on a (.inRegion ops (i :: rest) :: K)).finish x = b.on (a.put o.dst x) (.inRegion ops rest :: K) := by rw [Frame.finish_on, ho]; rfl
  rw [← hfin]
  exact step_lone_go (by rw [stepG_on ho (by simp [Region.wanted, hg]) (.inr hd)]; simp [stepG.apply, hrun])

theorem left_lt {en : Array MapEntry} {seen : Array Nat} {e : MapEntry} (he : e ∈ (leftOf en seen).toList) : (leftOf en (seen.push e.born)).size < (leftOf en seen).size := by
  have h1 : leftOf en (seen.push e.born) = (leftOf en seen).filter fun x => !(x.born == e.born) := by
    unfold leftOf
    rw [Array.filter_filter]
    congr 1
    funext x
    simp
    cases hx : (x.born == e.born) <;> simp_all
  rw [h1]
  rw [Array.size_filter_lt_size_iff_exists]
  exact ⟨e, by simpa using he, by simp⟩

theorem mlGo_split {m : ML} {a : Adr} {fr : T AV} {cx : Cx} {s : St} {bd : Nat} {k : KE} : ∀ {es : List (AV × AV)}, mlGo P X m a fr r cx s bd k es = .ok →
    (mlOver P X m fr r cx s k = .ok ∧ ∀ e ∈ es, mlStill P X m a fr r cx s bd e = .ok) ∨
    ∃ (i : Nat) (e : AV × AV), es[i]? = some e ∧ mlStill P X m a fr r cx s bd e ≠ .ok ∧ (∀ (j : Nat) e', es[j]? = some e' → j ≠ i → mlStill P X m a fr r cx s bd e' = .ok) ∧ mlRound P X m a fr r cx ⟨s.heap, s.nx, bd, false⟩ (some (s.bd, s.wl)) e (mlLeave k) = .ok := by
  intro es
  have stills : ∀ (l : List (AV × AV)) (z : R), mlStills P X m a fr r cx s bd l z = .ok → z = .ok ∧ ∀ e ∈ l, mlStill P X m a fr r cx s bd e = .ok := by
    intro l z
    induction l with
    | nil => intro e; exact ⟨e, by simp⟩
    | cons x l ih =>
      intro e
      have e1 : (R.rec (mlStills P X m a fr r cx s bd l z) (fun n => .no n) (mlStill P X m a fr r cx s bd x) : R) = .ok := e
      cases hs : mlStill P X m a fr r cx s bd x with
      | no n => rw [hs] at e1; cases e1
      | ok =>
        rw [hs] at e1
        obtain ⟨h1, h2⟩ := ih e1
        refine ⟨h1, fun y hy => ?_⟩
        rcases List.mem_cons.1 hy with rfl | hy
        · exact hs
        · exact h2 y hy
  induction es with
  | nil => intro e; exact .inl ⟨e, by simp⟩
  | cons x es ih =>
    intro e
    have e1 : (R.rec (mlGo P X m a fr r cx s bd k es) (fun _ => mlStills P X m a fr r cx s bd es (mlRound P X m a fr r cx ⟨s.heap, s.nx, bd, false⟩ (some (s.bd, s.wl)) x (mlLeave k))) (mlStill P X m a fr r cx s bd x) : R) = .ok := e
    cases hs : mlStill P X m a fr r cx s bd x with
    | no n =>
      rw [hs] at e1
      obtain ⟨h1, h2⟩ := stills _ _ e1
      refine .inr ⟨0, x, rfl, by rw [hs]; simp, fun j e' hj hne => ?_, h1⟩
      cases j with
      | zero => exact absurd rfl hne
      | succ j => exact h2 e' (List.mem_of_getElem? (by simpa using hj))
    | ok =>
      rw [hs] at e1
      rcases ih e1 with ⟨h1, h2⟩ | ⟨i, e', hi, hno, h2, h3⟩
      · refine .inl ⟨h1, fun y hy => ?_⟩
        rcases List.mem_cons.1 hy with rfl | hy
        · exact hs
        · exact h2 y hy
      · refine .inr ⟨i + 1, e', by simpa using hi, hno, fun j y hj hne => ?_, h3⟩
        cases j with
        | zero => simp at hj; subst hj; exact hs
        | succ j => exact h2 j y (by simpa using hj) (by omega)
end
end Go.Ev

/- Control: rounds over a map, one by one. -/
namespace Go.Ev
open Go

/-- what a round over a map is made of -/
structure IsML (body : Code) (m : ML) (i1 i2 : Nat) : Prop where
  code : body = .seq (.region i1 m.ops false) (.seq (.cond m.c m.thn m.els) (.block m.j (.seq (.region i2 m.ops2 false) m.body)))
  ops1 : m.ops.toList = m.nx :: m.r1
  ops2 : m.ops2.toList = m.en :: m.r2
  nxop : m.nx.op = .next m.it false
  enop : m.en.op = .entry m.it
  g1 : m.nx.guard = none
  g2 : m.en.guard = none
  it : ∃ t, m.it = .tmp t
theorem mlOf_ok {b : Code} {m : ML} (h : mlOf b = some m) : ∃ i1 i2, IsML b m i1 i2 := by
  unfold mlOf at h
  split at h
  · rename_i i1 ops c thn els j i2 ops2 body
    split at h
    · rename_i nx r1 en r2 h1 h2
      split at h
      · rename_i t u h3 h4
        split at h
        · rename_i hb
          cases h
          simp only [Bool.and_eq_true, Option.isNone_iff_eq_none] at hb
          obtain ⟨⟨hb, hg1⟩, hg2⟩ := hb
          have hb := nbeq hb
          subst hb
          exact ⟨i1, i2, rfl, h1, h2, h3, h4, hg1, hg2, t, rfl⟩
        · cases h
      · cases h
    · cases h
  · cases h

theorem range_tail {α : Type} {ops : Array α} {x : α} {l : List α} (h : ops.toList = x :: l) :
    List.range ops.size = 0 :: (List.range l.length).map (· + 1) ∧ ops[0]? = some x ∧ ∀ (j i : Nat) (o : α), ((List.range l.length).map (· + 1))[j]? = some i → l[j]? = some o → ops[i]? = some o := by
  have hs : ops.size = l.length + 1 := by rw [← Array.length_toList, h]; rfl
  refine ⟨by rw [hs, List.range_succ_eq_map], by rw [← Array.getElem?_toList, h]; rfl, fun j i o h1 h2 => ?_⟩
  have hj : j < l.length := (List.getElem?_eq_some_iff.1 h2).1
  rw [List.getElem?_map, List.getElem?_range hj] at h1
  have : i = j + 1 := by simpa using h1.symm
  subst this
  rw [← Array.getElem?_toList, h]
  simpa using h2

section
variable {P : Program} {X : FuncId → Option Hook} {r : Rec}

theorem mlExit_ok {j : Nat} {k : KE} {σ : Sg} {m : Machine} {b : Frame} {K : List Item} {a : Act} {cs : List Frame} {w : World} {e : AExit} {cx : Cx} {s : St} (e1 : mlExit j k e cx s = .ok) (h : Arr P σ m b (.inBlock j :: K) a cs w e) :
    ∃ e', k e' cx s = .ok ∧ Arr P σ m b K a cs w e' := by
  cases e with
  | normal => exact ⟨.normal, e1, Steps.trans h (.one on_inBlock)⟩
  | exit i =>
    obtain ⟨todo, ht, hs⟩ := h
    have e2 : ifk (Nat.beq i j) (k .normal cx s) (k (.exit i) cx s) = .ok := e1
    rw [ifk_eq] at e2
    split at e2
    · rename_i hi
      have hi := nbeq hi
      subst hi
      have : exitTo i todo = some K := by rw [ht]; simp [exitTo]
      exact ⟨.normal, e2, hs.trans (.one (on_exit this))⟩
    · rename_i hi
      have hi : (j == i) = false := by
        have : j ≠ i := fun hh => hi (by subst hh; exact Nat.beq_refl _)
        simpa using this
      exact ⟨.exit i, e2, todo, by rw [ht]; simp [exitTo, hi], hs⟩
  | goto l =>
    obtain ⟨todo, ht, hs⟩ := h
    exact ⟨.goto l, e1, todo, by rw [ht]; rfl, hs⟩
  | ret => exact ⟨.ret, e1, h⟩
  | panic ch => exact ⟨.panic ch, e1, h⟩

theorem onTrue_ok {c : Operand} {cx : Cx} {t : Bool} {z : R} {σ : Sg} {s : St} {w : World} {n : Nat} {a : Act} (h : RepC P σ s w) (hf : FrRel σ n cx.fr a.tmps) (e : onTrue P c cx t z = .ok) : a.eval c = .bool t ∧ z = .ok := by
  obtain ⟨v, e1, hv⟩ := opk_ok h (hf.knows c) e
  obtain ⟨x, rfl, e2⟩ := AV.onBool_ok e1
  obtain ⟨hx, e3⟩ := ifk_no e2
  have hx : x = t := by simpa using hx
  subst hx
  generalize a.eval c = u at hv
  cases hv
  exact ⟨rfl, e3⟩
theorem itIs_ok {m : ML} {a : Adr} {fr : T AV} {z : R} {σ : Sg} {s : St} {w : World} {n : Nat} {A : Act} (h : RepC P σ s w) (hf : FrRel σ n fr A.tmps) {c sz : Nat} (ha : σ a = .at c 0 sz) (e : itIs P m a fr z = .ok) :
    A.eval m.it = .pointer (some ⟨c, 0, none⟩) ∧ z = .ok := by
  obtain ⟨v, e1, hv⟩ := opk_ok h (hf.knows m.it) e
  obtain ⟨q, off, rfl, e2⟩ := AV.onPtr_ok e1
  obtain ⟨hx, e3⟩ := ifk_no e2
  rw [Bool.and_eq_true] at hx
  have h0 := nbeq hx.1
  have h1 := abeq hx.2
  subst h0; subst h1
  generalize A.eval m.it = u at hv
  cases hv with
  | ptr _ _ c' sh' sz' e' =>
  rw [ha] at e'; cases e'
  exact ⟨rfl, e3⟩

theorem mlBack_did {σ τ : Sg} {s t : St} {w u : World} {o : Option (Nat × Bool)} (hbd : s.bd = s.nx.nat) (hnz : s.nx.nat ≠ 0) (ho : ∀ p, o = some p → p.1 ≤ s.nx.nat) (hd : Did2 P σ s w τ t u) (hwl : t.wl = false) : Did2 P σ (mlBack o s) w τ (mlBack o t) u := by
  cases o with
  | none => exact hd
  | some p =>
    obtain ⟨hr, he⟩ := hd
    refine ⟨⟨⟨hr.glob, hr.obj, hr.lt, hr.inj⟩, hr.fresh, Nat.le_trans (ho p rfl) he.nx, hr.over⟩, ?_⟩
    refine { le := he.le, none := he.none, nx := he.nx, size := he.size, frame := he.frame, range := he.range, os := he.os, output := he.output, tape := he.tape, bd := rfl, wl := fun e => ?_ }
    exact ⟨e, fun _ a ha => (he.wl hwl).2 (by rw [hbd]; exact hnz) a (by rw [hbd]; exact Nat.lt_of_lt_of_le ha (ho p rfl))⟩
theorem mlRound_ok (hP : Fit P) (hX : ∀ f h, X f = some h → HookOk P f h) (hr : RecOk P r) {m : ML} {body : Code} {i1 i2 : Nat} (hm : IsML body m i1 i2) {a q : Adr} {fr : T AV} {cx : Cx} {s : St} {e : AV × AV} {k : KE} {o : Option (Nat × Bool)} (ho : ∀ p, o = some p → p.1 ≤ s.nx.nat)
    {σ : Sg} {w : World} {base : List Frame} {b : Frame} {a0 : Act} {cs : List Frame} {K : List Item} {c sz bm sh' sz' since clk : Nat} {seen : Array Nat} {en : Array MapEntry} {ent : MapEntry} {es : List (AV × AV)} {ck : Nat}
    (hlt1 : allLt cx.n (dstsO m.ops.toList) = true) (hlt2 : allLt cx.n (dstsO m.ops2.toList) = true) (e1 : mlRound P X m a fr r cx s o e k = .ok) (h : Rep P σ s w) (hbd : s.bd = s.nx.nat) (hnz : s.nx.nat ≠ 0)
    (hc : CxRel σ base b ⟨fr, cx.n, cx.defs, cx.up⟩ a0 cs) (hia : σ a = .at c 0 sz) (hany : T.get a s.heap = some .any) (hq : σ q = .at bm sh' sz') (hmap : T.get q s.heap = some (.map es ck))
    (hiter : w.heap[c]? = some (.mapIter (some bm) since (seen.push ent.born) clk)) (hmc : w.heap[bm]? = some (.map en clk)) (hent : ent ∈ en.toList) (hnd : (en.toList.map (·.born)).Nodup) (hk : RelV σ e.1 ent.key) (hv : RelV σ e.2 ent.val) :
    Ran P σ (mlBack o s) w base b cx (lone (b.on (a0.put m.nx.dst (.tuple #[.bool true, ent.key, ent.val])) (.inRegion m.ops ((List.range m.r1.length).map (· + 1)) ::
      .code (.seq (.cond m.c m.thn m.els) (.block m.j (.seq (.region i2 m.ops2 false) m.body))) :: .inLoop body :: K)) cs w) (.inLoop body :: K) k := by
  have t1 := range_tail hm.ops1
  have t2 := range_tail hm.ops2
  have lt1 : ∀ o ∈ m.nx :: m.r1, ∀ d, o.dst = some d → d < cx.n := fun o ho d hd => allLt_ok hlt1 d (dstsO_mem (by rw [hm.ops1]; exact ho) hd)
  have lt2 : ∀ o ∈ m.en :: m.r2, ∀ d, o.dst = some d → d < cx.n := fun o ho d hd => allLt_ok hlt2 d (dstsO_mem (by rw [hm.ops2]; exact ho) hd)
  obtain ⟨fr1, e2, hfr1⟩ := putk_ok (a := a0) (x := .tuple #[.bool true, ent.key, ent.val]) hc.fr (fun d hd => lt1 m.nx (by simp) d hd) (.tuple _ _ (.cons _ _ _ _ (.bool true) (.cons _ _ _ _ hk (.cons _ _ _ _ hv .nil)))) e1
  obtain ⟨ex, cx1, s1, τ1, w1, a1, cs1, e3, hd1, hc1, hn1, harr1⟩ := opsL_ok hP hX hr (K := .code (.seq (.cond m.c m.thn m.els) (.block m.j (.seq (.region i2 m.ops2 false) m.body))) :: .inLoop body :: K) (base := base) (b := b) m.r1 ((List.range m.r1.length).map (· + 1)) (by simp) t1.2.2
    ⟨fr1, cx.n, cx.defs, cx.up⟩ s _ σ w (a0.put m.nx.dst (.tuple #[.bool true, ent.key, ent.val])) cs (fun o ho d hd => lt1 o (by simp [ho]) d hd) e2 h ⟨hfr1, by rw [put_defers]; exact hc.defs, hc.up⟩
  cases ex <;> first | (exact (no_ok (n := 303) e3).elim) | skip
  case normal =>
  have hs1 : Steps P _ _ := harr1
  obtain ⟨hcond, e4⟩ := onTrue_ok hd1.1.toRepC hc1.fr e3
  have hs2 := hs1.trans (.head on_seq (.one (on_cond hcond)))
  simp only [if_true] at hs2
  obtain ⟨ex, cx2, s2, τ2, w2, a2, cs2, e5, hd2, hc2, hn2, harr2⟩ := hr.code m.thn cx1 s1 _ τ1 w1 base b a1 cs1 (.code (.block m.j (.seq (.region i2 m.ops2 false) m.body)) :: .inLoop body :: K) _ (.code m.thn) e4 hd1.1 hc1
  cases ex <;> first | (exact (no_ok (n := 301) e5).elim) | skip
  case normal =>
  have hs3 := hs2.trans harr2
  have e6 : ifk s2.wl (.no 316) (itIs P m a cx2.fr (putk m.en.dst (.tuple [e.1, e.2]) cx2.fr fun fr => opsRun P X r m.ops2 m.r2 ⟨fr, cx2.n, cx2.defs, cx2.up⟩ (mlBack o s2) (onNormal 300 fun cx s => r.code m.body cx s (mlExit m.j k)))) = .ok := e5
  rw [ifk_eq] at e6
  split at e6
  · exact (no_ok e6).elim
  rename_i hwl
  have hwl : s2.wl = false := by simpa using hwl
  have hd12 := hd1.trans hd2
  have keep : ∀ (x : Adr) (c sh sz : Nat), σ x = .at c sh sz → T.get x s.heap ≠ none → w2.heap[c]? = w.heap[c]? := fun x c sh sz hx hl =>
    ((hd12.2.wl hwl).2 (by rw [hbd]; exact hnz) x (by rw [hbd]; exact h.fresh x (by rw [hx]; simp))).2 c sh sz hx hl
  have hiter2 := (keep a c 0 sz hia (by rw [hany]; simp)).trans hiter
  have hmc2 := (keep q bm sh' sz' hq (by rw [hmap]; simp)).trans hmc
  obtain ⟨hit, e7⟩ := itIs_ok hd2.1.toRepC hc2.fr (hd12.2.le _ _ _ _ hia) e6
  have hdB := mlBack_did hbd hnz ho hd12 hwl
  have hrun := run_entry_at (P := P) w2 c bm since seen en clk ent hiter2 hmc2 hent hnd
  have hrun' : (execOp a2.eval m.en).run P w2 = .ok (.value (.tuple #[ent.key, ent.val])) w2 := by
    simp only [execOp, hm.enop, hit, Sem.run_bind, hrun, Result.andThen_ok, Sem.run_pure]
    try rfl
  have hs4 := hs3.trans (.head on_block (.head on_seq (.head on_region (.one (by
    rw [t2.1]
    exact on_op_val t2.2.1 hm.g2 (by rw [hm.enop]; intro c hc; cases hc) hrun')))))
  have hn12 : cx2.n = cx.n := hn2.trans hn1
  obtain ⟨fr3, e8, hfr3⟩ := putk_ok (a := a2) (x := .tuple #[ent.key, ent.val]) hc2.fr (fun d hd => by rw [hn12]; exact lt2 m.en (by simp) d hd) (.tuple _ _ (.cons _ _ _ _ (hk.mono hd12.2.le) (.cons _ _ _ _ (hv.mono hd12.2.le) .nil))) e7
  obtain ⟨ex, cx3, s3, τ3, w3, a3, cs3, e9, hd3, hc3, hn3, harr3⟩ := opsL_ok hP hX hr (K := .code m.body :: .inBlock m.j :: .inLoop body :: K) (base := base) (b := b) m.r2 ((List.range m.r2.length).map (· + 1)) (by simp) t2.2.2
    ⟨fr3, cx2.n, cx2.defs, cx2.up⟩ (mlBack o s2) _ τ2 w2 (a2.put m.en.dst (.tuple #[ent.key, ent.val])) cs2 (fun o ho d hd => by show d < cx2.n; rw [hn12]; exact lt2 o (by simp [ho]) d hd) e8 hdB.1 ⟨hfr3, by rw [put_defers]; exact hc2.defs, hc2.up⟩
  cases ex <;> first | (exact (no_ok (n := 300) e9).elim) | skip
  case normal =>
  have hs5 := hs4.trans harr3
  obtain ⟨ex, cx4, s4, τ4, w4, a4, cs4, e10, hd4, hc4, hn4, harr4⟩ := hr.code m.body cx3 s3 _ τ3 w3 base b a3 cs3 (.inBlock m.j :: .inLoop body :: K) _ (.code m.body) e9 hd3.1 hc3
  obtain ⟨e', e11, harr5⟩ := mlExit_ok e10 (harr4.of_steps hs5)
  exact ⟨e', cx4, s4, τ4, w4, a4, cs4, e11, hdB.trans (hd3.trans hd4), hc4, hn4.trans (hn3.trans hn12), harr5⟩

theorem mlOver_ok (hP : Fit P) (hX : ∀ f h, X f = some h → HookOk P f h) (hr : RecOk P r) {m : ML} {body : Code} {i1 i2 : Nat} (hm : IsML body m i1 i2) {fr : T AV} {cx : Cx} {s : St} {k : KE}
    {σ : Sg} {w : World} {base : List Frame} {b : Frame} {a0 : Act} {cs : List Frame} {K : List Item}
    (hlt1 : allLt cx.n (dstsO m.ops.toList) = true) (e1 : mlOver P X m fr r cx s k = .ok) (h : Rep P σ s w) (hc : CxRel σ base b ⟨fr, cx.n, cx.defs, cx.up⟩ a0 cs) :
    Ran P σ s w base b cx (lone (b.on (a0.put m.nx.dst (.tuple #[.bool false])) (.inRegion m.ops ((List.range m.r1.length).map (· + 1)) ::
      .code (.seq (.cond m.c m.thn m.els) (.block m.j (.seq (.region i2 m.ops2 false) m.body))) :: .inLoop body :: K)) cs w) K k := by
  have t1 := range_tail hm.ops1
  have lt1 : ∀ o ∈ m.nx :: m.r1, ∀ d, o.dst = some d → d < cx.n := fun o ho d hd => allLt_ok hlt1 d (dstsO_mem (by rw [hm.ops1]; exact ho) hd)
  obtain ⟨fr1, e2, hfr1⟩ := putk_ok (a := a0) (x := .tuple #[.bool false]) hc.fr (fun d hd => lt1 m.nx (by simp) d hd) (.tuple _ _ (.cons _ _ _ _ (.bool false) .nil)) e1
  obtain ⟨ex, cx1, s1, τ1, w1, a1, cs1, e3, hd1, hc1, hn1, harr1⟩ := opsL_ok hP hX hr (K := .code (.seq (.cond m.c m.thn m.els) (.block m.j (.seq (.region i2 m.ops2 false) m.body))) :: .inLoop body :: K) (base := base) (b := b) m.r1 ((List.range m.r1.length).map (· + 1)) (by simp) t1.2.2
    ⟨fr1, cx.n, cx.defs, cx.up⟩ s _ σ w (a0.put m.nx.dst (.tuple #[.bool false])) cs (fun o ho d hd => lt1 o (by simp [ho]) d hd) e2 h ⟨hfr1, by rw [put_defers]; exact hc.defs, hc.up⟩
  cases ex <;> first | (exact (no_ok (n := 309) e3).elim) | skip
  case normal =>
  have hs1 : Steps P _ _ := harr1
  obtain ⟨hcond, e4⟩ := onTrue_ok hd1.1.toRepC hc1.fr e3
  have hs2 := hs1.trans (.head on_seq (.one (on_cond hcond)))
  simp only [Bool.false_eq_true, if_false] at hs2
  obtain ⟨ex, cx2, s2, τ2, w2, a2, cs2, e5, hd2, hc2, hn2, harr2⟩ := hr.code m.els cx1 s1 _ τ1 w1 base b a1 cs1 (.code (.block m.j (.seq (.region i2 m.ops2 false) m.body)) :: .inLoop body :: K) _ (.code m.els) e4 hd1.1 hc1
  have harr3 := harr2.of_steps hs2
  have fin : ex ≠ .normal → k ex cx2 s2 = .ok → _ := fun hne e6 => (⟨ex, cx2, s2, τ2, w2, a2, cs2, e6, hd1.trans hd2, hc2, hn2.trans hn1, (harr3.pass rfl hne).pass rfl hne⟩ : Ran P σ s w base b cx _ K k)
  cases ex with
  | normal => exact (no_ok (n := 317) e5).elim
  | exit i => exact fin (by simp) e5
  | goto i => exact fin (by simp) e5
  | ret => exact fin (by simp) e5
  | panic ch => exact fin (by simp) e5
end
end Go.Ev

/- Control: a range over a map. -/
namespace Go.Ev
open Go

theorem EsRel.get {σ : Sg} {es : List (AV × AV)} {en : List MapEntry} (h : EsRel σ es en) : es.length = en.length ∧ ∀ (i : Nat) (e : AV × AV) (x : MapEntry), es[i]? = some e → en[i]? = some x → RelV σ e.1 x.key ∧ RelV σ e.2 x.val := by
  induction h with
  | nil => exact ⟨rfl, fun i e x h => by simp at h⟩
  | cons k v x xs es hk hv t ih =>
    refine ⟨by simp [ih.1], fun i e y h1 h2 => ?_⟩
    cases i with
    | zero => simp at h1 h2; subst h1; subst h2; exact ⟨hk, hv⟩
    | succ i => exact ih.2 i e y (by simpa using h1) (by simpa using h2)
theorem born_at : ∀ {l : List MapEntry} (_ : (l.map (·.born)).Nodup) {i j : Nat} {x y : MapEntry}, l[i]? = some x → l[j]? = some y → x.born = y.born → i = j := by
  intro l hn i j x y h1 h2 h3
  have g1 : (l.map (·.born))[i]? = some x.born := by rw [List.getElem?_map, h1]; rfl
  have g2 : (l.map (·.born))[j]? = some x.born := by rw [List.getElem?_map, h2, h3]; rfl
  have hi : i < (l.map (·.born)).length := (List.getElem?_eq_some_iff.1 g1).1
  exact (List.getElem?_inj hi hn).1 (g1.trans g2.symm)

section
variable {P : Program} {X : FuncId → Option Hook} {r : Rec}

theorem Ran.of_steps {σ : Sg} {s : St} {w : World} {base : List Frame} {b : Frame} {cx : Cx} {m m1 : Machine} {K : List Item} {k : KE} (hs : Steps P m m1) (h : Ran P σ s w base b cx m1 K k) : Ran P σ s w base b cx m K k := by
  obtain ⟨e, cx', s', τ, w', a', cs', e1, hd, hc, hn, harr⟩ := h
  exact ⟨e, cx', s', τ, w', a', cs', e1, hd, hc, hn, harr.of_steps hs⟩
theorem Ran.of_did {σ τ : Sg} {s t : St} {w u : World} {base : List Frame} {b : Frame} {cx : Cx} {m : Machine} {K : List Item} {k : KE} (hd : Did2 P σ s w τ t u) (h : Ran P τ t u base b cx m K k) : Ran P σ s w base b cx m K k := by
  obtain ⟨e, cx', s', τ, w', a', cs', e1, hd', hc, hn, harr⟩ := h
  exact ⟨e, cx', s', τ, w', a', cs', e1, hd.trans hd', hc, hn, harr⟩
theorem Did2.outer {σ τ : Sg} {s t : St} {w u : World} (h : Rep P σ s w) (hd : Did2 P σ ⟨s.heap, s.nx, s.nx.nat, false⟩ w τ t u) (hnz : s.nx.nat ≠ 0) : Did2 P σ s w τ ⟨t.heap, t.nx, s.bd, s.wl || t.wl⟩ u := by
  obtain ⟨hr, he⟩ := hd
  refine ⟨⟨⟨hr.glob, hr.obj, hr.lt, hr.inj⟩, hr.fresh, Nat.le_trans h.bd he.nx, hr.over⟩, ?_⟩
  refine { le := he.le, none := he.none, nx := he.nx, size := he.size, frame := he.frame, range := he.range, os := he.os, output := he.output, tape := he.tape, bd := rfl, wl := fun e => ?_ }
  have e' : s.wl = false ∧ t.wl = false := by simpa using e
  exact ⟨e'.1, fun _ a ha => (he.wl e'.2).2 hnz a (Nat.lt_of_lt_of_le ha h.bd)⟩

theorem mapGo_ok (hP : Fit P) (hX : ∀ f h, X f = some h → HookOk P f h) (hr : RecOk P r) {m : ML} {body : Code} {i1 i2 : Nat} (hm : IsML body m i1 i2) {a q : Adr} {fr : T AV} {cx : Cx} {s : St} {k : KE}
    {σ : Sg} {base : List Frame} {b : Frame} {K : List Item} {c sz bm sh' sz' since : Nat} {en : Array MapEntry} {es : List (AV × AV)}
    (hlt1 : allLt cx.n (dstsO m.ops.toList) = true) (hlt2 : allLt cx.n (dstsO m.ops2.toList) = true) (e1 : mlGo P X m a fr r cx s s.nx.nat k es = .ok) (hnz : s.nx.nat ≠ 0) (hit : itIs P m a fr .ok = .ok)
    (hia : σ a = .at c 0 sz) (hany : T.get a s.heap = some .any) (hwl : s.wl = false → s.bd ≠ 0 → s.bd ≤ a.nat) (hq : σ q = .at bm sh' sz') (hmap : T.get q s.heap = some (.map es since))
    (hes : EsRel σ es en.toList) (hborn : ∀ x ∈ en.toList, x.born < since) (hnd : (en.toList.map (·.born)).Nodup) :
    ∀ (N : Nat) (seen : Array Nat) (w : World) (a0 : Act) (cs : List Frame) (c0 : Nat), (leftOf en seen).size = N → Rep P σ s w → CxRel σ base b ⟨fr, cx.n, cx.defs, cx.up⟩ a0 cs →
      w.heap[c]? = some (.mapIter (some bm) since seen c0) → since ≤ c0 → w.heap[bm]? = some (.map en since) →
      (∀ (i : Nat) (x : MapEntry) (e : AV × AV), en.toList[i]? = some x → es[i]? = some e → mlStill P X m a fr r cx s s.nx.nat e ≠ .ok → x.born ∉ seen) →
      Ran P σ s w base b cx (lone (b.on a0 (.code body :: .inLoop body :: K)) cs w) K k := by
  have t1 := range_tail hm.ops1
  have hen := hes.get
  have hbody : Item.code body = Item.code (.seq (.region i1 m.ops false) (.seq (.cond m.c m.thn m.els) (.block m.j (.seq (.region i2 m.ops2 false) m.body)))) := congrArg _ hm.code
  have hlive : T.get a s.heap ≠ none := by rw [hany]; simp
  have hliveq : T.get q s.heap ≠ none := by rw [hmap]; simp
  have hinl : ∀ (x : MapEntry) (seen : Array Nat), x ∈ en.toList → x.born ∉ seen → x ∈ (leftOf en seen).toList := fun x seen h1 h2 => by
    simp only [leftOf, Array.toList_filter, List.mem_filter, h1, true_and]
    simpa using h2
  intro N
  induction N using Nat.strongRecOn with
  | _ N ih =>
  intro seen w a0 cs c0 hN h hc hiter hsc hmc hnot
  have hev := (itIs_ok h.toRepC hc.fr hia hit).1
  have hstart : Steps P (lone (b.on a0 (.code body :: .inLoop body :: K)) cs w) (lone (b.on a0 (.inRegion m.ops (0 :: (List.range m.r1.length).map (· + 1)) :: .code (.seq (.cond m.c m.thn m.els) (.block m.j (.seq (.region i2 m.ops2 false) m.body))) :: .inLoop body :: K)) cs w) := by
    rw [hbody, ← t1.1]
    exact .head on_seq (.one on_region)
  have hop : ∀ {x w'}, (Instr.next (.pointer (some ⟨c, 0, none⟩)) false m.nx.type).run P w = .ok x w' → Steps P (lone (b.on a0 (.code body :: .inLoop body :: K)) cs w)
      (lone (b.on (a0.put m.nx.dst x) (.inRegion m.ops ((List.range m.r1.length).map (· + 1)) :: .code (.seq (.cond m.c m.thn m.els) (.block m.j (.seq (.region i2 m.ops2 false) m.body))) :: .inLoop body :: K)) cs w') := fun {x w'} hrun => by
    refine hstart.trans (.one (on_op_val t1.2.1 hm.g1 (by rw [hm.nxop]; intro c hc; cases hc) ?_))
    simp only [execOp, hm.nxop, hev, Sem.run_bind, hrun, Result.andThen_ok, Sem.run_pure]
    try rfl
  rcases run_next_at (P := P) w m.nx.type c bm since c0 seen en since hiter hmc hborn hsc with ⟨hz, hrun⟩ | ⟨ent, hent, w1, hw1, hrun⟩
  · rcases mlGo_split e1 with ⟨hover, _⟩ | ⟨i, e, hi, hno, _, _⟩
    · exact (mlOver_ok hP hX hr hm hlt1 hover h hc).of_steps (hop hrun)
    · exfalso
      have hil : i < en.toList.length := by rw [← hen.1]; exact (List.getElem?_eq_some_iff.1 hi).1
      obtain ⟨x, hx⟩ : ∃ x, en.toList[i]? = some x := ⟨_, List.getElem?_eq_getElem hil⟩
      have := hinl x seen (List.mem_of_getElem? hx) (hnot i x e hx hi hno)
      rw [Array.eq_empty_of_size_eq_zero hz] at this
      simp at this
  · have hentm : ent ∈ en.toList ∧ ent.born ∉ seen := by
      simp only [leftOf, Array.toList_filter, List.mem_filter] at hent
      exact ⟨hent.1, by simpa using hent.2⟩
    obtain ⟨i, hi⟩ := List.mem_iff_getElem?.1 hentm.1
    have hil : i < es.length := by rw [hen.1]; exact (List.getElem?_eq_some_iff.1 hi).1
    obtain ⟨e, he⟩ : ∃ e, es[i]? = some e := ⟨_, List.getElem?_eq_getElem hil⟩
    obtain ⟨hk, hv⟩ := hen.2 i e ent he hi
    obtain ⟨dr, hw0⟩ : ∃ dr, ChangeMaps.setBlock w1 c (.mapIter (some bm) since (seen.push ent.born) since) = (w.draw dr).upd c (.mapIter (some bm) since (seen.push ent.born) since) := by
      rcases hw1 with rfl | rfl
      · exact ⟨w1.drawn, rfl⟩
      · exact ⟨w.drawn + 1, rfl⟩
    rw [hw0] at hrun
    have hd0 := Did2.goes h hia hany hwl dr (.mapIter (some bm) since (seen.push ent.born) since)
    have hcsz : c < w.heap.size := h.lt _ _ _ _ hia
    have hcb : c ≠ bm := by intro hh; rw [hh, hmc] at hiter; cases hiter
    have hiter0 : ((w.draw dr).upd c (.mapIter (some bm) since (seen.push ent.born) since)).heap[c]? = some (.mapIter (some bm) since (seen.push ent.born) since) := upd_get _ _ _ hcsz
    have hmc0 : ((w.draw dr).upd c (.mapIter (some bm) since (seen.push ent.born) since)).heap[bm]? = some (.map en since) := (upd_get_ne _ _ _ _ hcb).trans hmc
    generalize (w.draw dr).upd c (.mapIter (some bm) since (seen.push ent.born) since) = w0 at hrun hd0 hiter0 hmc0
    have hsteps := hop hrun
    have round : ∀ {k' : KE} {o : Option (Nat × Bool)}, (∀ p, o = some p → p.1 ≤ s.nx.nat) → mlRound P X m a fr r cx ⟨s.heap, s.nx, s.nx.nat, false⟩ o e k' = .ok → Ran P σ (mlBack o ⟨s.heap, s.nx, s.nx.nat, false⟩) w0 base b cx (lone (b.on a0 (.code body :: .inLoop body :: K)) cs w) (.inLoop body :: K) k' := fun {k' o} ho e2 =>
      (mlRound_ok (s := ⟨s.heap, s.nx, s.nx.nat, false⟩) (es := es) (ck := since) hP hX hr hm (o := o) ho hlt1 hlt2 e2 hd0.1.inner rfl hnz hc hia hany hq hmap hiter0 hmc0 hentm.1 hnd hk hv).of_steps hsteps
    have still : mlStill P X m a fr r cx s s.nx.nat e = .ok → Ran P σ s w base b cx (lone (b.on a0 (.code body :: .inLoop body :: K)) cs w) K k := fun e2 => by
      obtain ⟨ex, cx1, s1, τ, w', a1, cs1, e3, hd1, hc1, hn1, harr1⟩ := round (o := none) (fun p hp => by cases hp) e2
      cases ex <;> first | (exact (no_ok (n := 307) e3).elim) | skip
      case normal =>
      have e4 : mlSame fr cx.defs cx.up cx1 s1 = .ok := e3
      have hs : cx.defs = [] ∧ cx1.defs = [] ∧ cx.up = .no ∧ cx1.up = .no ∧ lessT fr cx1.fr = true ∧ s1.wl = false := by
        unfold mlSame at e4
        split at e4
        · rename_i h1 h2 h3 h4
          obtain ⟨hb, _⟩ := ifk_no e4
          rw [Bool.and_eq_true] at hb
          exact ⟨h1, h2, h3, h4, hb.1, by simpa using hb.2⟩
        · exact (no_ok e4).elim
      obtain ⟨h1, h2, h3, h4, h5, h6⟩ := hs
      have hd2 := Did2.back hd0.1 hnz hd1.2 h6
      have keep : ∀ (x : Adr) (c sh sz : Nat), σ x = .at c sh sz → T.get x s.heap ≠ none → w'.heap[c]? = w0.heap[c]? := fun x c sh sz hx hl => ((hd1.2.wl h6).2 hnz x (h.fresh x (by rw [hx]; simp))).2 c sh sz hx hl
      have hc2 : CxRel σ base b ⟨fr, cx.n, cx.defs, cx.up⟩ a1 cs1 := by
        refine ⟨⟨?_, fun t v hv => ?_⟩, ?_, ?_⟩
        · have := hc1.fr.1
          rw [hn1] at this; exact this
        · have hσ := hc.fr.2 t v hv
          rcases lessT_ok h5 _ _ hv with rfl | hv'
          · exact .top _
          · exact RelV.back hd1.2.le (hc1.fr.2 t v hv') hσ
        · have := hc1.defs
          rw [h2] at this
          show DefsRel σ cx.defs a1.defers
          rw [h1]
          generalize a1.defers = ds at this
          cases this; exact .nil
        · have hu := hc1.up
          rw [h4] at hu
          show UpRel σ base cx.up b.kind b.roundOf cs1
          rw [h3]
          generalize b.kind = kk at hu
          generalize b.roundOf = rr at hu
          cases hu; exact .no
      have hnext : Steps P (lone (b.on a0 (.code body :: .inLoop body :: K)) cs w) (lone (b.on a1 (.code body :: .inLoop body :: K)) cs1 w') := Steps.trans harr1 (.one on_inLoop)
      refine Ran.of_steps hnext (Ran.of_did (hd0.trans hd2) (ih _ ?_ (seen.push ent.born) w' a1 cs1 since rfl hd2.1 hc2 ((keep a c 0 sz hia hlive).trans hiter0) (Nat.le_refl _) ((keep q bm sh' sz' hq hliveq).trans hmc0) ?_))
      · rw [← hN]; exact left_lt hent
      · intro j x e' hx he' hne
        rw [Array.mem_push, not_or]
        refine ⟨hnot j x e' hx he' hne, fun hb => ?_⟩
        have := born_at hnd hx hi hb
        subst this
        rw [he] at he'; cases he'
        exact hne e2
    rcases mlGo_split e1 with ⟨_, hall⟩ | ⟨p, ep, hp, hno, hothers, hround⟩
    · exact still (hall e (List.mem_of_getElem? he))
    · by_cases hip : i = p
      · subst hip
        rw [he] at hp; cases hp
        obtain ⟨ex, cx1, s1, τ, w', a1, cs1, e3, hd1, hc1, hn1, harr1⟩ := round (o := some (s.bd, s.wl)) (fun p hp => by cases hp; exact h.bd) hround
        have hd1 : Did2 P σ s w0 τ s1 w' := hd1
        have fin : ex ≠ .normal → k ex cx1 s1 = .ok → Ran P σ s w base b cx (lone (b.on a0 (.code body :: .inLoop body :: K)) cs w) K k := fun hne e4 =>
          ⟨ex, cx1, _, τ, w', a1, cs1, e4, hd0.trans hd1, hc1, hn1, harr1.pass rfl hne⟩
        cases ex with
        | normal => exact (no_ok (n := 310) e3).elim
        | exit j => exact fin (by simp) e3
        | goto j => exact fin (by simp) e3
        | ret => exact fin (by simp) e3
        | panic ch => exact fin (by simp) e3
      · exact still (hothers i e he hip)

theorem itIs_any {m : ML} (ht : ∃ t, m.it = .tmp t) {fr : T AV} {Z : Adr → R} (e : opk m.it P fr (fun v => v.onPtr (fun a off => ifk (Nat.beq off 0) (Z a) (.no 315)) (.no 312)) = .ok) : ∃ a, itIs P m a fr .ok = .ok ∧ Z a = .ok := by
  obtain ⟨t, ht⟩ := ht
  unfold itIs
  rw [ht] at e ⊢
  have hz1 : Option.rec (motive := fun _ => R) ((fun v : AV => v.onPtr (fun a off => ifk (Nat.beq off 0) (Z a) (.no 315)) (.no 312)) .top) (fun v : AV => v.onPtr (fun a off => ifk (Nat.beq off 0) (Z a) (.no 315)) (.no 312)) (T.get (adr t) fr) = .ok := e
  have goal : ∀ q, (Option.rec (motive := fun _ => R) ((fun v : AV => v.onPtr (fun b off => ifk (Nat.beq off 0 && Adr.beq q b) .ok (.no 315)) (.no 312)) .top) (fun v : AV => v.onPtr (fun b off => ifk (Nat.beq off 0 && Adr.beq q b) .ok (.no 315)) (.no 312)) (T.get (adr t) fr) : R) = .ok →
      opk (.tmp t) P fr (fun v => v.onPtr (fun b off => ifk (Nat.beq off 0 && Adr.beq q b) .ok (.no 315)) (.no 312)) = .ok := fun q h => h
  cases hg : T.get (adr t) fr with
  | none => rw [hg] at hz1; exact (no_ok hz1).elim
  | some v =>
    rw [hg] at hz1
    obtain ⟨a', off, rfl, hz2⟩ := AV.onPtr_ok hz1
    obtain ⟨h0, hz3⟩ := ifk_no hz2
    refine ⟨a', goal a' ?_, hz3⟩
    rw [hg]
    show ifk (Nat.beq off 0 && Adr.beq a' a') .ok (.no 315) = .ok
    rw [h0, (Adr.beq_iff _ _).2 rfl]; rfl
theorem mapLoop_ok (hP : Fit P) (hX : ∀ f h, X f = some h → HookOk P f h) (hr : RecOk P r) {m : ML} {body : Code} (hm : mlOf body = some m) {cx : Cx} {s : St} {k : KE} {σ : Sg} {w : World} {base : List Frame} {b : Frame} {a : Act} {cs : List Frame} {K : List Item} {mc : Machine}
    (hs : Start b a cs w K (.loop body) mc) (e : mapLoop P X m body r cx s k = .ok) (h : Rep P σ s w) (hc : CxRel σ base b cx a cs) : Ran P σ s w base b cx mc K k := by
  obtain ⟨i1, i2, hm⟩ := mlOf_ok hm
  have hst : Steps P mc (lone (b.on a (.code body :: .inLoop body :: K)) cs w) := by
    cases hs with
    | code => exact .one on_loop
    | again => exact .one on_inLoop
  obtain ⟨fr, e1, hfr⟩ := topsk_ok e
  have hc' : CxRel σ base b ⟨fr, cx.n, cx.defs, cx.up⟩ a cs := ⟨hfr _ _ _ hc.fr, hc.defs, hc.up⟩
  obtain ⟨a1, hit, e2⟩ := itIs_any hm.it (Z := fun a => objk s a fun o => mapLoopAt P X m a fr r cx s k o) e1
  obtain ⟨o, ho, e3⟩ := objk_ok e2
  cases o <;> first | (exact (no_ok (n := 311) e3).elim) | skip
  case mapIter q ck =>
  obtain ⟨⟨es, ck'⟩, e4, hq⟩ : ∃ p : List (AV × AV) × Nat, (ifk (Nat.beq ck p.2 && allLt cx.n (dstsO m.ops.toList) && allLt cx.n (dstsO m.ops2.toList)) (putObjk s a1 (some .any) fun s => fN s.nx.nat fun bd => ifk (Nat.blt 0 bd) (mlGo P X m a1 fr r cx s bd k p.1) (.no 313)) (.no 314) : R) = .ok ∧ T.get q s.heap = some (.map p.1 p.2) := by
    obtain ⟨o, ho, e4⟩ := objk_ok (show objk s q (fun o => o.onMap (fun es c' => ifk (Nat.beq ck c' && allLt cx.n (dstsO m.ops.toList) && allLt cx.n (dstsO m.ops2.toList)) (putObjk s a1 (some .any) fun s => fN s.nx.nat fun bd => ifk (Nat.blt 0 bd) (mlGo P X m a1 fr r cx s bd k es) (.no 313)) (.no 314)) (.no 102)) = .ok from e3)
    obtain ⟨es, c, rfl, e5⟩ := AObj.onMap_ok e4
    exact ⟨(es, c), e5, ho⟩
  obtain ⟨hb, e5⟩ := ifk_no e4
  simp only [Bool.and_eq_true] at hb
  obtain ⟨⟨hck, hlt1⟩, hlt2⟩ := hb
  have hck := nbeq hck
  subst hck
  rw [putObjk_eq, fN_eq] at e5
  obtain ⟨hbd, e6⟩ := ifk_no e5
  have hnz : s.nx.nat ≠ 0 := by rw [Nat.blt_eq] at hbd; exact Nat.pos_iff_ne_zero.1 hbd
  -- where things lie
  obtain ⟨c, sz, hia⟩ : ∃ c sz, σ a1 = .at c 0 sz := by
    obtain ⟨v, e7, hv⟩ := opk_ok h.toRepC (hc'.fr.knows m.it) (show opk m.it P fr (fun v => v.onPtr (fun b off => ifk (Nat.beq off 0 && Adr.beq a1 b) .ok (.no 315)) (.no 312)) = .ok from hit)
    obtain ⟨q', off, rfl, e8⟩ := AV.onPtr_ok e7
    obtain ⟨hx, _⟩ := ifk_no e8
    rw [Bool.and_eq_true] at hx
    have := abeq hx.2
    subst this
    generalize a.eval m.it = u at hv
    cases hv with
    | ptr _ _ c sh sz hp =>
    obtain ⟨O, hO, hrel⟩ := h.obj a1 c sh sz _ hp ho
    cases hrel with
    | mapIter => exact ⟨c, sz, hp⟩
  obtain ⟨O, hO, hrel⟩ := h.obj a1 c 0 sz _ hia ho
  cases hrel with
  | mapIter _ _ bm sh' sz' _ hqat =>
  obtain ⟨O', hO', hrel'⟩ := h.obj q bm sh' sz' _ hqat hq
  cases hrel' with
  | map _ _ en _ _ hes hborn hnd =>
  have hlive : T.get a1 s.heap ≠ none := by rw [ho]; simp
  have hd := Did2.any h hia hlive
  have hqa : a1 ≠ q := by intro hh; subst hh; rw [ho] at hq; cases hq
  refine Ran.of_steps hst (Ran.of_did hd ?_)
  refine mapGo_ok hP hX hr hm hlt1 hlt2 e6 hnz hit hia (T.get_set_self _ _ _) (fun e7 => ?_) hqat ((T.get_set_ne _ hqa _).trans hq) hes hborn hnd _ #[] w a cs ck rfl hd.1 hc' hO (Nat.le_refl _) hO' (fun _ _ _ _ _ _ => by simp)
  intro hb0
  obtain ⟨_, h2⟩ := wl_lt e7
  exact Nat.le_of_not_lt fun hlt => h2 hb0 a1 hlt rfl
end
end Go.Ev
