/- The evaluator's calls and code agree with the machine's. -/
import Derived.Test.YtlohkhfopnkcmaaGreatDoorEvE
import Derived.Orders

/- Control: frames, and what stands around them. -/
namespace Go.Ev
open Go

/-- a frame that runs, as another one, with these temporaries -/
def _root_.Go.Frame.on (b : Frame) (a : Act) (todo : List Item) : Frame := { b with tmps := a.tmps, todo := todo, defers := a.defers, mode := .run }

theorem Frame.eval_on (b : Frame) (a : Act) (todo : List Item) (x : Operand) : (b.on a todo).eval x = a.eval x := by cases x <;> rfl
theorem Frame.eval_on' (b : Frame) (a : Act) (todo : List Item) : (b.on a todo).eval = a.eval := funext (Frame.eval_on b a todo)
theorem Frame.finish_on (b : Frame) (a : Act) (ops : Array Oper) (i : Nat) (rest : List Nat) (k : List Item) (v : Value) :
    (b.on a (.inRegion ops (i :: rest) :: k)).finish v = b.on (a.put ((ops[i]?).bind (·.dst)) v) (.inRegion ops rest :: k) := by
  cases h : (ops[i]?).bind (·.dst) <;> simp [Frame.finish, Frame.on, Act.put, h]

section moves
variable {P : Program} {b : Frame} {a : Act} {k : List Item} {cs : List Frame} {w : World}

theorem on_skip : step P (lone (b.on a (.code .skip :: k)) cs w) = .next (lone (b.on a k) cs w) := step_lone_go (by simp [stepG, stepG.exec, Frame.on])
theorem on_label {l : Nat} : step P (lone (b.on a (.code (.label l) :: k)) cs w) = .next (lone (b.on a k) cs w) := step_lone_go (by simp [stepG, stepG.exec, Frame.on])
theorem on_inBlock {id : Nat} : step P (lone (b.on a (.inBlock id :: k)) cs w) = .next (lone (b.on a k) cs w) := step_lone_go (by simp [stepG, stepG.exec, Frame.on])
theorem on_inScope {c : Code} : step P (lone (b.on a (.inScope c :: k)) cs w) = .next (lone (b.on a k) cs w) := step_lone_go (by simp [stepG, stepG.exec, Frame.on])
theorem on_seq {x y : Code} : step P (lone (b.on a (.code (.seq x y) :: k)) cs w) = .next (lone (b.on a (.code x :: .code y :: k)) cs w) := step_lone_go (by simp [stepG, stepG.exec, Frame.on])
theorem on_cond {c : Operand} {x y : Code} {t : Bool} (h : a.eval c = .bool t) : step P (lone (b.on a (.code (.cond c x y) :: k)) cs w) = .next (lone (b.on a (.code (if t then x else y) :: k)) cs w) :=
  step_lone_go (by
    have := Frame.eval_on b a (.code (.cond c x y) :: k) c
    simp only [Frame.on] at this
    simp [stepG, stepG.exec, Frame.on, this, h])
theorem on_block {id : Nat} {c : Code} : step P (lone (b.on a (.code (.block id c) :: k)) cs w) = .next (lone (b.on a (.code c :: .inBlock id :: k)) cs w) := step_lone_go (by simp [stepG, stepG.exec, Frame.on])
theorem on_loop {c : Code} : step P (lone (b.on a (.code (.loop c) :: k)) cs w) = .next (lone (b.on a (.code c :: .inLoop c :: k)) cs w) := step_lone_go (by simp [stepG, stepG.exec, Frame.on])
theorem on_inLoop {c : Code} : step P (lone (b.on a (.inLoop c :: k)) cs w) = .next (lone (b.on a (.code c :: .inLoop c :: k)) cs w) := step_lone_go (by simp [stepG, stepG.exec, Frame.on])
theorem on_scope {c : Code} : step P (lone (b.on a (.code (.scope c) :: k)) cs w) = .next (lone (b.on a (.code c :: .inScope c :: k)) cs w) := step_lone_go (by simp [stepG, stepG.exec, Frame.on])
theorem on_exit {id : Nat} {k' : List Item} (h : exitTo id k = some k') : step P (lone (b.on a (.code (.exit id) :: k)) cs w) = .next (lone (b.on a k') cs w) := step_lone_go (by simp [stepG, stepG.exec, Frame.on, h])
theorem on_goto {l : Nat} {k' : List Item} (h : gotoIn l k = some k') : step P (lone (b.on a (.code (.goto l) :: k)) cs w) = .next (lone (b.on a k') cs w) := step_lone_go (by simp [stepG, stepG.exec, Frame.on, h])
theorem on_ret (hr : b.roundOf = none) : step P (lone (b.on a (.code .ret :: k)) cs w) = .next (lone { b.on a (.code .ret :: k) with mode := .returning } cs w) := step_lone_go (by simp [stepG, stepG.exec, Frame.on, hr])
theorem on_end (hr : b.roundOf = none) : step P (lone (b.on a []) cs w) = .next (lone { b.on a [] with mode := .returning } cs w) := step_lone_go (by simp [stepG, stepG.exec, Frame.on, hr])
theorem on_region {id : Nat} {ops : Array Oper} : step P (lone (b.on a (.code (.region id ops false) :: k)) cs w) = .next (lone (b.on a (.inRegion ops (List.range ops.size) :: k)) cs w) := step_lone_go (by simp [stepG, stepG.exec, Frame.on])
theorem on_region_draw {id : Nat} {ops : Array Oper} : step P (lone (b.on a (.code (.region id ops true) :: k)) cs w) =
    .next (lone (b.on a (.inRegion ops (Region.schedule (P.follows .mixedOrders) ops (w.tape w.drawn (.order b.fn id))) :: k)) cs (w.draw (w.drawn + 1))) :=
  step_lone_go (by simp [stepG, stepG.exec, Frame.on, choose, Sem.run, Question.forced, Question.cut, World.draw])
theorem on_region_end {ops : Array Oper} : step P (lone (b.on a (.inRegion ops [] :: k)) cs w) = .next (lone (b.on a k) cs w) := step_lone_go (by simp [stepG, stepG.exec, Frame.on])
theorem on_op_skip {ops : Array Oper} {i : Nat} {rest : List Nat} (h : ((ops[i]?).map (Region.wanted · (yielded ops a.tmps))).getD false = false) :
    step P (lone (b.on a (.inRegion ops (i :: rest) :: k)) cs w) = .next (lone (b.on (a.put ((ops[i]?).bind (·.dst)) undef) (.inRegion ops rest :: k)) cs w) := by
  rw [← Frame.finish_on]
  exact step_lone_go (by
    have h' := h
    simp only [Frame.on] at *
    simp [stepG, stepG.exec, h'])
theorem stepG_on {ops : Array Oper} {i : Nat} {rest : List Nat} {o : Oper} (ho : ops[i]? = some o) (hw : Region.wanted o (yielded ops a.tmps) = true) (hd : b.roundOf = none ∨ ∀ c, o.op ≠ .defer c) :
    stepG P true { frame := b.on a (.inRegion ops (i :: rest) :: k), callers := cs, status := .running, dying := none } w =
      stepG.apply P true (b.on a (.inRegion ops (i :: rest) :: k)) cs none (execOp a.eval o) w := by
  have he := Frame.eval_on' b a (.inRegion ops (i :: rest) :: k)
  simp only [Frame.on] at he
  rcases hd with hd | hd
  · simp only [hd] at he
    simp [stepG, stepG.exec, stepG.oper, Frame.oper?, Frame.on, ho, hw, he, hd]
  · simp only [stepG, stepG.exec, stepG.oper, Frame.oper?, Frame.on, ho, Option.map_some, hw, Option.getD_some, if_true, he]
    split
    · rename_i l c h1 h2; exact absurd h2 (hd c)
    · rfl
end moves

-- what stands around a frame
inductive ModeRel (σ : Sg) : AMode → FrameMode → Prop where
  | returning : ModeRel σ .returning .returning
  | panicking (ch : List (AV × Bool)) (chain : List PanicEntry) (h : ChRel σ ch chain) : ModeRel σ (.panicking ch) (.panicking chain)
theorem ModeRel.mono {σ τ : Sg} (hl : σ.le τ) {m : AMode} {f : FrameMode} (h : ModeRel σ m f) : ModeRel τ m f := by
  cases h with
  | returning => exact .returning
  | panicking ch chain h => exact .panicking _ _ (h.mono hl)

/-- who called, and how: kind, round, and callers that stand for base -/
inductive UpRel (σ : Sg) (base : List Frame) : Up → CallKind → Option Nat → List Frame → Prop where
  | no : UpRel σ base .no .normal none base
  | round (l : Nat) : UpRel σ base .round .normal (some l) base
  | deferred (m : AMode) (mo : FrameMode) (c : Frame) (rest : List Frame) (hb : base = c :: rest) (hm : ModeRel σ m mo) : UpRel σ base (.deferred m) .deferred none ({ c with mode := mo } :: rest)
theorem UpRel.mono {σ τ : Sg} (hl : σ.le τ) {base : List Frame} {u : Up} {k : CallKind} {r : Option Nat} {cs : List Frame} (h : UpRel σ base u k r cs) : UpRel τ base u k r cs := by
  cases h with
  | no => exact .no
  | round l => exact .round l
  | deferred m mo c rest hb hm => exact .deferred _ _ _ _ hb (hm.mono hl)

/-- a context -/
structure CxRel (σ : Sg) (base : List Frame) (b : Frame) (cx : Cx) (a : Act) (cs : List Frame) : Prop where
  fr : FrRel σ cx.n cx.fr a.tmps
  defs : DefsRel σ cx.defs a.defers
  up : UpRel σ base cx.up b.kind b.roundOf cs

theorem DefRel.mono {σ τ : Sg} (hl : σ.le τ) {d : ADef} {e : Deferred} (h : DefRel σ d e) : DefRel τ d e := by
  cases h with
  | call f x cap as h => exact .call _ _ _ _ (h.mono hl)
  | collected a c sh sz h => exact .collected _ _ _ _ (hl _ _ _ _ h)
theorem DefsRel.mono {σ τ : Sg} (hl : σ.le τ) {d : List ADef} {e : List Deferred} (h : DefsRel σ d e) : DefsRel τ d e := by
  induction h with
  | nil => exact .nil
  | cons d e ds es h t ih => exact .cons _ _ _ _ (h.mono hl) ih
theorem CxRel.mono {σ τ : Sg} (hl : σ.le τ) {base : List Frame} {b : Frame} {cx : Cx} {a : Act} {cs : List Frame} (h : CxRel σ base b cx a cs) : CxRel τ base b cx a cs := ⟨h.fr.mono hl, h.defs.mono hl, h.up.mono hl⟩

/-- where a run comes to -/
def Arr (P : Program) (σ : Sg) (m : Machine) (b : Frame) (K : List Item) (a : Act) (cs : List Frame) (w : World) : AExit → Prop
  | .normal => Steps P m (lone (b.on a K) cs w)
  | .exit id => ∃ todo, exitTo id todo = exitTo id K ∧ Steps P m (lone (b.on a (.code (.exit id) :: todo)) cs w)
  | .goto l => ∃ todo, gotoIn l todo = gotoIn l K ∧ Steps P m (lone (b.on a (.code (.goto l) :: todo)) cs w)
  | .ret => ∃ todo, Steps P m (lone (b.on a (.code .ret :: todo)) cs w)
  | .panic ch => ∃ todo chain, ChRel σ ch chain ∧ (b.on a todo).catches P = false ∧ Steps P m (lone { b.on a todo with mode := .panicking chain } cs w)
theorem Arr.of_steps {P : Program} {σ : Sg} {m m1 : Machine} {b : Frame} {K : List Item} {a : Act} {cs : List Frame} {w : World} {e : AExit} (h : Steps P m m1) (h' : Arr P σ m1 b K a cs w e) : Arr P σ m b K a cs w e := by
  cases e with
  | normal => exact h.trans h'
  | exit id => obtain ⟨todo, ht, hs⟩ := h'; exact ⟨todo, ht, h.trans hs⟩
  | goto l => obtain ⟨todo, ht, hs⟩ := h'; exact ⟨todo, ht, h.trans hs⟩
  | ret => obtain ⟨todo, hs⟩ := h'; exact ⟨todo, h.trans hs⟩
  | panic ch => obtain ⟨todo, chain, hc, hcat, hs⟩ := h'; exact ⟨todo, chain, hc, hcat, h.trans hs⟩
/-- one thing less to do -/
theorem Arr.pass {P : Program} {σ : Sg} {m : Machine} {b : Frame} {x : Item} {K : List Item} {a : Act} {cs : List Frame} {w : World} {e : AExit} (hx : x.plain = true) (he : e ≠ .normal) (h : Arr P σ m b (x :: K) a cs w e) : Arr P σ m b K a cs w e := by
  cases e with
  | normal => exact absurd rfl he
  | exit id => obtain ⟨todo, ht, hs⟩ := h; exact ⟨todo, by rw [ht]; cases x <;> first | rfl | (cases hx; done), hs⟩
  | goto l => obtain ⟨todo, ht, hs⟩ := h; exact ⟨todo, by rw [ht]; cases x <;> first | rfl | (cases hx; done), hs⟩
  | ret => exact h
  | panic ch => exact h

/-- A run of code is as it is said. -/
def Ran (P : Program) (σ : Sg) (s : St) (w : World) (base : List Frame) (b : Frame) (cx : Cx) (m : Machine) (K : List Item) (k : AExit → Cx → St → R) : Prop :=
  ∃ e cx' s' τ w' a' cs', k e cx' s' = .ok ∧ Did2 P σ s w τ s' w' ∧ CxRel τ base b cx' a' cs' ∧ cx'.n = cx.n ∧ Arr P τ m b K a' cs' w' e
/-- where code begins; a loop's next round begins as the loop does -/
inductive Start (b : Frame) (a : Act) (cs : List Frame) (w : World) (K : List Item) : Code → Machine → Prop where
  | code (c : Code) : Start b a cs w K c (lone (b.on a (.code c :: K)) cs w)
  | again (c : Code) : Start b a cs w K (.loop c) (lone (b.on a (.inLoop c :: K)) cs w)
def CodeOk (P : Program) (r : Code → Cx → St → (AExit → Cx → St → R) → R) : Prop :=
  ∀ (c : Code) (cx : Cx) (s : St) (k : AExit → Cx → St → R) (σ : Sg) (w : World) (base : List Frame) (b : Frame) (a : Act) (cs : List Frame) (K : List Item) (m : Machine),
    Start b a cs w K c m → r c cx s k = .ok → Rep P σ s w → CxRel σ base b cx a cs → Ran P σ s w base b cx m K k
def ScopeOk (P : Program) (r : Code → Code → Cx → St → (AExit → Cx → St → R) → R) : Prop :=
  ∀ (body c : Code) (cx : Cx) (s : St) (k : AExit → Cx → St → R) (σ : Sg) (w : World) (base : List Frame) (b : Frame) (a : Act) (cs : List Frame) (K : List Item),
    r body c cx s k = .ok → Rep P σ s w → CxRel σ base b cx a cs → Ran P σ s w base b cx (lone (b.on a (.code c :: .inScope body :: K)) cs w) K k

/-- a frame that ends -/
inductive EndRel (P : Program) (σ : Sg) (fr : Frame) (w : World) : AEnd → Prop where
  | returned (v : AV) (x : Value) (fn : Func) (hm : fr.mode = .returning) (hd : fr.defers = []) (hf : P.funcs[fr.fn]? = some fn) (hr : (results fn fr.tmps).run P w = .ok x w) (h : RelV σ v x) : EndRel P σ fr w (.returned v)
  | panicked (ch : List (AV × Bool)) (chain : List PanicEntry) (fn : Func) (hm : fr.mode = .panicking chain) (hd : fr.defers = []) (hf : P.funcs[fr.fn]? = some fn) (h : ChRel σ ch chain) : EndRel P σ fr w (.panicked ch)
def CallOk (P : Program) (r : FuncId → List AV → Up → St → (AEnd → Up → St → R) → R) : Prop :=
  ∀ (f : FuncId) (args : List AV) (up : Up) (s : St) (k : AEnd → Up → St → R) (σ : Sg) (w : World) (base cs : List Frame) (kind : CallKind) (xs : Array Value),
    r f args up s k = .ok → Rep P σ s w → RelL σ args xs.toList → UpRel σ base up kind none cs →
    (∃ fn, P.funcs[f]? = some fn ∧ fn.body.isSome = true) ∧ ∃ e up' s' τ w' fr cs', k e up' s' = .ok ∧ Did2 P σ s w τ s' w' ∧ UpRel τ base up' kind none cs' ∧ Steps P (lone (Frame.enter P f xs kind) cs w) (lone fr cs' w') ∧ (fr.kind = kind ∧ fr.fn = f) ∧ EndRel P τ fr w' e
structure RecOk (P : Program) (r : Rec) : Prop where
  code : CodeOk P r.code
  call : CallOk P r.call
  scope : ScopeOk P r.scope

/-- what is known of a function is so -/
def HookOk (P : Program) (f : FuncId) (h : Hook) : Prop :=
  ∀ (r : Rec), RecOk P r → ∀ (args : List AV) (s : St) (k : AV → St → R) (σ : Sg) (w : World) (xs : Array Value) (cs : List Frame), h r args s k = .ok → Rep P σ s w → RelL σ args xs.toList →
    ∃ v x s' w' τ, k v s' = .ok ∧ Did2 P σ s w τ s' w' ∧ RelV τ v x ∧ ((callFunc f xs).run P w = .ok (.value x) w' ∨
      ((callFunc f xs).run P w = .ok (.enter f xs) w ∧ ∃ fr, Steps P (lone (Frame.enter P f xs .normal) cs w) (lone fr cs w') ∧ fr.leaving P w' (.returned x)))

section
variable {P : Program} {r : Rec}

theorem cSeq_ok (hr : RecOk P r) {x y : Code} {cx : Cx} {s : St} {k : KE} {σ : Sg} {w : World} {base : List Frame} {b : Frame} {a : Act} {cs : List Frame} {K : List Item} (e : cSeq x y r cx s k = .ok) (h : Rep P σ s w) (hc : CxRel σ base b cx a cs) :
    Ran P σ s w base b cx (lone (b.on a (.code (.seq x y) :: K)) cs w) K k := by
  obtain ⟨ex, cx1, s1, τ, w1, a1, cs1, e1, hd, hc1, hn, harr⟩ := hr.code x cx s _ σ w base b a cs (.code y :: K) _ (.code x) e h hc
  have harr := harr.of_steps (.one on_seq)
  cases ex with
  | normal =>
    obtain ⟨ex2, cx2, s2, υ, w2, a2, cs2, e2, hd2, hc2, hn2, harr2⟩ := hr.code y cx1 s1 k τ w1 base b a1 cs1 K _ (.code y) e1 hd.1 hc1
    exact ⟨ex2, cx2, s2, υ, w2, a2, cs2, e2, hd.trans hd2, hc2, hn2.trans hn, harr2.of_steps harr⟩
  | _ => exact ⟨_, cx1, s1, τ, w1, a1, cs1, e1, hd, hc1, hn, harr.pass rfl (by simp)⟩
theorem both_ok {x y : R} (e : both x y = .ok) : x = .ok ∧ y = .ok := by
  cases x with
  | ok => exact ⟨rfl, e⟩
  | no n => cases e
theorem AV.onBool_unk {v : AV} {k : Bool → R} {x y : R} (h : v.onBool k (condUnk v x y) = .ok) : (∃ b, v = .bool b ∧ k b = .ok) ∨ (v = .abool ∧ both x y = .ok) := by
  cases v <;> first | exact .inl ⟨_, rfl, h⟩ | exact .inr ⟨rfl, h⟩ | (have h' : R.no 260 = R.ok := h; cases h')
theorem cCond_ok (hr : RecOk P r) {c : Operand} {x y : Code} {cx : Cx} {s : St} {k : KE} {σ : Sg} {w : World} {base : List Frame} {b : Frame} {a : Act} {cs : List Frame} {K : List Item} (e : cCond P c x y r cx s k = .ok) (h : Rep P σ s w) (hc : CxRel σ base b cx a cs) :
    Ran P σ s w base b cx (lone (b.on a (.code (.cond c x y) :: K)) cs w) K k := by
  obtain ⟨v, e1, hv⟩ := opk_ok h.toRepC (hc.fr.knows c) e
  rcases AV.onBool_unk e1 with ⟨t, rfl, e2⟩ | ⟨rfl, e2⟩
  rotate_left
  · generalize hu : a.eval c = u at hv
    cases hv with
    | abool t =>
    obtain ⟨ex1, ex2⟩ := both_ok e2
    cases t
    · obtain ⟨ex, cx1, s1, τ, w1, a1, cs1, e3, hd, hc1, hn, harr⟩ := hr.code y cx s k σ w base b a cs K _ (.code y) ex2 h hc
      exact ⟨ex, cx1, s1, τ, w1, a1, cs1, e3, hd, hc1, hn, harr.of_steps (.one (on_cond hu))⟩
    · obtain ⟨ex, cx1, s1, τ, w1, a1, cs1, e3, hd, hc1, hn, harr⟩ := hr.code x cx s k σ w base b a cs K _ (.code x) ex1 h hc
      exact ⟨ex, cx1, s1, τ, w1, a1, cs1, e3, hd, hc1, hn, harr.of_steps (.one (on_cond hu))⟩
  generalize hu : a.eval c = u at hv
  cases hv
  cases t
  · obtain ⟨ex, cx1, s1, τ, w1, a1, cs1, e3, hd, hc1, hn, harr⟩ := hr.code y cx s k σ w base b a cs K _ (.code y) e2 h hc
    exact ⟨ex, cx1, s1, τ, w1, a1, cs1, e3, hd, hc1, hn, harr.of_steps (.one (on_cond hu))⟩
  · obtain ⟨ex, cx1, s1, τ, w1, a1, cs1, e3, hd, hc1, hn, harr⟩ := hr.code x cx s k σ w base b a cs K _ (.code x) e2 h hc
    exact ⟨ex, cx1, s1, τ, w1, a1, cs1, e3, hd, hc1, hn, harr.of_steps (.one (on_cond hu))⟩
theorem cBlock_ok (hr : RecOk P r) {id : Nat} {c : Code} {cx : Cx} {s : St} {k : KE} {σ : Sg} {w : World} {base : List Frame} {b : Frame} {a : Act} {cs : List Frame} {K : List Item} (e : cBlock id c r cx s k = .ok) (h : Rep P σ s w) (hc : CxRel σ base b cx a cs) :
    Ran P σ s w base b cx (lone (b.on a (.code (.block id c) :: K)) cs w) K k := by
  obtain ⟨ex, cx1, s1, τ, w1, a1, cs1, e1, hd, hc1, hn, harr⟩ := hr.code c cx s _ σ w base b a cs (.inBlock id :: K) _ (.code c) e h hc
  have harr := harr.of_steps (.one on_block)
  cases ex with
  | normal => exact ⟨.normal, cx1, s1, τ, w1, a1, cs1, e1, hd, hc1, hn, Steps.trans harr (.one on_inBlock)⟩
  | exit i =>
    obtain ⟨todo, ht, hs⟩ := harr
    have e2 : ifk (Nat.beq i id) (k .normal cx1 s1) (k (.exit i) cx1 s1) = .ok := e1
    rw [ifk_eq] at e2
    split at e2
    · rename_i hi
      have hi := nbeq hi
      subst hi
      have : exitTo i todo = some K := by rw [ht]; simp [exitTo]
      exact ⟨.normal, cx1, s1, τ, w1, a1, cs1, e2, hd, hc1, hn, hs.trans (.one (on_exit this))⟩
    · rename_i hi
      have hi : (id == i) = false := by
        have : id ≠ i := fun hh => hi (by subst hh; exact Nat.beq_refl _)
        simpa using this
      exact ⟨.exit i, cx1, s1, τ, w1, a1, cs1, e2, hd, hc1, hn, todo, by rw [ht]; simp [exitTo, hi], hs⟩
  | goto l =>
    obtain ⟨todo, ht, hs⟩ := harr
    exact ⟨.goto l, cx1, s1, τ, w1, a1, cs1, e1, hd, hc1, hn, todo, by rw [ht]; rfl, hs⟩
  | ret => exact ⟨.ret, cx1, s1, τ, w1, a1, cs1, e1, hd, hc1, hn, harr⟩
  | panic ch => exact ⟨.panic ch, cx1, s1, τ, w1, a1, cs1, e1, hd, hc1, hn, harr⟩
theorem plainLoop_ok (hr : RecOk P r) {c : Code} {cx : Cx} {s : St} {k : KE} {σ : Sg} {w : World} {base : List Frame} {b : Frame} {a : Act} {cs : List Frame} {K : List Item} {m : Machine} (hm : Start b a cs w K (.loop c) m) (e : plainLoop c r cx s k = .ok) (h : Rep P σ s w) (hc : CxRel σ base b cx a cs) :
    Ran P σ s w base b cx m K k := by
  obtain ⟨ex, cx1, s1, τ, w1, a1, cs1, e1, hd, hc1, hn, harr⟩ := hr.code c cx s _ σ w base b a cs (.inLoop c :: K) _ (.code c) e h hc
  have harr : Arr P τ m b (.inLoop c :: K) a1 cs1 w1 ex := by
    cases hm with
    | code => exact harr.of_steps (.one on_loop)
    | again => exact harr.of_steps (.one on_inLoop)
  cases ex with
  | normal =>
    obtain ⟨ex2, cx2, s2, υ, w2, a2, cs2, e2, hd2, hc2, hn2, harr2⟩ := hr.code (.loop c) cx1 s1 k τ w1 base b a1 cs1 K _ (.again c) e1 hd.1 hc1
    exact ⟨ex2, cx2, s2, υ, w2, a2, cs2, e2, hd.trans hd2, hc2, hn2.trans hn, harr2.of_steps harr⟩
  | _ => exact ⟨_, cx1, s1, τ, w1, a1, cs1, e1, hd, hc1, hn, harr.pass rfl (by simp)⟩

theorem scopeStep_ok (hr : RecOk P r) : ScopeOk P (scopeStep r) := by
  intro body c cx s k σ w base b a cs K e h hc
  obtain ⟨ex, cx1, s1, τ, w1, a1, cs1, e1, hd, hc1, hn, harr⟩ := hr.code c cx s _ σ w base b a cs (.inScope body :: K) _ (.code c) e h hc
  cases ex with
  | normal => exact ⟨.normal, cx1, s1, τ, w1, a1, cs1, e1, hd, hc1, hn, Steps.trans harr (.one on_inScope)⟩
  | exit i =>
    obtain ⟨todo, ht, hs⟩ := harr
    exact ⟨.exit i, cx1, s1, τ, w1, a1, cs1, e1, hd, hc1, hn, todo, by rw [ht]; rfl, hs⟩
  | goto l =>
    obtain ⟨todo, ht, hs⟩ := harr
    have e2 : Option.rec (motive := fun _ => R) (k (.goto l) cx1 s1) (fun rest => r.scope body rest cx1 s1 k) (findLabel body l) = .ok := e1
    cases hf : findLabel body l with
    | none =>
      rw [hf] at e2
      exact ⟨.goto l, cx1, s1, τ, w1, a1, cs1, e2, hd, hc1, hn, todo, by rw [ht]; simp [gotoIn, hf], hs⟩
    | some rest =>
      rw [hf] at e2
      have hg : gotoIn l todo = some (.code rest :: .inScope body :: K) := by rw [ht]; simp [gotoIn, hf]
      obtain ⟨ex2, cx2, s2, υ, w2, a2, cs2, e3, hd2, hc2, hn2, harr2⟩ := hr.scope body rest cx1 s1 k τ w1 base b a1 cs1 K e2 hd.1 hc1
      exact ⟨ex2, cx2, s2, υ, w2, a2, cs2, e3, hd.trans hd2, hc2, hn2.trans hn, harr2.of_steps (hs.trans (.one (on_goto hg)))⟩
  | ret => exact ⟨.ret, cx1, s1, τ, w1, a1, cs1, e1, hd, hc1, hn, harr⟩
  | panic ch => exact ⟨.panic ch, cx1, s1, τ, w1, a1, cs1, e1, hd, hc1, hn, harr⟩
end
end Go.Ev

/- Control: what an operation comes to, calls and all. -/
namespace Go.Ev
open Go

section
variable {P : Program} {X : FuncId → Option Hook} {r : Rec}

/-- behind an operation that gave a value -/
def OpVal (P : Program) (σ : Sg) (s : St) (w : World) (base : List Frame) (b : Frame) (cx : Cx) (m : Machine) (o : Oper) (a : Act) (I : List Item) (k : KV) : Prop :=
  ∃ v x ds up ds' s' τ w' cs', k v ⟨cx.fr, cx.n, ds, up⟩ s' = .ok ∧ Did2 P σ s w τ s' w' ∧ RelV τ v x ∧ DefsRel τ ds ds' ∧ UpRel τ base up b.kind b.roundOf cs' ∧
    Steps P m (lone (b.on ({ a with defers := ds' }.put o.dst x) I) cs' w')
/-- behind one that panicked -/
def OpPan (P : Program) (σ : Sg) (s : St) (w : World) (base : List Frame) (b : Frame) (cx : Cx) (m : Machine) (a : Act) (kp : KP) : Prop :=
  ∃ ch ds up ds' s' τ w' cs' todo chain, kp ch ⟨cx.fr, cx.n, ds, up⟩ s' = .ok ∧ Did2 P σ s w τ s' w' ∧ ChRel τ ch chain ∧ DefsRel τ ds ds' ∧ UpRel τ base up b.kind b.roundOf cs' ∧ (b.on a todo).catches P = false ∧
    Steps P m (lone { b.on { a with defers := ds' } todo with mode := .panicking chain } cs' w')

theorem run_enter (hP : Fit P) {f : FuncId} {fn : Func} (hf : P.funcs[f]? = some fn) (hb : fn.body.isSome = true) (xs : Array Value) (w : World) : (callFunc f xs).run P w = .ok (.enter f xs) w := by
  have hn := hP.name f fn hf hb
  have hb' : fn.body.isNone = false := by cases h : fn.body <;> simp_all
  simp only [callFunc, Sem.run_bind, run_program, Result.andThen_ok, hf, hn, hb', Bool.false_eq_true, if_false, Sem.run_pure]

theorem put_defers' (a : Act) (ds : List Deferred) : ({ a with defers := ds } : Act).defers = ds := rfl

/-- a call comes back -/
theorem end_step {σ : Sg} {fr : Frame} {w : World} {e : AEnd} (h : EndRel P σ fr w e) (hk : fr.kind = .normal) (c : Frame) (cs : List Frame) :
    (∃ v x, e = .returned v ∧ RelV σ v x ∧ step P (lone fr (c :: cs) w) = .next (lone (c.finish x) cs w)) ∨ (∃ ch chain, e = .panicked ch ∧ ChRel σ ch chain ∧ step P (lone fr (c :: cs) w) = .next (lone (c.raise chain) cs w)) := by
  cases h with
  | returned v x fn hm hd hf hr hv => exact .inl ⟨v, x, rfl, hv, step_leave_returned ⟨hm, hd, hk, fn, hf, hr⟩⟩
  | panicked ch chain fn hm hd hf hc => exact .inr ⟨ch, chain, rfl, hc, step_leave_panicked ⟨hm, hd, fn, hf⟩⟩
theorem raise_on (b : Frame) (a : Act) (todo : List Item) (chain : List PanicEntry) : (b.on a todo).raise chain = { b.on a todo with mode := .panicking chain } := rfl

theorem FrRel.put {σ : Sg} {n : Nat} {fr : T AV} {ts : Array Value} (h : FrRel σ n fr ts) {d : Nat} (hd : d < n) {v : AV} {x : Value} (hv : RelV σ v x) : FrRel σ n (T.set (some v) (adr d) fr) (ts.setIfInBounds d x) := by
  refine ⟨by simpa using h.1, fun t u e => ?_⟩
  by_cases ht : d = t
  · subst ht
    rw [T.get_set_self] at e
    cases e
    have : (ts.setIfInBounds d x).getD d undef = x := by
      have hlt : d < ts.size := by rw [h.1]; exact hd
      simp [Array.getD, hlt]
    rw [this]; exact hv
  · rw [T.get_set_ne _ (fun hh => ht (adr_inj hh))] at e
    have : (ts.setIfInBounds d x).getD t undef = ts.getD t undef := by
      simp only [Array.getD_eq_getD_getElem?, Array.getElem?_setIfInBounds_ne ht]
    rw [this]; exact h.2 t u e
theorem allLt_ok {n : Nat} {l : List Nat} (h : allLt n l = true) : ∀ d ∈ l, d < n := by
  induction l with
  | nil => simp
  | cons d l ih =>
    have e : Bool.rec (motive := fun _ => Bool) false (allLt n l) (Nat.blt d n) = true := h
    cases hb : Nat.blt d n
    · rw [hb] at e; cases e
    · rw [hb] at e
      intro d' hd
      rcases List.mem_cons.1 hd with rfl | hd
      · rw [Nat.blt_eq] at hb; exact hb
      · exact ih e d' hd
theorem layArgs_ok {σ : Sg} {n : Nat} : ∀ {ps : List Tmp} {args : List AV} {xs : List Value} {fr : T AV} {ts : Array Value} {k : T AV → R}, (∀ d ∈ ps, d < n) → RelL σ args xs → FrRel σ n fr ts → layArgs ps args fr k = .ok → ps.length = args.length →
    ∃ fr', k fr' = .ok ∧ FrRel σ n fr' ((ps.zip xs).foldl (fun tmps (p : Tmp × Value) => tmps.setIfInBounds p.1 p.2) ts) := by
  intro ps
  induction ps with
  | nil => intro args xs fr ts k _ _ h e _; exact ⟨fr, e, h⟩
  | cons p ps ih =>
    intro args xs fr ts k hlt ha h e hl
    cases ha with
    | nil => simp at hl
    | cons v x args xs hv ha =>
      have e1 : T.setk (adr p) (some v) fr (fun t => layArgs ps args t k) = .ok := e
      rw [T.setk_eq] at e1
      exact ih (fun d hd => hlt d (by simp [hd])) ha (h.put (hlt p (by simp)) hv) e1 (by simpa using hl)

-- rounds
theorem run_getLoop {c : Nat} {w : World} {L : Loop} (h : w.heap[c]? = some (.loop L)) : (Instr.getLoop c).run P w = .ok L w := by
  simp [Instr.getLoop, run_getObj (P := P) h (by intros; simp)]
theorem run_endRound {c : Nat} {w : World} {L : Loop} (h : w.heap[c]? = some (.loop L)) (j : Option Code) :
    (Instr.endRound c j).run P w = .ok (.bool j.isNone) (w.upd c (.loop { L with state := if j.isNone then .ready else .done, pending := j })) := by
  simp only [Instr.endRound, Sem.run_bind, run_getLoop h, Result.andThen_ok, run_setObj h (by intros; simp), Sem.run_pure]
theorem run_beginRound {c : Nat} {w : World} {L : Loop} (h : w.heap[c]? = some (.loop L)) (hs : L.state = .ready) :
    (Instr.beginRound c).run P w = .ok () (w.upd c (.loop { L with state := .busy })) := by
  simp only [Instr.beginRound, Sem.run_bind, run_getLoop h, Result.andThen_ok, run_setObj h (by intros; simp), hs, Sem.run_pure]
section
variable {b : Frame} {a : Act} {f : Frame} {cs : List Frame} {w : World} {c : Nat} {L : Loop} {k : List Item}
theorem on_begin (hr : b.roundOf = some c) (h : w.heap[c]? = some (.loop L)) (hs : L.state = .ready) :
    step P (lone (b.on a (.beginRound :: k)) cs w) = .next (lone (b.on a k) cs (w.upd c (.loop { L with state := .busy }))) := by
  refine step_lone_go ?_
  have hrun := run_beginRound (P := P) h hs
  simp [stepG, stepG.exec, Frame.on, hr, stepG.apply, hrun, Frame.finish]
theorem on_leave_end (hk : b.kind = .normal) (hr : b.roundOf = some c) (h : w.heap[c]? = some (.loop L)) :
    step P (lone (b.on a []) (f :: cs) w) = .next (lone (f.finish (.bool true)) cs (w.upd c (.loop { L with state := .ready, pending := none }))) := by
  refine step_lone_go ?_
  have hrun := run_endRound (P := P) h none
  simp [stepG, stepG.exec, Frame.on, hr, hk, hrun, doReturn]
theorem on_leave_ret (hk : b.kind = .normal) (hr : b.roundOf = some c) (h : w.heap[c]? = some (.loop L)) :
    step P (lone (b.on a (.code .ret :: k)) (f :: cs) w) = .next (lone (f.finish (.bool false)) cs (w.upd c (.loop { L with state := .done, pending := some .ret }))) := by
  refine step_lone_go ?_
  have hrun := run_endRound (P := P) h (some .ret)
  simp [stepG, stepG.exec, Frame.on, hr, hk, hrun, doReturn]
theorem on_leave_exit {i : Nat} (hx : exitTo i k = none) (hk : b.kind = .normal) (hr : b.roundOf = some c) (h : w.heap[c]? = some (.loop L)) :
    step P (lone (b.on a (.code (.exit i) :: k)) (f :: cs) w) = .next (lone (f.finish (.bool false)) cs (w.upd c (.loop { L with state := .done, pending := some (.exit i) }))) := by
  refine step_lone_go ?_
  have hrun := run_endRound (P := P) h (some (.exit i))
  simp [stepG, stepG.exec, Frame.on, hr, hk, hrun, doReturn, hx]
theorem on_leave_goto {i : Nat} (hx : gotoIn i k = none) (hk : b.kind = .normal) (hr : b.roundOf = some c) (h : w.heap[c]? = some (.loop L)) :
    step P (lone (b.on a (.code (.goto i) :: k)) (f :: cs) w) = .next (lone (f.finish (.bool false)) cs (w.upd c (.loop { L with state := .done, pending := some (.goto i) }))) := by
  refine step_lone_go ?_
  have hrun := run_endRound (P := P) h (some (.goto i))
  simp [stepG, stepG.exec, Frame.on, hr, hk, hrun, doReturn, hx]
theorem on_panics {chain : List PanicEntry} (hd : a.defers = []) (hc : (b.on a k).catches P = false) :
    step P (lone { b.on a k with mode := .panicking chain } (f :: cs) w) = .next (lone (f.raise chain) cs w) := by
  refine step_lone_go ?_
  have hc' : Frame.catches P { b.on a k with mode := .panicking chain } = false := hc
  have hd' : (b.on a k).defers = [] := hd
  simp only [stepG, unwind, hc', Bool.false_eq_true, if_false]
  rw [hd']
  rfl
end

/-- the end of a round, in memory -/
theorem endR_ok {σ : Sg} {s : St} {w : World} (h : Rep P σ s w) {l : Adr} {c sh sz : Nat} (hl : σ l = .at c sh sz) {j : Option Code} {st : LoopState} {k : St → R} (e : endR l j st s k = .ok) :
    ∃ L s', w.heap[c]? = some (.loop L) ∧ k s' = .ok ∧ Did2 P σ s w σ s' (w.upd c (.loop { L with state := st, pending := j })) := by
  obtain ⟨o, ho, e1⟩ := objk_ok e
  cases o <;> first | (exact (no_ok (n := 326) e1).elim) | skip
  case loop st0 pend tmps n ps asg body =>
  obtain ⟨O, hO, hrel⟩ := h.obj l c sh sz _ hl ho
  cases hrel with
  | loop _ _ _ _ _ _ _ L _ _ h1 h2 h3 h4 h5 h6 =>
  have e2 : putObjk s l (some (.loop st j tmps n ps asg body)) k = .ok := e1
  rw [putObjk_eq] at e2
  have hlive : T.get l s.heap ≠ none := by rw [ho]; simp
  exact ⟨L, _, hO, e2, h.put hl (.loop _ _ _ _ _ _ _ _ _ _ rfl rfl h3 h4 h5 h6) hlive, .put h hl hlive⟩
theorem rsBegin_ok {σ : Sg} {s : St} {w : World} (h : Rep P σ s w) {l : Adr} {c sh sz : Nat} (hl : σ l = .at c sh sz) {k : St → R} (e : rsBegin l s k = .ok) :
    ∃ L s', w.heap[c]? = some (.loop L) ∧ L.state = .ready ∧ k s' = .ok ∧ Did2 P σ s w σ s' (w.upd c (.loop { L with state := .busy })) := by
  obtain ⟨o, ho, e1⟩ := objk_ok e
  cases o <;> first | (exact (no_ok (n := 332) e1).elim) | skip
  case loop st0 pend tmps n ps asg body =>
  cases st0 <;> first | (exact (no_ok (n := 332) e1).elim) | skip
  obtain ⟨O, hO, hrel⟩ := h.obj l c sh sz _ hl ho
  cases hrel with
  | loop _ _ _ _ _ _ _ L _ _ h1 h2 h3 h4 h5 h6 =>
  have e2 : putObjk s l (some (.loop .busy pend tmps n ps asg body)) k = .ok := e1
  rw [putObjk_eq] at e2
  have hlive : T.get l s.heap ≠ none := by rw [ho]; simp
  exact ⟨L, _, hO, h1, e2, h.put hl (.loop _ _ _ _ _ _ _ _ _ _ rfl h2 h3 h4 h5 h6) hlive, .put h hl hlive⟩

theorem resk_ok (hP : Fit P) (hX : ∀ f h, X f = some h → HookOk P f h) (hr : RecOk P r) {o : Oper} {a : Act} {ops : Array Oper} {i : Nat} {rest : List Nat} {K : List Item} {σ : Sg} {s : St} {w w0 : World} {base cs : List Frame} {b : Frame} {cx : Cx} {k : KV} {kp : KP} {res : ARes}
    (ho : ops[i]? = some o) (hw : Region.wanted o (yielded ops a.tmps) = true) (hdf : ∀ c, o.op = .defer c → ∃ d, res = .defer d)
    (e : resk res X r cx s k kp = .ok) (h : Rep P σ s w) (hres : OpRes P σ w res ((execOp a.eval o).run P w0)) (hd : DefsRel σ cx.defs a.defers) (hu : UpRel σ base cx.up b.kind b.roundOf cs) :
    OpVal P σ s w base b cx (lone (b.on a (.inRegion ops (i :: rest) :: K)) cs w0) o a (.inRegion ops rest :: K) k ∨ OpPan P σ s w base b cx (lone (b.on a (.inRegion ops (i :: rest) :: K)) cs w0) a kp := by
  have hround : b.roundOf = none ∨ ∀ c, o.op ≠ .defer c := by
    by_cases hc : ∃ c, o.op = .defer c
    · obtain ⟨c, hc⟩ := hc
      obtain ⟨d, rfl⟩ := hdf c hc
      have e1 : rsDefer d cx s k = .ok := e
      generalize hup : cx.up = up at hu
      generalize hro : b.roundOf = ro at hu
      generalize hki : b.kind = ki at hu
      cases hu with
      | no => exact .inl rfl
      | deferred => exact .inl rfl
      | round l => simp only [rsDefer, hup] at e1; exact (no_ok e1).elim
    · exact .inr fun c hcc => hc ⟨c, hcc⟩
  have hg := stepG_on (P := P) (b := b) (k := K) (cs := cs) (w := w0) (rest := rest) ho hw hround
  have hfin : ∀ (ds : List Deferred) v, (b.on { a with defers := ds } (.inRegion ops (i :: rest) :: K)).finish v = b.on ({ a with defers := ds }.put o.dst v) (.inRegion ops rest :: K) := by
    intro ds v; rw [Frame.finish_on, ho]; rfl
  have ha : ({ a with defers := a.defers } : Act) = a := rfl
  have one : ∀ {fr' cs' w'}, (stepG.apply P true (b.on a (.inRegion ops (i :: rest) :: K)) cs none (execOp a.eval o) w0).bare = .go { frame := fr', callers := cs', status := .running, dying := none } w' →
      Steps P (lone (b.on a (.inRegion ops (i :: rest) :: K)) cs w0) (lone fr' cs' w') := fun {fr' cs' w'} hh => .one (step_lone_go (by rw [hg]; exact hh))
  have hcat : (b.on a (.inRegion ops (i :: rest) :: K)).catches P = false := by simp [Frame.catches, Frame.on]
  generalize hrun : (execOp a.eval o).run P w0 = R0 at hres
  cases hres with
  | val v x hv =>
    refine .inl ⟨v, x, cx.defs, cx.up, a.defers, s, σ, w, cs, e, .refl h, hv, hd, hu, ?_⟩
    rw [← hfin]
    exact one (by simp [stepG.apply, hrun])
  | skip =>
    refine .inl ⟨.tuple [], undef, cx.defs, cx.up, a.defers, s, σ, w, cs, e, .refl h, .tuple _ _ .nil, hd, hu, ?_⟩
    rw [← hfin]
    exact one (by simp [stepG.apply, hrun])
  | panic v x hv =>
    refine .inr ⟨[(v, false)], cx.defs, cx.up, a.defers, s, σ, w, cs, .inRegion ops (i :: rest) :: K, [{ v := x, recovered := false }], e, .refl h, .cons _ _ _ _ _ hv .nil, hd, hu, hcat, ?_⟩
    rw [← raise_on]
    exact one (by simp [stepG.apply, hrun])
  | defer d D hD =>
    have e1 : rsDefer d cx s k = .ok := e
    have e2 : k (.tuple []) ⟨cx.fr, cx.n, d :: cx.defs, cx.up⟩ s = .ok := by
      unfold rsDefer at e1
      split at e1
      · exact (no_ok e1).elim
      · exact e1
    refine .inl ⟨.tuple [], undef, d :: cx.defs, cx.up, D :: a.defers, s, σ, w, cs, e2, .refl h, .tuple _ _ .nil, .cons _ _ _ _ hD hd, hu, ?_⟩
    rw [← hfin]
    exact one (by simp only [stepG.apply, Sem.runT_eq, hrun, GStep.bare_after, if_true]; rfl)
  | recover =>
    have e1 : rsRecover cx s k = .ok := e
    have hul := hu
    generalize hup : cx.up = up at hu
    generalize hro : b.roundOf = ro at hu
    generalize hki : b.kind = ki at hu
    have hor : (b.on a (.inRegion ops (i :: rest) :: K)).roundOf = ro := hro
    have hok : (b.on a (.inRegion ops (i :: rest) :: K)).kind = ki := hki
    have nil : tryRecover (b.on a (.inRegion ops (i :: rest) :: K)) cs = none → ro = none → k .niliface cx s = .ok → OpVal P σ s w base b cx (lone (b.on a (.inRegion ops (i :: rest) :: K)) cs w0) o a (.inRegion ops rest :: K) k := fun ht hr0 e2 => by
      refine ⟨.niliface, .nilIface, cx.defs, cx.up, a.defers, s, σ, w, cs, e2, .refl h, .niliface, hd, hul, ?_⟩
      rw [← hfin]
      exact one (by simp only [stepG.apply, Sem.runT_eq, hrun, GStep.bare_after, if_true]; rw [hor, hr0]; simp only [ht]; rfl)
    cases hu with
    | no =>
      rw [rsRecover, hup] at e1
      exact .inl (nil (by simp [tryRecover, hok]) rfl e1)
    | round l =>
      rw [rsRecover, hup] at e1
      exact (no_ok e1).elim
    | deferred m mo c rest' hb hm =>
      rw [rsRecover, hup] at e1
      cases hm with
      | returning => exact .inl (nil (by simp [tryRecover, hok]) rfl e1)
      | panicking ch chain hch =>
        cases hch with
        | nil => exact .inl (nil (by simp [tryRecover, hok]) rfl e1)
        | cons x t v xs vs hv ht =>
          cases t
          · have e2 : k x ⟨cx.fr, cx.n, cx.defs, .deferred (.panicking ((x, true) :: xs))⟩ s = .ok := e1
            refine .inl ⟨x, v, cx.defs, .deferred (.panicking ((x, true) :: xs)), a.defers, s, σ, w, { c with mode := .panicking (⟨v, true, false⟩ :: vs) } :: rest', e2, .refl h, hv, hd, ?_, ?_⟩
            · rw [hki, hro]; exact .deferred _ _ _ _ hb (.panicking _ _ (.cons _ _ _ _ _ hv ht))
            · rw [← hfin]
              exact one (by
                simp only [stepG.apply, Sem.runT_eq, hrun, GStep.bare_after, if_true]
                rw [hor]
                simp only [tryRecover, hok]
                rfl)
          · exact .inl (nil (by simp [tryRecover, hok]) rfl e1)
  | enter f args xs hxs =>
    have e1 : (Option.rec (r.call f args .no s fun e _ s => rsEnd cx k kp e s) (fun h => h r args s fun v s => k v cx s) (X f) : R) = .ok := e
    cases hXf : X f with
    | none =>
      rw [hXf] at e1
      obtain ⟨⟨fn, hfn, hbody⟩, ed, up', s', τ, w', fr, cs', e2, hdid, hup', hsteps, hkind, hend⟩ := hr.call f args .no s _ σ w (b.on a (.inRegion ops (i :: rest) :: K) :: cs) (b.on a (.inRegion ops (i :: rest) :: K) :: cs) .normal xs e1 h hxs .no
      have henter := run_enter hP hfn hbody xs w
      have hcs : cs' = b.on a (.inRegion ops (i :: rest) :: K) :: cs := by cases hup'; rfl
      subst hcs
      have hst := one (fr' := Frame.enter P f xs .normal) (cs' := b.on a (.inRegion ops (i :: rest) :: K) :: cs) (w' := w) (by
        simp only [stepG.apply, Sem.runT_eq, hrun, henter, GStep.bare_after, if_true]; rfl)
      rcases end_step hend hkind.1 (b.on a (.inRegion ops (i :: rest) :: K)) cs with ⟨v, x, rfl, hv, hs⟩ | ⟨ch, chain, rfl, hch, hs⟩
      · refine .inl ⟨v, x, cx.defs, cx.up, a.defers, s', τ, w', cs, e2, hdid, hv, hd.mono hdid.2.le, hu.mono hdid.2.le, ?_⟩
        rw [← hfin]
        exact hst.trans (hsteps.trans (.one hs))
      · refine .inr ⟨ch, cx.defs, cx.up, a.defers, s', τ, w', cs, .inRegion ops (i :: rest) :: K, chain, e2, hdid, hch, hd.mono hdid.2.le, hu.mono hdid.2.le, hcat, ?_⟩
        rw [← raise_on]
        exact hst.trans (hsteps.trans (.one hs))
    | some hk =>
      rw [hXf] at e1
      obtain ⟨v, x, s', w', τ, e2, hdid, hv, hcall⟩ := hX f hk hXf r hr args s _ σ w xs (b.on a (.inRegion ops (i :: rest) :: K) :: cs) e1 h hxs
      refine .inl ⟨v, x, cx.defs, cx.up, a.defers, s', τ, w', cs, e2, hdid, hv, hd.mono hdid.2.le, hu.mono hdid.2.le, ?_⟩
      rw [← hfin]
      rcases hcall with hcall | ⟨hent, hcall⟩
      · exact one (by simp only [stepG.apply, Sem.runT_eq, hrun, hcall, GStep.bare_after, if_true]; rfl)
      · have hst := one (fr' := Frame.enter P f xs .normal) (cs' := b.on a (.inRegion ops (i :: rest) :: K) :: cs) (w' := w) (by
          simp only [stepG.apply, Sem.runT_eq, hrun, hent, GStep.bare_after, if_true]; rfl)
        obtain ⟨fr, hcomes, hleave⟩ := hcall
        exact hst.trans (Steps.trans hcomes (.one (step_leave_returned hleave)))
  | round l args c sh sz xs hl hxs =>
    obtain ⟨lo, hlo, e1⟩ := objk_ok (show objk s l (fun o => rsRoundAt l args r cx s k kp o) = .ok from e)
    cases lo <;> first | (exact (no_ok (n := 322) e1).elim) | skip
    case loop st pend tmps n ps asg body =>
    obtain ⟨O, hO, hrel⟩ := h.obj l c sh sz _ hl hlo
    cases hrel with
    | loop _ _ _ _ _ _ _ L _ _ h1 h2 h3 h4 h5 h6 =>
    have e2 : lenk args (fun la => lenk ps fun lp => ifk (Nat.beq la lp && allLt n ps) (layArgs ps args tmps fun fr => r.code asg ⟨fr, n, [], .round⟩ s (rsBody l body r cx k kp)) (.no 321)) = .ok := e1
    rw [lenk_eq, lenk_eq] at e2
    obtain ⟨hb, e3⟩ := ifk_no e2
    rw [Bool.and_eq_true] at hb
    have hlen := nbeq hb.1
    obtain ⟨fr', e4, hfr⟩ := layArgs_ok (allLt_ok hb.2) hxs h3 e3 hlen.symm
    have hxl : xs.size = L.params.size := by
      have q1 := hxs.length
      have q2 : L.params.toList.length = ps.length := by rw [h4]
      simp at q1 q2; omega
    have hyield : (Instr.yield c xs).run P w = .ok (.round c L.fn ((L.params.zip xs).foldl (fun tmps (p : Tmp × Value) => tmps.setIfInBounds p.1 p.2) L.tmps) L.assign L.body) w := by
      have hg := run_getObj (P := P) hO (by intros; simp)
      simp [Instr.yield, Instr.getLoop, hg, hxl]
    have hzip : (L.params.zip xs).foldl (fun tmps (p : Tmp × Value) => tmps.setIfInBounds p.1 p.2) L.tmps = (ps.zip xs.toList).foldl (fun tmps (p : Tmp × Value) => tmps.setIfInBounds p.1 p.2) L.tmps := by
      rw [← Array.foldl_toList, Array.toList_zip, h4]
    rw [hzip, h5, h6] at hyield
    generalize hT : (ps.zip xs.toList).foldl (fun tmps (p : Tmp × Value) => tmps.setIfInBounds p.1 p.2) L.tmps = T0 at hyield hfr
    have hF : ∃ b2 : Frame, b2.kind = .normal ∧ b2.roundOf = some c ∧ Frame.round c L.fn T0 asg body .normal = b2.on ⟨T0, []⟩ [.code asg, .beginRound, .code body] :=
      ⟨Frame.round c L.fn T0 asg body .normal, rfl, rfl, rfl⟩
    obtain ⟨b2, hk2, hr2, hF⟩ := hF
    have hst := one (fr' := Frame.round c L.fn T0 asg body .normal) (cs' := b.on a (.inRegion ops (i :: rest) :: K) :: cs) (w' := w) (by
      simp only [stepG.apply, Sem.runT_eq, hrun, hyield, GStep.bare_after, if_true]; rfl)
    rw [hF] at hst
    -- what is assigned
    obtain ⟨ex, cx1, s1, τ, w1, a1, cs1, e5, hd1, hc1, hn1, harr⟩ := hr.code asg ⟨fr', n, [], .round⟩ s _ σ w (b.on a (.inRegion ops (i :: rest) :: K) :: cs) b2 ⟨T0, []⟩ (b.on a (.inRegion ops (i :: rest) :: K) :: cs) [.beginRound, .code body] _ (.code asg) e4 h ⟨hfr, .nil, by rw [hk2, hr2]; exact .round c⟩
    have same : ∀ {υ : Sg} {u : Up} {cs' : List Frame}, UpRel υ (b.on a (.inRegion ops (i :: rest) :: K) :: cs) u b2.kind b2.roundOf cs' → cs' = b.on a (.inRegion ops (i :: rest) :: K) :: cs := fun hh => by
      rw [hk2, hr2] at hh; cases hh; rfl
    have hcs1 := same hc1.up
    subst hcs1
    cases ex <;> first | (exact (no_ok (n := 320) e5).elim) | skip
    case normal =>
    have harr : Steps P _ (lone (b2.on a1 [.beginRound, .code body]) _ w1) := harr
    have hl1 := hd1.2.le _ _ _ _ hl
    obtain ⟨L1, s2, hL1, hready, e6, hd2⟩ := rsBegin_ok hd1.1 hl1 (show rsBegin l s1 (fun s => r.code body cx1 s fun e cx2 s => rsRoundEnd l cx k kp e cx2.defs s) = .ok from e5)
    have hbegin := on_begin (P := P) (b := b2) (a := a1) (cs := b.on a (.inRegion ops (i :: rest) :: K) :: cs) (k := [.code body]) hr2 hL1 hready
    -- its body
    obtain ⟨ex, cx2, s3, υ, w3, a3, cs3, e7, hd3, hc3, hn3, harr3⟩ := hr.code body cx1 s2 _ τ _ (b.on a (.inRegion ops (i :: rest) :: K) :: cs) b2 a1 (b.on a (.inRegion ops (i :: rest) :: K) :: cs) [] _ (.code body) e6 hd2.1 hc1
    have hcs3 := same hc3.up
    subst hcs3
    have hd123 := (hd1.trans hd2).trans hd3
    have harr3 := harr3.of_steps (hst.trans (harr.trans (.one hbegin)))
    have hl3 := hd123.2.le _ _ _ _ hl
    have fin : ∀ {j : Option Code} {st : LoopState} {t : Bool} {m : Machine}, endR l j st s3 (fun s => k (.bool t) cx s) = .ok → Steps P (lone (b.on a (.inRegion ops (i :: rest) :: K)) cs w0) m →
        (∀ L3, w3.heap[c]? = some (.loop L3) → step P m = .next (lone ((b.on a (.inRegion ops (i :: rest) :: K)).finish (.bool t)) cs (w3.upd c (.loop { L3 with state := st, pending := j })))) →
        OpVal P σ s w base b cx (lone (b.on a (.inRegion ops (i :: rest) :: K)) cs w0) o a (.inRegion ops rest :: K) k := fun {j st t m} e8 hs hstep => by
      obtain ⟨L3, s4, hL3, e9, hd4⟩ := endR_ok hd3.1 hl3 e8
      have hdd := hd123.trans hd4
      refine ⟨.bool t, .bool t, cx.defs, cx.up, a.defers, s4, υ, _, cs, e9, hdd, .bool t, hd.mono hdd.2.le, hu.mono hdd.2.le, ?_⟩
      rw [← hfin]
      exact hs.trans (.one (hstep L3 hL3))
    cases ex with
    | normal => exact .inl (fin e7 harr3 fun L3 hL3 => on_leave_end hk2 hr2 hL3)
    | ret => obtain ⟨todo, hs⟩ := harr3; exact .inl (fin e7 hs fun L3 hL3 => on_leave_ret hk2 hr2 hL3)
    | exit j => obtain ⟨todo, ht, hs⟩ := harr3; exact .inl (fin e7 hs fun L3 hL3 => on_leave_exit (by rw [ht]; rfl) hk2 hr2 hL3)
    | goto j => obtain ⟨todo, ht, hs⟩ := harr3; exact .inl (fin e7 hs fun L3 hL3 => on_leave_goto (by rw [ht]; rfl) hk2 hr2 hL3)
    | panic ch =>
      obtain ⟨todo, chain, hch, hcat3, hs⟩ := harr3
      have e8 : noDefs cx2.defs (kp ch cx s3) = .ok := e7
      have hdefs : a3.defers = [] ∧ kp ch cx s3 = .ok := by
        have hdr := hc3.defs
        generalize cx2.defs = ds at e8 hdr
        generalize a3.defers = ds' at hdr
        cases hdr with
        | nil => exact ⟨rfl, e8⟩
        | cons => exact (no_ok (n := 331) e8).elim
      refine .inr ⟨ch, cx.defs, cx.up, a.defers, s3, υ, w3, cs, .inRegion ops (i :: rest) :: K, chain, hdefs.2, hd123, hch, hd.mono hd123.2.le, hu.mono hd123.2.le, hcat, ?_⟩
      rw [← raise_on]
      exact hs.trans (.one (on_panics hdefs.1 hcat3))
end
end Go.Ev

/- Control: operations one behind the other. -/
namespace Go.Ev
open Go

section
variable {P : Program} {X : FuncId → Option Hook} {r : Rec}

/-- what is known of a guard -/
def GKnows (σ : Sg) (ops : Array Oper) (fr : T AV) (a : Act) (o : Oper) : Prop := ∀ g d, o.guard = some g → (ops[g.1]?).bind (·.dst) = some d → ∀ v, T.get (adr d) fr = some v → RelV σ v (a.tmps.getD d undef)
theorem wantedk_ok {σ : Sg} {ops : Array Oper} {o : Oper} {fr : T AV} {a : Act} (hg : GKnows σ ops fr a o) {y n : R} (e : wantedk ops o fr y n = .ok) :
    (Region.wanted o (yielded ops a.tmps) = true ∧ y = .ok) ∨ (Region.wanted o (yielded ops a.tmps) = false ∧ n = .ok) := by
  unfold wantedk at e
  cases hgo : o.guard with
  | none => rw [hgo] at e; exact .inl ⟨by simp [Region.wanted, hgo], e⟩
  | some g =>
    rw [hgo] at e
    obtain ⟨d, hd, e1⟩ := optk_ok (show optk ((ops[g.1]?).bind (·.dst)) 241 (fun d => optk (T.get (adr d) fr) 242 fun v => guardV g.2 v y n) = .ok from e)
    obtain ⟨v, hv, e2⟩ := optk_ok e1
    have hrel := hg g d hgo hd v hv
    have hw : Region.wanted o (yielded ops a.tmps) = (yielded ops a.tmps g.1 == some g.2) := by simp [Region.wanted, hgo]
    have hy : yielded ops a.tmps g.1 = match a.tmps[d]? with | some (.bool b) => some b | _ => none := by unfold yielded; rw [hd]; rfl
    have hget : ∀ z, a.tmps.getD d undef = z → (∀ l, z ≠ .tuple l) → a.tmps[d]? = some z := by
      intro z hz hn
      rw [Array.getD_eq_getD_getElem?] at hz
      cases hc : a.tmps[d]? with
      | none => rw [hc] at hz; exact absurd hz.symm (hn _)
      | some z' => rw [hc] at hz; rw [← hz]; rfl
    by_cases hb : ∃ b, v = .bool b
    · obtain ⟨b, rfl⟩ := hb
      have e3 : ifk (b == g.2) y n = .ok := e2
      have hbool : a.tmps.getD d undef = .bool b := by
        generalize a.tmps.getD d undef = z at hrel
        cases hrel; rfl
      rw [hget _ hbool (by intro l hl; cases hl)] at hy
      rw [hw, hy]
      rw [ifk_eq] at e3
      split at e3
      · rename_i hh; exact .inl ⟨by simpa using hh, e3⟩
      · rename_i hh; exact .inr ⟨by simpa using hh, e3⟩
    · have e3 : ifk v.isUnk (.no 243) n = .ok := by cases v <;> first | exact e2 | exact absurd ⟨_, rfl⟩ hb
      rw [ifk_eq] at e3
      split at e3
      · exact (no_ok e3).elim
      · rename_i ht
        refine .inr ⟨?_, e3⟩
        have hnb : ∀ t, a.tmps[d]? ≠ some (.bool t) := by
          intro t hh
          have : a.tmps.getD d undef = .bool t := by rw [Array.getD_eq_getD_getElem?, hh]; rfl
          rw [this] at hrel
          cases hrel with
          | top => exact ht rfl
          | bool => exact hb ⟨_, rfl⟩
          | abool => exact ht rfl
        have hy2 : yielded ops a.tmps g.1 = none := by
          rw [hy]
          cases hc : a.tmps[d]? with
          | none => rfl
          | some z => cases z <;> first | rfl | exact absurd hc (hnb _)
        rw [hw, hy2]; rfl

theorem putk_ok {σ : Sg} {n : Nat} {fr : T AV} {a : Act} {dst : Option Tmp} {v : AV} {x : Value} {k : T AV → R} (h : FrRel σ n fr a.tmps) (hd : ∀ d, dst = some d → d < n) (hv : RelV σ v x) (e : putk dst v fr k = .ok) : ∃ fr', k fr' = .ok ∧ FrRel σ n fr' (a.put dst x).tmps := by
  cases dst with
  | none => exact ⟨fr, e, h⟩
  | some d =>
    have e1 : T.setk (adr d) (some v) fr k = .ok := e
    rw [T.setk_eq] at e1
    exact ⟨_, e1, h.put (hd d rfl) hv⟩
theorem put_def (a : Act) (ds : List Deferred) (dst : Option Tmp) (x : Value) : ({ a with defers := ds } : Act).put dst x = { (a.put dst x) with defers := ds } := by cases dst <;> rfl
theorem put_tmps (a : Act) (ds : List Deferred) (dst : Option Tmp) (x : Value) : (({ a with defers := ds } : Act).put dst x).tmps = (a.put dst x).tmps := by cases dst <;> rfl
theorem put_defers (a : Act) (dst : Option Tmp) (x : Value) : (a.put dst x).defers = a.defers := by cases dst <;> rfl

theorem opsL_ok (hP : Fit P) (hX : ∀ f h, X f = some h → HookOk P f h) (hr : RecOk P r) {ops : Array Oper} {K : List Item} {base : List Frame} {b : Frame} : ∀ (l : List Oper) (idx : List Nat), l.length = idx.length → (∀ (j i : Nat) (o : Oper), idx[j]? = some i → l[j]? = some o → ops[i]? = some o) →
    ∀ (cx : Cx) (s : St) (k : KE) (σ : Sg) (w : World) (a : Act) (cs : List Frame), (∀ o ∈ l, ∀ d, o.dst = some d → d < cx.n) → opsL l P X r ops cx s k = .ok → Rep P σ s w → CxRel σ base b cx a cs →
    Ran P σ s w base b cx (lone (b.on a (.inRegion ops idx :: K)) cs w) K k := by
  intro l
  induction l with
  | nil =>
    intro idx hl _ cx s k σ w a cs _ e h hc
    cases idx with
    | nil => exact ⟨.normal, cx, s, σ, w, a, cs, e, .refl h, hc, rfl, .one on_region_end⟩
    | cons => simp at hl
  | cons o l ih =>
    intro idx hl hix cx s k σ w a cs hdst e h hc
    cases idx with
    | nil => simp at hl
    | cons i idx =>
    have ho : ops[i]? = some o := hix 0 i o rfl rfl
    have hix' : ∀ (j i : Nat) (o : Oper), idx[j]? = some i → l[j]? = some o → ops[i]? = some o := fun j i' o' h1 h2 => hix (j + 1) i' o' (by simpa using h1) (by simpa using h2)
    have hl' : l.length = idx.length := by simpa using hl
    have e1 : wantedk ops o cx.fr (opRun P X r o cx s (fun cx s => opsL l P X r ops cx s k) (kpan k)) (skipRun o cx s fun cx s => opsL l P X r ops cx s k) = .ok := e
    rcases wantedk_ok (fun g d _ _ v hv => hc.fr.2 d v hv) e1 with ⟨hw, e2⟩ | ⟨hw, e2⟩
    · obtain ⟨res, s1, w1, τ, e3, hd1, hres, hdf⟩ := execk_ok' (A := a) hP h o (fun x _ => hc.fr.knows x) (show execk o.op P cx.fr s (fun res s => resk res X r cx s (fun v cx s => putk o.dst v cx.fr fun fr => opsL l P X r ops ⟨fr, cx.n, cx.defs, cx.up⟩ s k) (kpan k)) = .ok from e2)
      rcases resk_ok (K := K) (rest := idx) hP hX hr ho hw hdf e3 hd1.1 hres (hc.defs.mono hd1.2.le) (hc.up.mono hd1.2.le) with ⟨v, x, ds, up, ds', s2, υ, w2, cs2, e4, hd2, hv, hds, hup, hsteps⟩ | ⟨ch, ds, up, ds', s2, υ, w2, cs2, todo, chain, e4, hd2, hch, hds, hup, hcat, hsteps⟩
      · have hdd := hd1.trans hd2
        obtain ⟨fr', e5, hfr⟩ := putk_ok (a := a) (hc.fr.mono hdd.2.le) (fun d hd => hdst o (by simp) d hd) hv e4
        obtain ⟨ex, cx3, s3, υ3, w3, a3, cs3, e6, hd3, hc3, hn3, harr⟩ := ih idx hl' hix' ⟨fr', cx.n, ds, up⟩ s2 k υ w2 ({ a with defers := ds' }.put o.dst x) cs2 (fun o' ho' d hd => hdst o' (by simp [ho']) d hd) e5 hd2.1 ⟨by rw [put_tmps]; exact hfr, by rw [put_defers]; exact hds, hup⟩
        exact ⟨ex, cx3, s3, υ3, w3, a3, cs3, e6, hdd.trans hd3, hc3, hn3, harr.of_steps hsteps⟩
      · have hdd := hd1.trans hd2
        exact ⟨.panic ch, ⟨cx.fr, cx.n, ds, up⟩, s2, υ, w2, { a with defers := ds' }, cs2, e4, hdd, ⟨hc.fr.mono hdd.2.le, hds, hup⟩, rfl, todo, chain, hch, hcat, hsteps⟩
    · obtain ⟨fr', e3, hfr⟩ := putk_ok (x := undef) hc.fr (fun d hd => hdst o (by simp) d hd) (.tuple _ _ .nil) (show putk o.dst (.tuple []) cx.fr (fun fr => opsL l P X r ops ⟨fr, cx.n, cx.defs, cx.up⟩ s k) = .ok from e2)
      obtain ⟨ex, cx3, s3, υ3, w3, a3, cs3, e6, hd3, hc3, hn3, harr⟩ := ih idx hl' hix' ⟨fr', cx.n, cx.defs, cx.up⟩ s k σ w (a.put o.dst undef) cs (fun o' ho' d hd => hdst o' (by simp [ho']) d hd) e3 h ⟨hfr, by rw [put_defers]; exact hc.defs, hc.up⟩
      have hskip := on_op_skip (P := P) (b := b) (a := a) (k := K) (cs := cs) (w := w) (ops := ops) (i := i) (rest := idx) (by rw [ho]; simpa using hw)
      rw [ho] at hskip
      exact ⟨ex, cx3, s3, υ3, w3, a3, cs3, e6, hd3, hc3, hn3, harr.of_steps (.one hskip)⟩
end
end Go.Ev

/- Control: calls, and what is deferred. -/
namespace Go.Ev
open Go

section
variable {P : Program} {X : FuncId → Option Hook} {r : Rec}

theorem argsFr_ok {σ : Sg} {n : Nat} {XS : Array Value} (hn : XS.size = n) : ∀ (args : List AV) (xs : List Value) (i : Nat) (fr : T AV) (k : T AV → R), RelL σ args xs → (∀ j x, xs[j]? = some x → XS[i + j]? = some x) → (∀ t v, T.get (adr t) fr = some v → RelV σ v (XS.getD t undef)) →
    (List.rec (motive := fun _ => Nat → T AV → R) (fun _ t => k t) (fun v _ ih i t => T.setk (adr i) (some v) t fun t => fN (Nat.add i 1) fun i => ih i t) args i fr : R) = .ok → ∃ fr', k fr' = .ok ∧ FrRel σ n fr' XS := by
  intro args
  induction args with
  | nil => intro xs i fr k _ _ h e; exact ⟨fr, e, hn, h⟩
  | cons v args ih =>
    intro xs i fr k ha hx h e
    cases ha with
    | cons _ x _ xs hv ha =>
    have e1 : T.setk (adr i) (some v) fr (fun t => fN (Nat.add i 1) fun i => (List.rec (motive := fun _ => Nat → T AV → R) (fun _ t => k t) (fun v _ ih i t => T.setk (adr i) (some v) t fun t => fN (Nat.add i 1) fun i => ih i t) args i t : R)) = .ok := e
    rw [T.setk_eq, fN_eq] at e1
    refine ih xs (i + 1) _ k ha (fun j y hj => ?_) (fun t u hu => ?_) e1
    · have := hx (j + 1) y (by simpa using hj)
      rw [← this]; congr 1; omega
    · by_cases ht : i = t
      · subst ht
        rw [T.get_set_self] at hu
        cases hu
        have := hx 0 x rfl
        rw [Array.getD_eq_getD_getElem?, show XS[i]? = some x from this]
        exact hv
      · rw [T.get_set_ne _ (fun hh => ht (adr_inj hh))] at hu
        exact h t u hu

theorem noGo {σ : Sg} {ch : List (AV × Bool)} {chain : List PanicEntry} (h : ChRel σ ch chain) : ∀ e ∈ chain, e.goexit = false := by
  induction h with
  | nil => simp
  | cons x b v xs vs hv ht ih =>
    intro e he
    rcases List.mem_cons.1 he with rfl | he
    · rfl
    · exact ih e he
theorem ChRel.append {σ : Sg} {a b : List (AV × Bool)} {c d : List PanicEntry} (h : ChRel σ a c) (h' : ChRel σ b d) : ChRel σ (a ++ b) (c ++ d) := by
  induction h with
  | nil => exact h'
  | cons x b v xs vs hv ht ih => exact .cons _ _ _ _ _ hv ih

/-- a deferred call comes back to the frame that deferred it -/
theorem back_step {σ : Sg} {fr : Frame} {w : World} {e : AEnd} (h : EndRel P σ fr w e) (hk : fr.kind = .deferred) {c : Frame} {m : AMode} {mo : FrameMode} (hm : ModeRel σ m mo) (cs : List Frame) {go : AMode → R} (e0 : uwNext e m go = .ok) :
    ∃ m' mo', go m' = .ok ∧ ModeRel σ m' mo' ∧ step P (lone fr ({ c with mode := mo } :: cs) w) = .next (lone { c with mode := mo' } cs w) ∧ (mo' = .returning ∨ ∃ chain, mo' = .panicking chain) := by
  cases h with
  | returned v x fn hmode hd hf hr hv =>
    cases hm with
    | returning =>
      refine ⟨.returning, .returning, e0, .returning, step_lone_go ?_, .inl rfl⟩
      simp [stepG, unwind, doReturn, hmode, hd, hk, hf, hr]
    | panicking ch chain hch =>
      cases hch with
      | nil =>
        refine ⟨_, .panicking [], e0, .panicking _ _ .nil, step_lone_go ?_, .inr ⟨_, rfl⟩⟩
        simp [stepG, unwind, doReturn, hmode, hd, hk, hf, hr]
      | cons y t z ys zs hz hzs =>
        cases t
        · refine ⟨_, .panicking (⟨z, false, false⟩ :: zs), e0, .panicking _ _ (.cons _ _ _ _ _ hz hzs), step_lone_go ?_, .inr ⟨_, rfl⟩⟩
          simp [stepG, unwind, doReturn, hmode, hd, hk, hf, hr]
        · refine ⟨.returning, .returning, e0, .returning, step_lone_go ?_, .inl rfl⟩
          have hdrop : zs.dropWhile (fun e => !e.goexit) = [] := by
            have := noGo hzs
            clear hzs hz e0
            induction zs with
            | nil => rfl
            | cons e es ih => rw [List.dropWhile_cons, this e (by simp)]; exact ih fun e' he' => this e' (by simp [he'])
          simp [stepG, unwind, doReturn, hmode, hd, hk, hf, hr, hdrop]
  | panicked ch chain fn hmode hd hf hch =>
    have hstep : ∀ caller : Frame, step P (lone fr (caller :: cs) w) = .next (lone (caller.raise chain) cs w) := fun caller => step_leave_panicked ⟨hmode, hd, fn, hf⟩
    cases hm with
    | returning => exact ⟨_, .panicking chain, e0, .panicking _ _ hch, hstep _, .inr ⟨_, rfl⟩⟩
    | panicking old chain0 hold =>
      have e1 : appk ch old (fun ch => go (.panicking ch)) = .ok := e0
      rw [appk_eq] at e1
      exact ⟨_, .panicking (chain ++ chain0), e1, .panicking _ _ (hch.append hold), hstep _, .inr ⟨_, rfl⟩⟩

theorem run_take {c : Nat} {w : World} (h : w.heap[c]? = some (.deferred (some []))) : (Instr.takeDeferred c).run P w = .ok [] (w.upd c (.deferred none)) := by
  simp only [Instr.takeDeferred, Sem.run_bind, run_getObj h (by intros; simp), Result.andThen_ok, run_setObj h (by intros; simp), Sem.run_pure]

def resSem (tmps : Array Value) (v : ResultVar) : Sem Value := match v with
  | .tmp t => pure (tmps.getD t undef)
  | .cell a t => do loadVar t (← asAddr (tmps.getD a undef))
theorem results_eq (fn : Func) (tmps : Array Value) : results fn tmps = (do let vs ← fn.results.mapM (resSem tmps); pure (if h : vs.size = 1 then vs[0] else .tuple vs)) := rfl
theorem resultV_ok {σ : Sg} {s : St} {w : World} (h : RepC P σ s w) {n : Nat} {fr : T AV} {tmps : Array Value} (hf : FrRel σ n fr tmps) {v : ResultVar} {k : AV → R} (e : resultV P v fr s k = .ok) :
    ∃ a x, k a = .ok ∧ RelV σ a x ∧ (resSem tmps v).run P w = .ok x w := by
  have ot : ∀ {t : Tmp} {k : AV → R}, opT t P fr k = .ok → ∃ a, k a = .ok ∧ RelV σ a (tmps.getD t undef) := fun {t k} e => by
    have e1 : Option.rec (motive := fun _ => R) (k .top) k (T.get (adr t) fr) = .ok := e
    cases hg : T.get (adr t) fr with
    | none => rw [hg] at e1; exact ⟨_, e1, .top _⟩
    | some u => rw [hg] at e1; exact ⟨_, e1, hf.2 t u hg⟩
  cases v with
  | tmp t => obtain ⟨a, e1, hr⟩ := ot e; exact ⟨a, _, e1, hr, rfl⟩
  | cell a t =>
    obtain ⟨v, e1, hr⟩ := ot (k := fun a => resCell P s t a k) e
    cases v <;> first | (exact (no_ok (n := 270) e1).elim) | skip
    case ptr p off =>
    generalize hu : tmps.getD a undef = u at hr
    cases hr with
    | ptr _ _ c sh sz hp =>
    obtain ⟨v, x, e2, hrel, hrun⟩ := loadVark_ok (P := P) h hp (show loadVark P s t p off k = .ok from e1)
    exact ⟨v, x, e2, hrel, by simp only [resSem, hu, asAddr, Sem.run_bind, Sem.run_pure, Result.andThen_ok, hrun]⟩
theorem resultsL_ok {σ : Sg} {s : St} {w : World} (h : RepC P σ s w) {n : Nat} {fr : T AV} {tmps : Array Value} (hf : FrRel σ n fr tmps) : ∀ (l : List ResultVar) {k : List AV → R}, resultsL P l fr s k = .ok →
    ∃ vs xs, k vs = .ok ∧ RelL σ vs xs ∧ (l.mapM (resSem tmps)).run P w = .ok xs w := by
  intro l
  induction l with
  | nil => intro k e; exact ⟨[], [], e, .nil, rfl⟩
  | cons v l ih =>
    intro k e
    obtain ⟨a, x, e1, hr, hrun⟩ := resultV_ok h hf (show resultV P v fr s (fun v => resultsL P l fr s fun r => k (v :: r)) = .ok from e)
    obtain ⟨vs, xs, e2, hrs, hruns⟩ := ih e1
    refine ⟨a :: vs, x :: xs, e2, .cons _ _ _ _ hr hrs, ?_⟩
    simp only [List.mapM_cons, Sem.run_bind]
    rw [hrun]
    simp only [Result.andThen_ok]
    rw [hruns]
    rfl
theorem resultsk_ok {σ : Sg} {s : St} {w : World} (h : RepC P σ s w) {n : Nat} {fr : T AV} {tmps : Array Value} (hf : FrRel σ n fr tmps) {fn : Func} {k : AV → R} (e : resultsk P fn fr s k = .ok) :
    ∃ v x, k v = .ok ∧ RelV σ v x ∧ (results fn tmps).run P w = .ok x w := by
  obtain ⟨vs, xs, e1, hr, hrun⟩ := resultsL_ok h hf fn.results.toList e
  have hrun2 : (fn.results.mapM (resSem tmps)).run P w = .ok xs.toArray w := by
    rw [Array.mapM_eq_mapM_toList]
    simp only [Sem.run_map, hrun, Result.andThen_ok]
  by_cases h1 : ∃ v, vs = [v]
  · obtain ⟨v, rfl⟩ := h1
    cases hr with
    | cons _ x _ xs hv ht =>
    cases ht
    refine ⟨v, x, e1, hv, ?_⟩
    simp only [results_eq, Sem.run_bind]
    rw [hrun2]
    simp
  · have e2 : k (.tuple vs) = .ok := by
      match vs, h1, e1 with
      | [], _, e1 => exact e1
      | [v], h1, _ => exact absurd ⟨v, rfl⟩ h1
      | _ :: _ :: _, _, e1 => exact e1
    refine ⟨.tuple vs, .tuple xs.toArray, e2, .tuple _ _ (by simpa using hr), ?_⟩
    simp only [results_eq, Sem.run_bind]
    rw [hrun2]
    have hl : ¬ xs.toArray.size = 1 := by
      intro hh
      have : vs.length = 1 := by rw [hr.length]; simpa using hh
      match vs, h1, this with
      | [v], h1, _ => exact h1 ⟨v, rfl⟩
    simp only [Result.andThen_ok]
    rw [dif_neg hl]
    rfl

/-- what is deferred is called, the last one first -/
theorem unwindk_ok (hP : Fit P) (hr : RecOk P r) {fn : Func} {base : List Frame} {b : Frame} (hf : P.funcs[b.fn]? = some fn) (_hro : b.roundOf = none) : ∀ (defs : List ADef) (m : AMode) (cx : Cx) (s : St) (k : KA) (σ : Sg) (w : World) (a : Act) (cs : List Frame) (todo : List Item) (mo : FrameMode),
    unwindk P r fn defs m cx s k = .ok → Rep P σ s w → FrRel σ cx.n cx.fr a.tmps → DefsRel σ defs a.defers → UpRel σ base cx.up b.kind none cs → ModeRel σ m mo → (mo = .returning ∨ ∃ chain, mo = .panicking chain) → (b.on a todo).catches P = false →
    ∃ e s' τ w' fr, k e cx.up s' = .ok ∧ Did2 P σ s w τ s' w' ∧ UpRel τ base cx.up b.kind none cs ∧ Steps P (lone { b.on a todo with mode := mo } cs w) (lone fr cs w') ∧ (fr.kind = b.kind ∧ fr.fn = b.fn) ∧ EndRel P τ fr w' e := by
  intro defs
  induction defs with
  | nil =>
    intro m cx s k σ w a cs todo mo e h hfr hd hup hm hmo hcat
    have hde : a.defers = [] := by generalize a.defers = ds at hd; cases hd; rfl
    cases hm with
    | returning =>
      obtain ⟨v, x, e1, hv, hrun⟩ := resultsk_ok h.toRepC hfr (show resultsk P fn cx.fr s (fun v => k (.returned v) cx.up s) = .ok from e)
      exact ⟨.returned v, s, σ, w, { b.on a todo with mode := .returning }, e1, .refl h, hup, .refl _ _, ⟨rfl, rfl⟩, .returned v x fn rfl hde hf hrun hv⟩
    | panicking ch chain hch =>
      have e1 : k (.panicked ch) cx.up s = .ok := e
      exact ⟨.panicked ch, s, σ, w, { b.on a todo with mode := .panicking chain }, e1, .refl h, hup, .refl _ _, ⟨rfl, rfl⟩, .panicked ch chain fn rfl hde hf hch⟩
  | cons d defs ih =>
    intro m cx s k σ w a cs todo mo e h hfr hd hup hm hmo hcat
    generalize hde : a.defers = ds at hd
    cases hd with
    | cons _ D _ ds hD hds =>
    have hstepof : ∀ {fr' cs' w'}, (unwind P true { b.on a todo with mode := mo } cs none w).bare = .go { frame := fr', callers := cs', status := .running, dying := none } w' → step P (lone { b.on a todo with mode := mo } cs w) = .next (lone fr' cs' w') := fun {fr' cs' w'} hh => by
      refine step_lone_go ?_
      rcases hmo with rfl | ⟨chain, rfl⟩
      · exact hh
      · exact hh
    have ha' : ({ b.on { a with defers := ds } todo with mode := mo } : Frame) = { ({ b.on a todo with mode := mo } : Frame) with defers := ds } := rfl
    have hdef : ({ b.on a todo with mode := mo } : Frame).defers = D :: ds := hde
    cases hD with
    | call f x cap as hx =>
      have e1 : r.call f x (.deferred m) s (fun e up s => uwUp up fun m => uwNext e m fun m => unwindk P r fn defs m cx s k) = .ok := e
      obtain ⟨⟨fn', hfn, hbody⟩, ed, up', s1, τ, w1, fr, cs1, e2, hd1, hup1, hsteps, hkind, hend⟩ := hr.call f x (.deferred m) s _ σ w ({ b.on { a with defers := ds } todo with mode := mo } :: cs) ({ b.on { a with defers := ds } todo with mode := mo } :: cs) .deferred (as ++ cap) e1 h hx (by
        have := UpRel.deferred (σ := σ) (base := { b.on { a with defers := ds } todo with mode := mo } :: cs) m mo _ _ rfl hm
        exact this)
      have henter := run_enter hP hfn hbody (as ++ cap) w
      have hst := hstepof (fr' := Frame.enter P f (as ++ cap) .deferred) (cs' := { b.on { a with defers := ds } todo with mode := mo } :: cs) (w' := w) (by
        simp only [unwind]
        rw [hdef]
        simp only [callDeferred, invoke, Sem.runT_eq, henter]
        rfl)
      cases hup1 with
      | deferred m1 mo1 c0 rest0 hb0 hm1 =>
      injection hb0 with hc0 hr0
      subst hc0; subst hr0
      have e3 : uwNext ed m1 (fun m => unwindk P r fn defs m cx s1 k) = .ok := e2
      obtain ⟨m2, mo2, e4, hm2, hback, hmo2⟩ := back_step hend hkind.1 hm1 cs e3
      obtain ⟨e, s', υ, w', fr', e5, hd2, hup2, hsteps2, hk2, hend2⟩ := ih m2 cx s1 k τ w1 { a with defers := ds } cs todo mo2 e4 hd1.1 (hfr.mono hd1.2.le) (hds.mono hd1.2.le) (hup.mono hd1.2.le) hm2 hmo2 hcat
      exact ⟨e, s', υ, w', fr', e5, hd1.trans hd2, hup2, .head hst (hsteps.trans (.head hback hsteps2)), hk2, hend2⟩
    | collected l c sh sz hl =>
      have e1 : uwTake l s (fun s => unwindk P r fn defs m cx s k) = .ok := e
      obtain ⟨o, ho, e2⟩ := objk_ok e1
      cases o <;> first | (exact (no_ok (n := 272) e2).elim) | skip
      case deferred =>
      obtain ⟨O, hO, hrel⟩ := h.obj l c sh sz _ hl ho
      cases hrel with
      | deferred =>
      have e3 : putObjk s l (some .taken) (fun s => unwindk P r fn defs m cx s k) = .ok := e2
      rw [putObjk_eq] at e3
      have hlive : T.get l s.heap ≠ none := by rw [ho]; simp
      have hd1 : Did2 P σ s w σ (s.put l (some .taken)) (w.upd c (.deferred none)) := ⟨h.put hl (.taken _ _) hlive, .put h hl hlive⟩
      have hst := hstepof (fr' := { b.on { a with defers := ds } todo with mode := mo }) (cs' := cs) (w' := w.upd c (.deferred none)) (by
        simp only [unwind]
        rw [hdef]
        simp only [Sem.runT_eq, run_take hO, GStep.bare_after]
        rfl)
      obtain ⟨e, s', υ, w', fr', e5, hd2, hup2, hsteps2, hk2, hend2⟩ := ih m cx _ k σ _ { a with defers := ds } cs todo mo e3 hd1.1 hfr hds hup hm hmo hcat
      exact ⟨e, s', υ, w', fr', e5, hd1.trans hd2, hup2, .head hst hsteps2, hk2, hend2⟩

theorem callStep_ok (hP : Fit P) (hr : RecOk P r) : CallOk P (callStep P r) := by
  intro f args up s k σ w base cs kind xs e h ha hup
  obtain ⟨fn, hfn, e1⟩ := optk_ok e
  obtain ⟨c, hc, e2⟩ := optk_ok e1
  refine ⟨⟨fn, hfn, by rw [hc]; rfl⟩, ?_⟩
  have hsz : (xs ++ Array.replicate (fn.ntmps - xs.size) undef).size = Nat.max args.length fn.ntmps := by
    have := ha.length
    have h2 : args.length = xs.size := by simpa using this
    rw [h2]
    simp only [Array.size_append, Array.size_replicate]
    have : Nat.max xs.size fn.ntmps = max xs.size fn.ntmps := rfl
    rw [this]; omega
  obtain ⟨fr, e3, hfr⟩ := argsFr_ok hsz args xs.toList 0 .l _ ha (fun j x hj => by
    rw [Nat.zero_add, Array.getElem?_append_left]
    · simpa using hj
    · have := (List.getElem?_eq_some_iff.1 hj).1; simpa using this) (fun t v hv => by rw [T.get_l] at hv; cases hv) (show (List.rec (motive := fun _ => Nat → T AV → R) (fun _ t => (lenk args fun la => fN (Nat.max la fn.ntmps) fun n => r.code c ⟨t, n, [], up⟩ s (bodyK P r fn k))) (fun v _ ih i t => T.setk (adr i) (some v) t fun t => fN (Nat.add i 1) fun i => ih i t) args 0 .l : R) = .ok from e2)
  rw [lenk_eq, fN_eq] at e3
  generalize hT : xs ++ Array.replicate (fn.ntmps - xs.size) undef = T0 at hfr hsz
  have hF : Frame.enter P f xs kind = ({ (default : Frame) with fn := f, kind := kind } : Frame).on ⟨T0, []⟩ [.code c] := by
    rw [← hT]
    simp [Frame.enter, Frame.on, hfn, hc]
    rfl
  have hbr : ({ (default : Frame) with fn := f, kind := kind } : Frame).roundOf = none := rfl
  obtain ⟨ex, cx1, s1, τ, w1, a1, cs1, e4, hd1, hc1, hn1, harr⟩ := hr.code c ⟨fr, Nat.max args.length fn.ntmps, [], up⟩ s _ σ w base { (default : Frame) with fn := f, kind := kind } ⟨T0, []⟩ cs [] _ (.code c) e3 h ⟨hfr, .nil, hup⟩
  rw [← hF] at harr
  have fin : ∀ {m : AMode} {mo : FrameMode} {todo : List Item}, unwindk P r fn cx1.defs m cx1 s1 k = .ok → ModeRel τ m mo → (mo = .returning ∨ ∃ chain, mo = .panicking chain) → (({ (default : Frame) with fn := f, kind := kind } : Frame).on a1 todo).catches P = false →
      Steps P (lone (Frame.enter P f xs kind) cs w) (lone { ({ (default : Frame) with fn := f, kind := kind } : Frame).on a1 todo with mode := mo } cs1 w1) →
      ∃ e up' s' τ w' fr cs', k e up' s' = .ok ∧ Did2 P σ s w τ s' w' ∧ UpRel τ base up' kind none cs' ∧ Steps P (lone (Frame.enter P f xs kind) cs w) (lone fr cs' w') ∧ (fr.kind = kind ∧ fr.fn = f) ∧ EndRel P τ fr w' e := fun {m mo todo} hu hm hmo hcat hs => by
    obtain ⟨e5, s2, υ, w2, fr2, e6, hd2, hup2, hs2, hk2, hend⟩ := unwindk_ok (b := { (default : Frame) with fn := f, kind := kind }) hP hr hfn hbr cx1.defs m cx1 s1 k τ w1 a1 cs1 todo mo hu hd1.1 hc1.fr hc1.defs hc1.up hm hmo hcat
    exact ⟨e5, cx1.up, s2, υ, w2, fr2, cs1, e6, hd1.trans hd2, hup2, hs.trans hs2, hk2, hend⟩
  have cat : ∀ todo, (({ (default : Frame) with fn := f, kind := kind } : Frame).on a1 todo).catches P = false := fun todo => by
    unfold Frame.catches
    rw [show P.funcs[(({ (default : Frame) with fn := f, kind := kind } : Frame).on a1 todo).fn]? = some fn from hfn]
  cases ex with
  | normal => exact fin e4 .returning (.inl rfl) (cat _) (harr.trans (.one (on_end hbr)))
  | ret => obtain ⟨todo, hs⟩ := harr; exact fin e4 .returning (.inl rfl) (cat _) (hs.trans (.one (on_ret hbr)))
  | panic ch => obtain ⟨todo, chain, hch, hcat, hs⟩ := harr; exact fin e4 (.panicking _ _ hch) (.inr ⟨_, rfl⟩) hcat hs
  | exit i => exact (no_ok (n := 281) e4).elim
  | goto i => exact (no_ok (n := 281) e4).elim
end
end Go.Ev

/- Control: regions in order. -/
namespace Go.Ev
open Go

section
variable {P : Program} {X : FuncId → Option Hook} {r : Rec}

theorem dstsO_mem {l : List Oper} {o : Oper} {d : Tmp} (h : o ∈ l) (hd : o.dst = some d) : d ∈ dstsO l := List.mem_filterMap.2 ⟨o, h, hd⟩
theorem opsRun_ok (hP : Fit P) (hX : ∀ f h, X f = some h → HookOk P f h) (hr : RecOk P r) {ops : Array Oper} {cx : Cx} {s : St} {k : KE} {σ : Sg} {w : World} {base : List Frame} {b : Frame} {a : Act} {cs : List Frame} {K : List Item}
    (hlt : allLt cx.n (dstsO ops.toList) = true) (e : opsRun P X r ops ops.toList cx s k = .ok) (h : Rep P σ s w) (hc : CxRel σ base b cx a cs) : Ran P σ s w base b cx (lone (b.on a (.inRegion ops (List.range ops.size) :: K)) cs w) K k := by
  refine opsL_ok hP hX hr ops.toList (List.range ops.size) (by simp) (fun j i o h1 h2 => ?_) cx s k σ w a cs (fun o ho d hd => allLt_ok hlt d (dstsO_mem ho hd)) e h hc
  have hi : i = j := by
    have hlt := (List.getElem?_eq_some_iff.1 h1).1
    rw [List.getElem?_range (by simpa using hlt)] at h1
    exact (Option.some.inj h1).symm
  subst hi
  simpa using h2
theorem cRegion_ok (hP : Fit P) (hX : ∀ f h, X f = some h → HookOk P f h) (hr : RecOk P r) {id : Nat} {ops : Array Oper} {cx : Cx} {s : St} {k : KE} {σ : Sg} {w : World} {base : List Frame} {b : Frame} {a : Act} {cs : List Frame} {K : List Item}
    (e : cRegion P X ops false r cx s k = .ok) (h : Rep P σ s w) (hc : CxRel σ base b cx a cs) : Ran P σ s w base b cx (lone (b.on a (.code (.region id ops false) :: K)) cs w) K k := by
  obtain ⟨hb, e1⟩ := ifk_no e
  obtain ⟨ex, cx1, s1, τ, w1, a1, cs1, e2, hd, hc1, hn, harr⟩ := opsRun_ok (K := K) hP hX hr hb (show opsRun P X r ops ops.toList cx s k = .ok from e1) h hc
  exact ⟨ex, cx1, s1, τ, w1, a1, cs1, e2, hd, hc1, hn, harr.of_steps (.one on_region)⟩

theorem on_rangeFunc {b : Frame} {a : Act} {cs : List Frame} {w w2 : World} {k : List Item} {f : Operand} {ps : Array Tmp} {asg body : Code} {g : FuncId} {xs : Array Value} (hr : b.roundOf = none)
    (hcall : (do let d ← Deferred.ofValue (a.eval f) #[.func (.yield (w.heap.size + 1)) #[] #[]]; invoke d.target d.args : Sem Next).run P
      ((w.push (.deferred (some []))).push (.loop { state := .ready, pending := none, fn := b.fn, tmps := a.tmps, params := ps, assign := asg, body := body, defers := w.heap.size })) = .ok (.enter g xs) w2) :
    step P (lone (b.on a (.code (.rangeFunc f ps asg body) :: k)) cs w) = .next (lone (Frame.enter P g xs .normal) (b.on { a with defers := ⟨.collected w.heap.size, #[]⟩ :: a.defers } (.inRangeFunc (w.heap.size + 1) :: k) :: cs) w2) := by
  refine step_lone_go ?_
  have he : (b.on { a with defers := ⟨.collected w.heap.size, #[]⟩ :: a.defers } (.inRangeFunc (w.heap.size + 1) :: k)).eval = a.eval := Frame.eval_on' b _ _
  have hlen : (w.push (.deferred (some []))).heap.size = w.heap.size + 1 := by
    show (w.heap.push _).size = _
    simp
  have hloop : (Instr.enterLoop b.fn a.tmps ps asg body none).run P w = .ok (w.heap.size + 1, [{ target := .collected w.heap.size, args := #[] }])
      ((w.push (.deferred (some []))).push (.loop { state := .ready, pending := none, fn := b.fn, tmps := a.tmps, params := ps, assign := asg, body := body, defers := w.heap.size })) := by
    simp only [Instr.enterLoop, Sem.run_bind, run_newObj, Result.andThen_ok, Sem.run_pure]
    have : (w.heap.push (Obj.deferred (some []))).size = w.heap.size + 1 := by simp
    rw [this]
    rfl
  have hro : (b.on a (.code (.rangeFunc f ps asg body) :: k)).roundOf = none := hr
  have hst : (stepG P true { frame := b.on a (.code (.rangeFunc f ps asg body) :: k), callers := cs, status := .running, dying := none } w).bare =
      (stepG.apply P true (b.on { a with defers := ⟨.collected w.heap.size, #[]⟩ :: a.defers } (.inRangeFunc (w.heap.size + 1) :: k)) cs none
        (do let d ← resolve a.eval { callee := .value f, args := #[.const (.func (.yield (w.heap.size + 1)) #[] #[])], argTypes := #[] } 0; invoke d.target d.args)
        ((w.push (.deferred (some []))).push (.loop { state := .ready, pending := none, fn := b.fn, tmps := a.tmps, params := ps, assign := asg, body := body, defers := w.heap.size }))).bare := by
    simp only [stepG, stepG.exec, Frame.on, hr, Sem.runT_eq, hloop, GStep.bare_after]
    rw [← he]
    rfl
  rw [hst]
  have hres : (do let d ← resolve a.eval { callee := .value f, args := #[.const (.func (.yield (w.heap.size + 1)) #[] #[])], argTypes := #[] } 0; invoke d.target d.args : Sem Next) =
      (do let d ← Deferred.ofValue (a.eval f) #[.func (.yield (w.heap.size + 1)) #[] #[]]; invoke d.target d.args : Sem Next) := by
    have : (#[Operand.const (.func (.yield (w.heap.size + 1)) #[] #[])] : Array Operand).map a.eval = #[.func (.yield (w.heap.size + 1)) #[] #[]] := by simp [Act.eval]
    simp only [resolve, this]
  rw [hres]
  simp only [stepG.apply, Sem.runT_eq, hcall, GStep.bare_after, if_true]
  rfl

theorem run_endLoop {c : Nat} {w : World} {L : Loop} (h : w.heap[c]? = some (.loop L)) (hs : L.state ≠ .busy) : (Instr.endLoop c).run P w = .ok L.pending (w.upd c (.loop { L with state := .exhausted })) := by
  have hs' : (L.state == LoopState.busy) = false := by simpa using hs
  simp only [Instr.endLoop, Sem.run_bind, run_getLoop h, Result.andThen_ok, hs', Bool.false_eq_true, if_false, run_setObj h (by intros; simp), Sem.run_pure]
theorem on_endRange {b : Frame} {a : Act} {cs : List Frame} {w : World} {k : List Item} {c : Nat} {L : Loop} (h : w.heap[c]? = some (.loop L)) (hs : L.state ≠ .busy) :
    step P (lone (b.on a (.endRangeFunc c :: k)) cs w) = .next (lone (b.on a ((L.pending.map Item.code).toList ++ k)) cs (w.upd c (.loop { L with state := .exhausted }))) := by
  refine step_lone_go ?_
  have hrun := run_endLoop (P := P) h hs
  simp only [stepG, stepG.exec, Frame.on, Sem.runT_eq, hrun, GStep.bare_after]
  rfl

theorem cRangeFunc_ok (hP : Fit P) (hr : RecOk P r) {f : Operand} {ps : Array Tmp} {asg body : Code} {cx : Cx} {s : St} {k : KE} {σ : Sg} {w : World} {base : List Frame} {b : Frame} {a : Act} {cs : List Frame} {K : List Item}
    (e : cRangeFunc P X f ps asg body r cx s k = .ok) (h : Rep P σ s w) (hc : CxRel σ base b cx a cs) : Ran P σ s w base b cx (lone (b.on a (.code (.rangeFunc f ps asg body) :: K)) cs w) K k := by
  have e1 : newk s .deferred (fun d s => newk s (.loop .ready none cx.fr cx.n ps.toList asg body) fun l s => opk f P cx.fr fun f => calleek f [.func (.yield l.nat) [] []] fun res => rfCall X l r ⟨cx.fr, cx.n, .collected d :: cx.defs, cx.up⟩ s k res) = .ok ∧ b.roundOf = none := by
    have hu := hc.up
    unfold cRangeFunc at e
    generalize hup : cx.up = up at hu e
    generalize hro : b.roundOf = ro at hu
    generalize hki : b.kind = ki at hu
    cases hu with
    | no => exact ⟨e, rfl⟩
    | round l => exact (no_ok e).elim
    | deferred m mo c rest hb hm => exact ⟨e, rfl⟩
  obtain ⟨e1, hro⟩ := e1
  rw [newk_eq, newk_eq] at e1
  have hn1 := h.new (o := .deferred) (sh := 0) (sz := 0) (O := .deferred (some [])) (.deferred _ _)
  have hd1 : Did2 P σ s w _ _ _ := hn1
  have hlen : (w.push (.deferred (some []))).heap.size = w.heap.size + 1 := by
    show (w.heap.push _).size = _
    simp
  have hn2 := hn1.1.new (o := .loop .ready none cx.fr cx.n ps.toList asg body) (sh := 0) (sz := 0) (O := .loop { state := .ready, pending := none, fn := b.fn, tmps := a.tmps, params := ps, assign := asg, body := body, defers := w.heap.size })
    (.loop _ _ _ _ _ _ _ _ _ _ rfl rfl ((hc.fr.mono hd1.2.le).mono (Sg.le_upd (hn1.1.free (Nat.le_refl _)) _)) rfl rfl rfl)
  have hd2 := hd1.trans hn2
  generalize hs2 : (s.new .deferred).new (.loop .ready none cx.fr cx.n ps.toList asg body) = s2 at e1 hn2 hd2
  generalize hl : (s.new .deferred).nx = l at e1 hn2 hd2
  obtain ⟨W2, hW2⟩ : ∃ W, W = (w.push (.deferred (some []))).push (.loop { state := .ready, pending := none, fn := b.fn, tmps := a.tmps, params := ps, assign := asg, body := body, defers := w.heap.size }) := ⟨_, rfl⟩
  rw [← hW2] at hn2 hd2
  generalize hσ2 : Sg.upd (σ.upd s.nx (.at w.heap.size 0 0)) l (.at (w.push (.deferred (some []))).heap.size 0 0) = σ2 at hn2 hd2
  have hlat : σ2 l = .at (w.heap.size + 1) 0 0 := by rw [← hσ2, ← hlen]; exact Sg.upd_self _ _ _
  have hdat : σ2 s.nx = .at w.heap.size 0 0 := hn2.2.le _ _ _ _ (Sg.upd_self _ _ _)
  have hcx2 : CxRel σ2 base b cx a cs := hc.mono hd2.2.le
  obtain ⟨fv, e2, hfv⟩ := opk_ok hd2.1.toRepC (hcx2.fr.knows f) e1
  obtain ⟨res, e3, hres, hnone⟩ := calleek_ok P σ2 _ hfv (xs := #[.func (.yield (w.heap.size + 1)) #[] #[]]) (.cons _ _ _ _ (.func _ _ _ _ _ _ (.yield l.nat _ 0 0 (by rw [nat_adr]; exact hlat)) .nil .nil) .nil) e2
  cases res <;> first | (exact (no_ok (n := 330) e3).elim) | skip
  case enter g args =>
  generalize hrun : (do let d ← Deferred.ofValue (a.eval f) #[.func (.yield (w.heap.size + 1)) #[] #[]]; invoke d.target d.args : Sem Next).run P W2 = R0 at hres
  cases hres with
  | enter _ _ xs hxs =>
  have e4 := e3
  simp only [rfCall] at e4
  cases hXg : X g with
  | some hk => rw [hXg] at e4; exact (no_ok e4).elim
  | none =>
  rw [hXg] at e4
  have e5 : r.call g args .no s2 (fun e _ s1 => rfEnd l r ⟨cx.fr, cx.n, .collected s.nx :: cx.defs, cx.up⟩ k e s1) = .ok := e4
  obtain ⟨⟨fn, hfn, hbody⟩, ed, up', s3, τ, w3, fr, cs3, e6, hd3, hup3, hsteps, hkind, hend⟩ := hr.call g args .no s2 _ σ2 W2 (b.on { a with defers := ⟨.collected w.heap.size, #[]⟩ :: a.defers } (.inRangeFunc (w.heap.size + 1) :: K) :: cs) (b.on { a with defers := ⟨.collected w.heap.size, #[]⟩ :: a.defers } (.inRangeFunc (w.heap.size + 1) :: K) :: cs) .normal xs e5 hd2.1 hxs .no
  have hcs3 : cs3 = b.on { a with defers := ⟨.collected w.heap.size, #[]⟩ :: a.defers } (.inRangeFunc (w.heap.size + 1) :: K) :: cs := by cases hup3; rfl
  subst hcs3
  have hst := on_rangeFunc (P := P) (k := K) (cs := cs) (w := w) (w2 := W2) (g := g) (xs := xs) hro (by rw [← hW2, hrun]; exact run_enter hP hfn hbody xs W2)
  have hsteps := Steps.head hst hsteps
  have hd23 := hd2.trans hd3
  have hl3 := hd3.2.le _ _ _ _ hlat
  have hfin : ∀ x, (b.on { a with defers := ⟨.collected w.heap.size, #[]⟩ :: a.defers } (.inRangeFunc (w.heap.size + 1) :: K)).finish x = b.on { a with defers := ⟨.collected w.heap.size, #[]⟩ :: a.defers } (.endRangeFunc (w.heap.size + 1) :: K) := fun x => rfl
  have hcx : ∀ {υ : Sg}, τ.le υ → CxRel υ base b ⟨cx.fr, cx.n, .collected s.nx :: cx.defs, cx.up⟩ { a with defers := ⟨.collected w.heap.size, #[]⟩ :: a.defers } cs := fun {υ} hle => by
    have hc' := hc.mono (Sg.le_trans hd23.2.le hle)
    exact ⟨hc'.fr, .cons _ _ _ _ (.collected _ _ _ _ (hle _ _ _ _ (hd3.2.le _ _ _ _ hdat))) hc'.defs, hc'.up⟩
  rcases end_step hend hkind.1 (b.on { a with defers := ⟨.collected w.heap.size, #[]⟩ :: a.defers } (.inRangeFunc (w.heap.size + 1) :: K)) cs with ⟨v, x, rfl, hv, hs⟩ | ⟨ch, chain, rfl, hch, hs⟩
  · obtain ⟨o, ho, e7⟩ := objk_ok (show objk s3 l _ = .ok from e6)
    cases o <;> first | (exact (no_ok (n := 329) e7).elim) | skip
    case loop st pend tmps n ps' asg' body' =>
    obtain ⟨O, hO, hrel⟩ := hd3.1.obj l _ _ _ _ hl3 ho
    cases hrel with
    | loop _ _ _ _ _ _ _ L _ _ h1 h2 h3 h4 h5 h6 =>
    have hlive : T.get l s3.heap ≠ none := by rw [ho]; simp
    have hput : ∀ L', L' = { L with state := LoopState.exhausted } → Did2 P τ s3 w3 τ (s3.put l (some (.loop .exhausted pend tmps n ps' asg' body'))) (w3.upd (w.heap.size + 1) (.loop L')) := fun L' hL' => by
      subst hL'
      exact ⟨hd3.1.put hl3 (.loop _ _ _ _ _ _ _ _ _ _ rfl h2 h3 h4 h5 h6) hlive, .put hd3.1 hl3 hlive⟩
    have hput := hput _ rfl
    rw [h2] at hput
    have key : st ≠ .busy → rfJump pend r ⟨cx.fr, cx.n, .collected s.nx :: cx.defs, cx.up⟩ (s3.put l (some (.loop .exhausted pend tmps n ps' asg' body'))) k = .ok →
        Ran P σ s w base b cx (lone (b.on a (.code (.rangeFunc f ps asg body) :: K)) cs w) K k := fun hst' e8 => by
      have hend2 := on_endRange (P := P) (b := b) (a := { a with defers := ⟨.collected w.heap.size, #[]⟩ :: a.defers }) (cs := cs) (k := K) hO (by rw [h1]; exact hst')
      have hall := hsteps.trans (.head hs (.one hend2))
      rw [h2] at hall
      have hdd := hd23.trans hput
      cases pend with
      | none => exact ⟨.normal, _, _, _, _, _, cs, e8, hdd, hcx τ.le_refl, rfl, hall⟩
      | some c' =>
        obtain ⟨ex, cx4, s4, υ, w4, a4, cs4, e9, hd4, hc4, hn4, harr⟩ := hr.code c' _ _ k τ _ base b _ cs K _ (.code c') e8 hput.1 (hcx τ.le_refl)
        exact ⟨ex, cx4, s4, υ, w4, a4, cs4, e9, hdd.trans hd4, hc4, hn4, harr.of_steps hall⟩
    cases st with
    | busy => exact (no_ok (n := 328) e7).elim
    | ready =>
      have e8 : putObjk s3 l (some (.loop .exhausted pend tmps n ps' asg' body')) (fun s' => rfJump pend r ⟨cx.fr, cx.n, .collected s.nx :: cx.defs, cx.up⟩ s' k) = .ok := e7
      rw [putObjk_eq] at e8
      exact key (by simp) e8
    | done =>
      have e8 : putObjk s3 l (some (.loop .exhausted pend tmps n ps' asg' body')) (fun s' => rfJump pend r ⟨cx.fr, cx.n, .collected s.nx :: cx.defs, cx.up⟩ s' k) = .ok := e7
      rw [putObjk_eq] at e8
      exact key (by simp) e8
    | exhausted =>
      have e8 : putObjk s3 l (some (.loop .exhausted pend tmps n ps' asg' body')) (fun s' => rfJump pend r ⟨cx.fr, cx.n, .collected s.nx :: cx.defs, cx.up⟩ s' k) = .ok := e7
      rw [putObjk_eq] at e8
      exact key (by simp) e8
  · have e7 : k (.panic ch) ⟨cx.fr, cx.n, .collected s.nx :: cx.defs, cx.up⟩ s3 = .ok := e6
    exact ⟨.panic ch, _, s3, τ, w3, _, cs, e7, hd23, hcx τ.le_refl, rfl, .inRangeFunc (w.heap.size + 1) :: K, chain, hch, by simp [Frame.catches, Frame.on], hsteps.trans (.one hs)⟩
end
end Go.Ev
