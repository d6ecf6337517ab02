/- How the evaluator's memory stands for the machine's; its small steps agree. -/
import Derived.Test.YtlohkhfopnkcmaaGreatDoorEvA
import Derived.Laws.Sem
import Derived.Laws.Cells
import Derived.Laws.Entries
import Derived.Laws.Strings

/- How abstract memory stands to a world. -/
namespace Go.Ev
open Go

/-- where an abstract object lies: nowhere yet; in a block, from a cell on, of so many cells -/
inductive Loc where
  | none
  | at (c sh sz : Nat)
abbrev Sg := Adr → Loc

inductive FnRel (σ : Sg) : Fn → Fn → Prop where
  | same (f : Fn) (h : ∀ l, f ≠ .yield l) : FnRel σ f f
  | yield (l c sh sz : Nat) (h : σ (adr l) = .at c sh sz) : FnRel σ (.yield l) (.yield c)

mutual
inductive RelV (σ : Sg) : AV → Value → Prop where
  | top (v : Value) : RelV σ .top v
  | bool (b : Bool) : RelV σ (.bool b) (.bool b)
  | int (k : IntKind) (n : Int) : RelV σ (.int k n) (.int k n)
  | str (s : ByteArray) : RelV σ (.str s.data.toList.length (packL s.data.toList)) (.string s)
  | ptr (a : Adr) (off c sh sz : Nat) (h : σ a = .at c sh sz) : RelV σ (.ptr a off) (.pointer (some ⟨c, sh + off, none⟩))
  | nilptr : RelV σ .nilptr (.pointer none)
  | slice (a : Adr) (off len cap c sh sz : Nat) (h : σ a = .at c sh sz) : RelV σ (.slice a off len cap) (.slice (some ⟨c, sh + off, none⟩) len cap)
  | gslice (a : Adr) (off len es c sh sz cap : Nat) (p : Addr) (h : σ a = .at c sh sz) (hc : cap * es + (sh + off) = sz) (hl : len ≤ cap) (he : 0 < es) (hp : p = ⟨c, sh + off, none⟩ ∨ cap = 0) :
      RelV σ (.gslice a off len es) (.slice (some p) len cap)
  | nilslice : RelV σ .nilslice (.slice none 0 0)
  | map (a : Adr) (c sh sz : Nat) (h : σ a = .at c sh sz) : RelV σ (.map a) (.map (some c))
  | nilmap : RelV σ .nilmap (.map none)
  | func (f g : Fn) (x y : List AV) (u v : Array Value) (hf : FnRel σ f g) (h1 : RelL σ x u.toList) (h2 : RelL σ y v.toList) : RelV σ (.func f x y) (.func g u v)
  | nilfunc : RelV σ .nilfunc .nilFunc
  | iface (t : TypeId) (x : AV) (v : Value) (h : RelV σ x v) : RelV σ (.iface t x) (.iface t v)
  | niliface : RelV σ .niliface .nilIface
  | agg (x : List AV) (v : Array Value) (h : RelL σ x v.toList) : RelV σ (.agg x) (.agg v)
  | tuple (x : List AV) (v : Array Value) (h : RelL σ x v.toList) : RelV σ (.tuple x) (.tuple v)
  | aint (k : IntKind) (lo hi : Option Int) (n : Int) (hl : ∀ l, lo = some l → l ≤ n) (hh : ∀ h, hi = some h → n < h) : RelV σ (.aint k lo hi) (.int k n)
  | abool (b : Bool) : RelV σ .abool (.bool b)
  | zslice (p : Addr) : RelV σ .zslice (.slice (some p) 0 0)
inductive RelL (σ : Sg) : List AV → List Value → Prop where
  | nil : RelL σ [] []
  | cons (x : AV) (v : Value) (xs : List AV) (vs : List Value) (h : RelV σ x v) (t : RelL σ xs vs) : RelL σ (x :: xs) (v :: vs)
end

/-- later: what lay somewhere lies there still -/
def Sg.le (σ τ : Sg) : Prop := ∀ a c sh sz, σ a = .at c sh sz → τ a = .at c sh sz
theorem Sg.le_refl (σ : Sg) : σ.le σ := fun _ _ _ _ h => h
theorem Sg.le_trans {σ τ υ : Sg} (h : σ.le τ) (h' : τ.le υ) : σ.le υ := fun a c sh sz e => h' a c sh sz (h a c sh sz e)

mutual
theorem RelV.mono {σ τ : Sg} (hl : σ.le τ) {x : AV} {v : Value} (h : RelV σ x v) : RelV τ x v := by
  cases h with
  | top => exact .top _
  | bool => exact .bool _
  | int => exact .int _ _
  | str => exact .str _
  | ptr a off c sh sz h => exact .ptr _ _ _ _ _ (hl _ _ _ _ h)
  | nilptr => exact .nilptr
  | slice a off len cap c sh sz h => exact .slice _ _ _ _ _ _ _ (hl _ _ _ _ h)
  | gslice a off len es c sh sz cap p h hc hlc he hp => exact .gslice _ _ _ _ _ _ _ _ _ (hl _ _ _ _ h) hc hlc he hp
  | nilslice => exact .nilslice
  | map a c sh sz h => exact .map _ _ _ _ (hl _ _ _ _ h)
  | nilmap => exact .nilmap
  | func f g x y u v hf h1 h2 =>
    cases hf with
    | same f h => exact .func _ _ _ _ _ _ (.same f h) (RelL.mono hl h1) (RelL.mono hl h2)
    | yield l c sh sz h => exact .func _ _ _ _ _ _ (.yield _ _ _ _ (hl _ _ _ _ h)) (RelL.mono hl h1) (RelL.mono hl h2)
  | nilfunc => exact .nilfunc
  | iface t x v h => exact .iface _ _ _ (RelV.mono hl h)
  | niliface => exact .niliface
  | agg x v h => exact .agg _ _ (RelL.mono hl h)
  | tuple x v h => exact .tuple _ _ (RelL.mono hl h)
  | aint k lo hi n hl hh => exact .aint _ _ _ _ hl hh
  | abool => exact .abool _
  | zslice => exact .zslice _
theorem RelL.mono {σ τ : Sg} (hl : σ.le τ) {x : List AV} {v : List Value} (h : RelL σ x v) : RelL τ x v := by
  cases h with
  | nil => exact .nil
  | cons x v xs vs h t => exact .cons _ _ _ _ (RelV.mono hl h) (RelL.mono hl t)
end

theorem RelL.length {σ : Sg} {x : List AV} {v : List Value} (h : RelL σ x v) : x.length = v.length := by
  induction x generalizing v with
  | nil => cases h; rfl
  | cons a x ih => cases h with | cons _ _ _ _ _ t => simp [ih t]
theorem RelL.append {σ : Sg} {x y : List AV} {v u : List Value} (h : RelL σ x v) (h' : RelL σ y u) : RelL σ (x ++ y) (v ++ u) := by
  induction x generalizing v with
  | nil => cases h; exact h'
  | cons a x ih => cases h with | cons _ _ _ _ h t => exact .cons _ _ _ _ h (ih t)
theorem RelL.split {σ : Sg} {x y : List AV} {v : List Value} (h : RelL σ (x ++ y) v) : RelL σ x (v.take x.length) ∧ RelL σ y (v.drop x.length) := by
  induction x generalizing v with
  | nil => exact ⟨.nil, by simpa using h⟩
  | cons a x ih => cases h with
    | cons _ v _ vs h t => exact ⟨.cons _ _ _ _ h (ih t).1, (ih t).2⟩
theorem RelL.get {σ : Sg} {x : List AV} {v : List Value} (h : RelL σ x v) {i : Nat} {a : AV} (e : x[i]? = some a) : ∃ u, v[i]? = some u ∧ RelV σ a u := by
  induction x generalizing v i with
  | nil => simp at e
  | cons b x ih => cases h with
    | cons _ v _ vs h t =>
      cases i with
      | zero => simp at e; subst e; exact ⟨v, rfl, h⟩
      | succ i => obtain ⟨u, e, r⟩ := ih t (i := i) (by simpa using e); exact ⟨u, by simpa using e, r⟩

/-- a frame -/
def FrRel (σ : Sg) (n : Nat) (fr : T AV) (tmps : Array Value) : Prop :=
  tmps.size = n ∧ ∀ t v, T.get (adr t) fr = some v → RelV σ v (tmps.getD t undef)

inductive DefRel (σ : Sg) : ADef → Deferred → Prop where
  | call (f : FuncId) (x : List AV) (cap as : Array Value) (h : RelL σ x (as ++ cap).toList) : DefRel σ (.call f x) ⟨.fn (.func f) cap, as⟩
  | collected (a : Adr) (c sh sz : Nat) (h : σ a = .at c sh sz) : DefRel σ (.collected a) ⟨.collected c, #[]⟩
inductive DefsRel (σ : Sg) : List ADef → List Deferred → Prop where
  | nil : DefsRel σ [] []
  | cons (d : ADef) (e : Deferred) (ds : List ADef) (es : List Deferred) (h : DefRel σ d e) (t : DefsRel σ ds es) : DefsRel σ (d :: ds) (e :: es)

inductive ChRel (σ : Sg) : List (AV × Bool) → List PanicEntry → Prop where
  | nil : ChRel σ [] []
  | cons (x : AV) (b : Bool) (v : Value) (xs : List (AV × Bool)) (vs : List PanicEntry) (h : RelV σ x v) (t : ChRel σ xs vs) : ChRel σ ((x, b) :: xs) (⟨v, b, false⟩ :: vs)

inductive EsRel (σ : Sg) : List (AV × AV) → List MapEntry → Prop where
  | nil : EsRel σ [] []
  | cons (k v : AV) (e : MapEntry) (xs : List (AV × AV)) (es : List MapEntry) (hk : RelV σ k e.key) (hv : RelV σ v e.val) (t : EsRel σ xs es) : EsRel σ ((k, v) :: xs) (e :: es)

/-- an object, in the block c -/
inductive RelO (σ : Sg) : AObj → Nat → Nat → Obj → Prop where
  | cells (elem : TypeId) (g : Bool) (fz sh sz : Nat) (vs : List AV) (cs : Array Value) (fr : Nat × Nat) (hs : cs.size = sz) (hl : sh + vs.length ≤ sz) (hg : g = false → sh = 0 ∧ vs.length = sz)
      (hv : RelL σ vs ((cs.toList.drop sh).take vs.length)) (hf : fz = 0 → fr = (0, 0)) (hf' : ∀ o, fr.1 ≤ o → o < fr.2 → o < sh + (fz - 1) ∨ sz ≤ o) (hf1 : fz ≠ 1 → fr.2 ≤ sh + (fz - 1)) : RelO σ (.cells elem g fz vs) sh sz (.cells cs elem fr)
  | map (es : List (AV × AV)) (clk : Nat) (en : Array MapEntry) (sh sz : Nat) (he : EsRel σ es en.toList) (hb : ∀ e ∈ en.toList, e.born < clk) (hn : (en.toList.map (·.born)).Nodup) : RelO σ (.map es clk) sh sz (.map en clk)
  | strIter (s : ByteArray) (pos sz : Nat) : RelO σ (.strIter s.data.toList.length (packL s.data.toList) pos) 0 sz (.stringIter s pos)
  | mapIter (m : Adr) (clk c sh' sz' sz : Nat) (h : σ m = .at c sh' sz') : RelO σ (.mapIter m clk) 0 sz (.mapIter (some c) clk #[] clk)
  | loop (st : LoopState) (pending : Option Code) (fr : T AV) (n : Nat) (ps : List Tmp) (asg body : Code) (l : Loop) (sh sz : Nat) (h1 : l.state = st) (h2 : l.pending = pending) (h3 : FrRel σ n fr l.tmps) (h4 : l.params.toList = ps)
      (h5 : l.assign = asg) (h6 : l.body = body) : RelO σ (.loop st pending fr n ps asg body) sh sz (.loop l)
  | deferred (sh sz : Nat) : RelO σ .deferred sh sz (.deferred (some []))
  | taken (sh sz : Nat) : RelO σ .taken sh sz (.deferred none)
  | any (sh sz : Nat) (O : Obj) : RelO σ .any sh sz O

/-- what is known of memory, as far as it is looked at -/
structure RepC (P : Program) (σ : Sg) (s : St) (w : World) : Prop where
  glob : ∀ g, g < P.globals.size → ∃ sz, σ (adr g) = .at g 0 sz
  obj : ∀ a c sh sz o, σ a = .at c sh sz → T.get a s.heap = some o → ∃ O, w.heap[c]? = some O ∧ RelO σ o sh sz O
  lt : ∀ a c sh sz, σ a = .at c sh sz → c < w.heap.size
  inj : ∀ a b c sh sz sh' sz', σ a = .at c sh sz → σ b = .at c sh' sz' → T.get a s.heap ≠ none → T.get b s.heap ≠ none → a = b

structure Rep (P : Program) (σ : Sg) (s : St) (w : World) : Prop extends RepC P σ s w where
  fresh : ∀ a, σ a ≠ .none → a.nat < s.nx.nat
  bd : s.bd ≤ s.nx.nat
  over : ∀ a, s.nx.nat ≤ a.nat → T.get a s.heap = Option.none

/-- what a run may do -/
structure Ext (σ : Sg) (s : St) (w : World) (τ : Sg) (t : St) (u : World) : Prop where
  le : σ.le τ
  none : ∀ a, a.nat < s.nx.nat → σ a = .none → τ a = .none ∧ T.get a t.heap = T.get a s.heap
  nx : s.nx.nat ≤ t.nx.nat
  size : w.heap.size ≤ u.heap.size
  frame : ∀ c, c < w.heap.size → (∀ a sh sz, σ a ≠ .at c sh sz) → u.heap[c]? = w.heap[c]?
  range : ∀ a c sh sz, τ a = .at c sh sz → c < w.heap.size → ∃ b sh' sz', σ b = .at c sh' sz'
  os : u.os = w.os
  output : u.output = w.output
  tape : u.tape = w.tape
  bd : t.bd = s.bd
  wl : t.wl = false → s.wl = false ∧ (s.bd ≠ 0 → ∀ a, a.nat < s.bd → T.get a t.heap = T.get a s.heap ∧ ∀ c sh sz, σ a = .at c sh sz → T.get a s.heap ≠ Option.none → u.heap[c]? = w.heap[c]?)

theorem Ext.refl (σ : Sg) (s : St) (w : World) : Ext σ s w σ s w :=
  ⟨σ.le_refl, fun _ _ h => ⟨h, rfl⟩, Nat.le_refl _, Nat.le_refl _, fun _ _ _ => rfl, fun a _ sh sz h _ => ⟨a, sh, sz, h⟩, rfl, rfl, rfl, rfl, fun h => ⟨h, fun _ _ _ => ⟨rfl, fun _ _ _ _ _ => rfl⟩⟩⟩
theorem Ext.trans {σ τ υ : Sg} {s t r : St} {w u x : World} (h : Ext σ s w τ t u) (h' : Ext τ t u υ r x) : Ext σ s w υ r x where
  le := Sg.le_trans h.le h'.le
  none a ha e := by
    have h1 := h.none a ha e
    have h2 := h'.none a (Nat.lt_of_lt_of_le ha h.nx) h1.1
    exact ⟨h2.1, h2.2.trans h1.2⟩
  nx := Nat.le_trans h.nx h'.nx
  size := Nat.le_trans h.size h'.size
  frame c hc hn := by
    rw [h'.frame c (Nat.lt_of_lt_of_le hc h.size), h.frame c hc hn]
    intro a sh sz e
    obtain ⟨b, s1, s2, e'⟩ := h.range a c sh sz e hc
    exact hn b s1 s2 e'
  range a c sh sz e hc := by
    obtain ⟨b, s1, s2, e'⟩ := h'.range a c sh sz e (Nat.lt_of_lt_of_le hc h.size)
    exact h.range b c s1 s2 e' hc
  os := h'.os.trans h.os
  output := h'.output.trans h.output
  tape := h'.tape.trans h.tape
  bd := h'.bd.trans h.bd
  wl e := by
    have h1 := h'.wl e
    have h2 := h.wl h1.1
    refine ⟨h2.1, fun hb a ha => ?_⟩
    have hb' : t.bd ≠ 0 := by rw [h.bd]; exact hb
    have q1 := h1.2 hb' a (by rw [h.bd]; exact ha)
    have q2 := h2.2 hb a ha
    refine ⟨q1.1.trans q2.1, fun c sh sz e hn => ?_⟩
    rw [q1.2 c sh sz (h.le _ _ _ _ e) (by rw [q2.1]; exact hn), q2.2 c sh sz e hn]

theorem FrRel.mono {σ τ : Sg} (hl : σ.le τ) {n : Nat} {fr : T AV} {ts : Array Value} (h : FrRel σ n fr ts) : FrRel τ n fr ts := ⟨h.1, fun t v e => (h.2 t v e).mono hl⟩
theorem EsRel.mono {σ τ : Sg} (hl : σ.le τ) {x : List (AV × AV)} {e : List MapEntry} (h : EsRel σ x e) : EsRel τ x e := by
  induction h with
  | nil => exact .nil
  | cons k v e xs es hk hv t ih => exact .cons _ _ _ _ _ (hk.mono hl) (hv.mono hl) ih
theorem ChRel.mono {σ τ : Sg} (hl : σ.le τ) {x : List (AV × Bool)} {e : List PanicEntry} (h : ChRel σ x e) : ChRel τ x e := by
  induction h with
  | nil => exact .nil
  | cons x b v xs vs h t ih => exact .cons _ _ _ _ _ (h.mono hl) ih
theorem RelO.mono {σ τ : Sg} (hl : σ.le τ) {o : AObj} {sh sz : Nat} {O : Obj} (h : RelO σ o sh sz O) : RelO τ o sh sz O := by
  cases h with
  | cells elem g fz sh sz vs cs fr hs hll hg hv hf hf' hf1 => exact .cells _ _ _ _ _ _ _ _ hs hll hg (hv.mono hl) hf hf' hf1
  | map es clk en sh sz he hb hn => exact .map _ _ _ _ _ (he.mono hl) hb hn
  | strIter => exact .strIter _ _ _
  | mapIter m clk c sh' sz' sz h => exact .mapIter _ _ _ _ _ _ (hl _ _ _ _ h)
  | loop st pending fr n ps asg body l sh sz h1 h2 h3 h4 h5 h6 => exact .loop _ _ _ _ _ _ _ _ _ _ h1 h2 (h3.mono hl) h4 h5 h6
  | deferred => exact .deferred _ _
  | taken => exact .taken _ _
  | any => exact .any _ _ _
end Go.Ev

/- Memory: what the evaluator does to it, and what the model does. -/
namespace Go.Ev
open Go

def _root_.Go.World.upd (w : World) (c : Nat) (O : Obj) : World := { w with heap := w.heap.setIfInBounds c O }
noncomputable def St.put (s : St) (a : Adr) (o : Option AObj) : St := ⟨T.set o a s.heap, s.nx, s.bd, s.wl || (!(Nat.beq s.bd 0) && Nat.blt a.nat s.bd)⟩
noncomputable def St.new (s : St) (o : AObj) : St := ⟨T.set (some o) s.nx s.heap, s.nx.succ, s.bd, s.wl⟩

theorem putObjk_eq (s : St) (a : Adr) (o : Option AObj) (k : St → R) : putObjk s a o k = k (s.put a o) := by
  unfold putObjk St.put
  rw [T.setk_eq]
  cases h : Nat.beq s.bd 0
  · simp [fB_eq]
  · simp
theorem newk_eq (s : St) (o : AObj) (k : Adr → St → R) : newk s o k = k s.nx (s.new o) := by
  unfold newk St.new
  rw [T.setk_eq]
  cases h : s.nx.succ <;> rfl

theorem _root_.Go.Addr.add_mk (c o j : Nat) : (⟨c, o, none⟩ : Addr).add j = ⟨c, o + j, none⟩ := by
  unfold Addr.add; split
  · subst_vars; simp
  · rfl

theorem upd_get (w : World) (c : Nat) (O : Obj) (h : c < w.heap.size) : (w.upd c O).heap[c]? = some O := by simp [World.upd, h]
theorem upd_get_ne (w : World) (c d : Nat) (O : Obj) (h : c ≠ d) : (w.upd c O).heap[d]? = w.heap[d]? := by simp [World.upd, h]
theorem lt_of_get {w : World} {c : Nat} {O : Obj} (h : w.heap[c]? = some O) : c < w.heap.size := (Array.getElem?_eq_some_iff.1 h).1

section
variable {P : Program} {σ : Sg} {s : St} {w : World}

/-- an object is changed in its place -/
theorem Rep.put (h : Rep P σ s w) {a : Adr} {c sh sz : Nat} (ha : σ a = .at c sh sz) {o : AObj} {O : Obj} (ho : RelO σ o sh sz O) (hlive : T.get a s.heap ≠ none) : Rep P σ (s.put a (some o)) (w.upd c O) where
  glob := h.glob
  obj b d sh' sz' o' e eo := by
    by_cases hab : a = b
    · subst hab
      rw [ha] at e; cases e
      have eo' : some o = some o' := (T.get_set_self (some o) a s.heap).symm.trans eo
      cases eo'
      exact ⟨O, upd_get _ _ _ (h.lt _ _ _ _ ha), ho⟩
    · have eo' : T.get b s.heap = some o' := (T.get_set_ne (some o) hab s.heap).symm.trans eo
      obtain ⟨O', h2, h3⟩ := h.obj b d sh' sz' o' e eo'
      refine ⟨O', ?_, h3⟩
      rw [upd_get_ne _ _ _ _ (fun hcd => hab (h.inj a b c _ _ _ _ ha (hcd ▸ e) hlive (by rw [eo']; simp)))]
      exact h2
  lt b d sh' sz' e := by simpa [World.upd] using h.lt b d sh' sz' e
  inj b d c' s1 s2 s3 s4 e1 e2 l1 l2 := by
    have live : ∀ b, T.get b (s.put a (some o)).heap ≠ none → T.get b s.heap ≠ none := fun b hb => by
      by_cases hab : a = b
      · subst hab; exact hlive
      · exact fun hh => hb ((T.get_set_ne (some o) hab s.heap).trans hh)
    exact h.inj b d c' s1 s2 s3 s4 e1 e2 (live b l1) (live d l2)
  fresh := h.fresh
  bd := h.bd
  over b hb := by
    have : a ≠ b := fun hab => by subst hab; exact hlive (h.over a hb)
    exact (T.get_set_ne (some o) this s.heap).trans (h.over b hb)
/-- an object is given up -/
theorem Rep.kill (h : Rep P σ s w) {a : Adr} : Rep P σ (s.put a none) w where
  glob := h.glob
  obj b d sh' sz' o' e eo := by
    by_cases hab : a = b
    · subst hab
      have eo' : none = some o' := (T.get_set_self none a s.heap).symm.trans eo
      cases eo'
    · exact h.obj b d sh' sz' o' e ((T.get_set_ne none hab s.heap).symm.trans eo)
  lt := h.lt
  inj b d c' s1 s2 s3 s4 e1 e2 l1 l2 := by
    have live : ∀ b, T.get b (s.put a none).heap ≠ none → T.get b s.heap ≠ none := fun b hb => by
      by_cases hab : a = b
      · subst hab; exact absurd (T.get_set_self none a s.heap) hb
      · exact fun hh => hb ((T.get_set_ne none hab s.heap).trans hh)
    exact h.inj b d c' s1 s2 s3 s4 e1 e2 (live b l1) (live d l2)
  fresh := h.fresh
  bd := h.bd
  over b hb := by
    by_cases hab : a = b
    · subst hab; exact T.get_set_self none a s.heap
    · exact (T.get_set_ne none hab s.heap).trans (h.over b hb)
theorem wl_lt {a : Adr} {o : Option AObj} (e : (s.put a o).wl = false) : s.wl = false ∧ (s.bd ≠ 0 → ∀ b : Adr, b.nat < s.bd → a ≠ b) := by
  simp only [St.put, Bool.or_eq_false_iff] at e
  refine ⟨e.1, fun hb b hlt hab => ?_⟩
  subst hab
  have h2 := e.2
  have e1 : Nat.beq s.bd 0 = false := by cases hx : Nat.beq s.bd 0; rfl; exact absurd (Nat.eq_of_beq_eq_true hx) hb
  have e2 : Nat.blt a.nat s.bd = true := by rw [Nat.blt_eq]; exact hlt
  simp [e1, e2] at h2
theorem Ext.put (h : Rep P σ s w) {a : Adr} {c sh sz : Nat} (ha : σ a = .at c sh sz) {o : AObj} {O : Obj} (hlive : T.get a s.heap ≠ Option.none) : Ext σ s w σ (s.put a (some o)) (w.upd c O) where
  le := σ.le_refl
  none b _ e := ⟨e, T.get_set_ne _ (fun hab => by subst hab; rw [ha] at e; cases e) _⟩
  nx := Nat.le_refl _
  size := by simp [World.upd]
  frame d _ hn := upd_get_ne _ _ _ _ (fun hcd => hn a sh sz (hcd ▸ ha))
  range b _ sh' sz' e _ := ⟨b, sh', sz', e⟩
  os := rfl
  output := rfl
  tape := rfl
  bd := rfl
  wl e := by
    obtain ⟨e1, e2⟩ := wl_lt e
    refine ⟨e1, fun hb b hlt => ⟨T.get_set_ne _ (e2 hb b hlt) _, fun c' s1 s2 hc hl => upd_get_ne _ _ _ _ (fun hcd => e2 hb b hlt ?_)⟩⟩
    subst hcd
    exact h.inj _ _ _ _ _ _ _ ha hc hlive hl
theorem Ext.kill (σ : Sg) (s : St) (w : World) {a : Adr} {c sh sz : Nat} (ha : σ a = .at c sh sz) : Ext σ s w σ (s.put a Option.none) w where
  le := σ.le_refl
  none b _ e := ⟨e, T.get_set_ne _ (fun hab => by subst hab; rw [ha] at e; cases e) _⟩
  nx := Nat.le_refl _
  size := Nat.le_refl _
  frame _ _ _ := rfl
  range b _ sh' sz' e _ := ⟨b, sh', sz', e⟩
  os := rfl
  output := rfl
  tape := rfl
  bd := rfl
  wl e := by
    obtain ⟨e1, e2⟩ := wl_lt e
    exact ⟨e1, fun hb b hlt => ⟨T.get_set_ne _ (e2 hb b hlt) _, fun _ _ _ _ _ => rfl⟩⟩
/-- draws alone -/
def _root_.Go.World.draw (w : World) (n : Nat) : World := { w with drawn := n }
theorem Rep.draw (h : Rep P σ s w) (n : Nat) : Rep P σ s (w.draw n) := ⟨⟨h.glob, h.obj, h.lt, h.inj⟩, h.fresh, h.bd, h.over⟩
theorem Ext.draw (σ : Sg) (s : St) (w : World) (n : Nat) : Ext σ s w σ s (w.draw n) :=
  ⟨σ.le_refl, fun _ _ h => ⟨h, rfl⟩, Nat.le_refl _, Nat.le_refl _, fun _ _ _ => rfl, fun a _ sh sz h _ => ⟨a, sh, sz, h⟩, rfl, rfl, rfl, rfl, fun h => ⟨h, fun _ _ _ => ⟨rfl, fun _ _ _ _ _ => rfl⟩⟩⟩

/-- a new object -/
noncomputable def Sg.upd (σ : Sg) (a : Adr) (l : Loc) : Sg := fun b => open Classical in if b = a then l else σ b
theorem Sg.upd_self (σ : Sg) (a : Adr) (l : Loc) : σ.upd a l a = l := by simp [Sg.upd]
theorem Sg.upd_ne (σ : Sg) {a b : Adr} (l : Loc) (h : b ≠ a) : σ.upd a l b = σ b := by simp [Sg.upd, h]
theorem Rep.free (h : Rep P σ s w) {a : Adr} (ha : s.nx.nat ≤ a.nat) : σ a = .none := by
  cases e : σ a with
  | none => rfl
  | «at» c sh sz => have := h.fresh a (by rw [e]; simp); omega
theorem Sg.le_upd {a : Adr} (ha : σ a = .none) (l : Loc) : σ.le (σ.upd a l) :=
  fun b c sh sz e => by rw [Sg.upd_ne]; exact e; intro hb; subst hb; rw [ha] at e; cases e

def _root_.Go.World.push (w : World) (O : Obj) : World := { w with heap := w.heap.push O }
theorem push_get (w : World) (O : Obj) : (w.push O).heap[w.heap.size]? = some O := by show (w.heap.push O)[w.heap.size]? = some O; rw [Array.getElem?_push_size]
theorem push_get_lt (w : World) (O : Obj) {c : Nat} (h : c < w.heap.size) : (w.push O).heap[c]? = w.heap[c]? := by
  show (w.heap.push O)[c]? = _
  rw [Array.getElem?_push, if_neg (Nat.ne_of_lt h)]

/-- an object that was there already comes to lie somewhere -/
theorem Rep.place (h : Rep P σ s w) {a : Adr} (ha : σ a = .none) (hx : a.nat < s.nx.nat) {o : AObj} (hg : T.get a s.heap = some o) {sh sz : Nat} {O : Obj} (ho : RelO (σ.upd a (.at w.heap.size sh sz)) o sh sz O) :
    Rep P (σ.upd a (.at w.heap.size sh sz)) s (w.push O) := by
  have hle := Sg.le_upd ha (.at w.heap.size sh sz)
  refine ⟨⟨?_, ?_, ?_, ?_⟩, ?_, h.bd, h.over⟩
  · intro g hg
    obtain ⟨sz, e1⟩ := h.glob g hg
    exact ⟨sz, hle _ _ _ _ e1⟩
  · intro b c sh' sz' o' e eo
    by_cases hb : b = a
    · subst hb
      rw [Sg.upd_self] at e; cases e
      rw [hg] at eo; cases eo
      exact ⟨O, push_get _ _, ho⟩
    · rw [Sg.upd_ne _ _ hb] at e
      obtain ⟨O', h2, h3⟩ := h.obj b c sh' sz' o' e eo
      exact ⟨O', (push_get_lt _ _ (lt_of_get h2)).trans h2, h3.mono hle⟩
  · intro b c sh' sz' e
    by_cases hb : b = a
    · subst hb; rw [Sg.upd_self] at e; cases e; simp [World.push]
    · rw [Sg.upd_ne _ _ hb] at e
      have := h.lt b c sh' sz' e
      simp [World.push]; omega
  · intro x y c s1 s2 s3 s4 e1 e2 l1 l2
    by_cases hx : x = a
    · by_cases hy : y = a
      · rw [hx, hy]
      · rw [Sg.upd_ne _ _ hy] at e2; subst hx; rw [Sg.upd_self] at e1; cases e1
        exact absurd (h.lt _ _ _ _ e2) (Nat.lt_irrefl _)
    · rw [Sg.upd_ne _ _ hx] at e1
      by_cases hy : y = a
      · subst hy; rw [Sg.upd_self] at e2; cases e2
        exact absurd (h.lt _ _ _ _ e1) (Nat.lt_irrefl _)
      · rw [Sg.upd_ne _ _ hy] at e2
        exact h.inj x y c _ _ _ _ e1 e2 l1 l2
  · intro b e
    by_cases hb : b = a
    · subst hb; exact hx
    · rw [Sg.upd_ne _ _ hb] at e
      exact h.fresh b e
/-- an object that is nowhere yet -/
theorem Rep.alloc (h : Rep P σ s w) (o : AObj) : Rep P σ (s.new o) w := by
  have hf : σ s.nx = .none := h.free (Nat.le_refl _)
  have hget : ∀ {b c sh sz}, σ b = .at c sh sz → T.get b (s.new o).heap = T.get b s.heap := fun {b c sh sz} e =>
    T.get_set_ne _ (fun x => by subst x; rw [hf] at e; cases e) _
  refine ⟨⟨h.glob, ?_, h.lt, ?_⟩, ?_, ?_, ?_⟩
  · intro b c sh sz o' e eo
    rw [hget e] at eo
    exact h.obj b c sh sz o' e eo
  · intro a b c s1 s2 s3 s4 e1 e2 l1 l2
    rw [hget e1] at l1; rw [hget e2] at l2
    exact h.inj a b c _ _ _ _ e1 e2 l1 l2
  · intro a e
    have := h.fresh a e
    show a.nat < (s.nx.succ).nat
    rw [Adr.nat_succ]; omega
  · show s.bd ≤ (s.nx.succ).nat
    rw [Adr.nat_succ]; have := h.bd; omega
  · intro a ha
    have ha' : (s.nx.succ).nat ≤ a.nat := ha
    rw [Adr.nat_succ] at ha'
    exact (T.get_set_ne _ (fun x => by subst x; omega) _).trans (h.over a (by omega))
theorem Rep.new (h : Rep P σ s w) {o : AObj} {sh sz : Nat} {O : Obj} (ho : RelO (σ.upd s.nx (.at w.heap.size sh sz)) o sh sz O) :
    Rep P (σ.upd s.nx (.at w.heap.size sh sz)) (s.new o) (w.push O) ∧ Ext σ s w (σ.upd s.nx (.at w.heap.size sh sz)) (s.new o) (w.push O) := by
  have hf : σ s.nx = .none := h.free (Nat.le_refl _)
  have hle := Sg.le_upd hf (.at w.heap.size sh sz)
  refine ⟨(h.alloc o).place hf ?_ (T.get_set_self _ _ _) ho, ⟨hle, ?_, ?_, ?_, ?_, ?_, rfl, rfl, rfl, rfl, ?_⟩⟩
  · show s.nx.nat < (s.nx.succ).nat
    rw [Adr.nat_succ]; omega
  · intro a ha e
    have hne : a ≠ s.nx := fun x => by subst x; omega
    exact ⟨by rw [Sg.upd_ne _ _ hne]; exact e, T.get_set_ne _ (Ne.symm hne) _⟩
  · show s.nx.nat ≤ (s.nx.succ).nat
    rw [Adr.nat_succ]; omega
  · simp [World.push]
  · intro c hc _
    exact push_get_lt _ _ hc
  · intro a c sh' sz' e hc
    by_cases ha : a = s.nx
    · subst ha; rw [Sg.upd_self] at e; cases e; omega
    · rw [Sg.upd_ne _ _ ha] at e; exact ⟨a, sh', sz', e⟩
  · intro e
    refine ⟨e, fun _ a ha => ?_⟩
    have hne : a ≠ s.nx := fun x => by subst x; have := h.bd; omega
    exact ⟨T.get_set_ne _ (Ne.symm hne) _, fun c _ _ hc _ => push_get_lt _ _ (h.lt _ _ _ _ hc)⟩

/-- an object that lies in a block of cells -/
theorem RepC.cells (h : RepC P σ s w) {a : Adr} {c sh sz : Nat} (ha : σ a = .at c sh sz) {e : TypeId} {g : Bool} {fz : Nat} {vs : List AV} (he : T.get a s.heap = some (.cells e g fz vs)) :
    ∃ cs fr, w.heap[c]? = some (.cells cs e fr) ∧ cs.size = sz ∧ sh + vs.length ≤ sz ∧ (g = false → sh = 0 ∧ vs.length = sz) ∧ RelL σ vs ((cs.toList.drop sh).take vs.length) ∧ (fz = 0 → fr = (0, 0)) ∧
      (∀ o, fr.1 ≤ o → o < fr.2 → o < sh + (fz - 1) ∨ sz ≤ o) ∧ (fz ≠ 1 → fr.2 ≤ sh + (fz - 1)) := by
  obtain ⟨O, h2, h3⟩ := h.obj a c sh sz _ ha he
  cases h3 with
  | cells _ _ _ _ _ _ cs fr hs hl hg hv hf hf' hf1 => exact ⟨cs, fr, h2, hs, hl, hg, hv, hf, hf', hf1⟩

theorem cell_of_blk {c : Nat} {cs : Array Value} {e : TypeId} {fr : Nat × Nat} (h : w.heap[c]? = some (.cells cs e fr)) (o : Nat) : w.cell? ⟨c, o, none⟩ = cs[o]? := by simp [World.cell?, h]
theorem frozen_of_blk {c : Nat} {cs : Array Value} {e : TypeId} {fr : Nat × Nat} (h : w.heap[c]? = some (.cells cs e fr)) (o : Nat) : w.frozen? ⟨c, o, none⟩ = (decide (fr.1 ≤ o) && decide (o < fr.2)) := by
  obtain ⟨a, b⟩ := fr; simp [World.frozen?, h]

theorem run_loadCells_blk (P : Program) {c : Nat} {cs : Array Value} {e : TypeId} {fr : Nat × Nat} (h : w.heap[c]? = some (.cells cs e fr)) (o n : Nat) (hn : o + n ≤ cs.size) :
    (loadCells ⟨c, o, none⟩ n).run P w = .ok ((cs.toList.drop o).take n).toArray w := by
  have hl : ((cs.toList.drop o).take n).length = n := by simp; omega
  have := run_loadCells_list (P := P) (w := w) ⟨c, o, none⟩ ((cs.toList.drop o).take n) (fun j v hj => by
    rw [Addr.add_mk, cell_of_blk h]
    rw [List.getElem?_take] at hj
    split at hj
    · simpa using hj
    · cases hj)
  rw [hl] at this
  exact this

/-- cells loaded -/
theorem loadk_ok (h : RepC P σ s w) {a : Adr} {c sh sz : Nat} (ha : σ a = .at c sh sz) {off n : Nat} {k : List AV → R} (e : loadk s a off n k = .ok) :
    ∃ l vs, k l = .ok ∧ l.length = n ∧ RelL σ l vs ∧ sh + off + n ≤ sz ∧ ∀ d, (loadCells ⟨c, sh + off, none⟩ n).run P (w.draw d) = .ok vs.toArray (w.draw d) := by
  unfold loadk cellsk objk at e
  obtain ⟨o, h1, e⟩ := optk_ok e
  obtain ⟨el, g, fz, vs, rfl, e⟩ := AObj.onCells_ok e
  obtain ⟨x, y, rfl, hx, e⟩ := splitk_ok e
  obtain ⟨l, z, rfl, hl, e⟩ := splitk_ok e
  obtain ⟨cs, fr, h2, hs, hlen, hg, hv, hf, hf'⟩ := h.cells ha h1
  obtain ⟨_, hv⟩ := hv.split
  obtain ⟨hv, _⟩ := hv.split
  simp only [List.length_append] at hlen
  refine ⟨l, _, e, hl, hv, by omega, fun d => ?_⟩
  rw [run_loadCells_blk P (w := w.draw d) h2 _ _ (by omega)]
  congr 2
  rw [List.drop_take, List.take_take, List.drop_drop, hx, hl]
  congr 1
  simp only [List.length_append]; omega

/-- cells written one behind the other -/
theorem run_storeCells_blk (P : Program) (c o : Nat) (e : TypeId) (fr : Nat × Nat) : ∀ (vs : List Value) (i : Nat) (cs : Array Value) (w : World), w.heap[c]? = some (.cells cs e fr) → o + i + vs.length ≤ cs.size →
    (∀ j, o + i ≤ j → j < o + i + vs.length → ¬ (fr.1 ≤ j ∧ j < fr.2)) → (∀ v ∈ vs, v.oneCell' = true) →
    (storeCells ⟨c, o, none⟩ vs i).run P w = .ok () (w.upd c (.cells (cs.toList.take (o + i) ++ vs ++ cs.toList.drop (o + i + vs.length)).toArray e fr)) := by
  intro vs
  induction vs with
  | nil =>
    intro i cs w h hl _ _
    have hc := lt_of_get h
    have e1 : (cs.toList.take (o + i) ++ [] ++ cs.toList.drop (o + i + ([] : List Value).length)).toArray = cs := by simp
    rw [e1]
    simp only [storeCells, Sem.run_pure]
    congr 1
    unfold World.upd
    have : w.heap.setIfInBounds c (.cells cs e fr) = w.heap := by
      apply Array.ext'
      simp only [Array.toList_setIfInBounds]
      apply List.ext_getElem?
      intro j
      rw [List.getElem?_set]
      split
      · rename_i hj; subst hj
        have h' : w.heap.toList[c]? = some (.cells cs e fr) := by simpa using h
        rw [h']; simp [hc]
      · rfl
    rw [this]
  | cons v vs ih =>
    intro i cs w h hl hz h1
    have hc := lt_of_get h
    simp only [List.length_cons] at hl hz
    have hv : v.oneCell' = true := h1 v (by simp)
    have hs : (store ((⟨c, o, none⟩ : Addr).add i) v).run P w = .ok () (w.upd c (.cells (cs.set (o + i) v (by omega)) e fr)) := by
      rw [run_store P w _ v .plain hv, Addr.add_mk, cell_of_blk h]
      have : cs[o + i]? = some (cs[o + i]'(by omega)) := by simp
      rw [this]
      simp only
      rw [frozen_of_blk h]
      have hzz := hz (o + i) (Nat.le_refl _) (by omega)
      have : (decide (fr.1 ≤ o + i) && decide (o + i < fr.2)) = false := by
        rw [Bool.and_eq_false_iff]; simp only [decide_eq_false_iff_not]
        rcases Nat.lt_or_ge (o + i) fr.1 with hh | hh
        · exact .inl (by omega)
        · exact .inr (fun hh' => hzz ⟨hh, hh'⟩)
      rw [this]
      simp only [Bool.false_eq_true, if_false]
      congr 1
      unfold World.setCell World.upd
      congr 1
      simp only [Option.isSome_none, Bool.false_eq_true, if_false]
      apply Array.ext'
      simp only [Array.toList_modify, Array.toList_setIfInBounds]
      apply List.ext_getElem?
      intro j
      rw [List.getElem?_modify, List.getElem?_set]
      have h' : w.heap.toList[c]? = some (.cells cs e fr) := by simpa using h
      split
      · rename_i hj; subst hj
        rw [h']
        have hsz : o + i < cs.size := by omega
        simp [hc, Array.setIfInBounds, hsz]
      · simp
    have hw : (w.upd c (.cells (cs.set (o + i) v (by omega)) e fr)).heap[c]? = some (.cells (cs.set (o + i) v (by omega)) e fr) := upd_get _ _ _ hc
    have hrec := ih (i + 1) _ _ hw (by simp; omega) (fun j ha hb => hz j (by omega) (by omega)) (fun u hu => h1 u (by simp [hu]))
    have hset : ∀ (l : List Value) (n k : Nat), n < l.length → (l.set n v).take (n + 1) ++ vs ++ (l.set n v).drop (n + 1 + k) = l.take n ++ v :: vs ++ l.drop (n + (k + 1)) := by
      intro l n k hn
      obtain ⟨x, y, B, rfl, hx⟩ : ∃ x y B, l = x ++ y :: B ∧ x.length = n := ⟨l.take n, l[n], l.drop (n + 1), by simp, by simp; omega⟩
      subst hx
      rw [List.set_append_right _ _ (Nat.le_refl _), Nat.sub_self, List.set_cons_zero, List.take_append, List.drop_append, List.take_append, List.drop_append]
      have a1 : x.length + 1 - x.length = 1 := by omega
      have a2 : x.length + 1 + k - x.length = k + 1 := by omega
      have a3 : x.length + (k + 1) - x.length = k + 1 := by omega
      have b1 : x.take (x.length + 1) = x := List.take_of_length_le (by omega)
      have b2 : x.drop (x.length + 1 + k) = [] := List.drop_of_length_le (by omega)
      have b3 : x.drop (x.length + (k + 1)) = [] := List.drop_of_length_le (by omega)
      rw [a1, a2, a3, b1, b2, b3]
      simp
    simp only [storeCells, Sem.run_bind, hs]
    refine hrec.trans ?_
    congr 1
    unfold World.upd
    simp only [Array.setIfInBounds_setIfInBounds]
    congr 3
    have := hset cs.toList (o + i) vs.length (by simp; omega)
    rw [Array.toList_set, List.length_cons, ← this]
    congr 2

theorem plain_one {v : AV} {x : Value} (h : RelV σ v x) (e : v.plain = true) : x.oneCell' = true := by
  cases h <;> first | rfl | assumption | (exact absurd e (by simp [AV.plain]))
theorem plains_one {l : List AV} {vs : List Value} (h : RelL σ l vs) (e : plains l = true) : ∀ v ∈ vs, v.oneCell' = true := by
  induction l generalizing vs with
  | nil => cases h; simp
  | cons a l ih =>
    cases h with
    | cons _ v _ vs h t =>
      have e' : Bool.rec (motive := fun _ => Bool) false (plains l) a.plain = true := e
      cases ha : a.plain
      · rw [ha] at e'; simp at e'
      · rw [ha] at e'
        intro u hu
        rcases List.mem_cons.1 hu with rfl | hu
        · exact plain_one h ha
        · exact ih t e' u hu
theorem cells_one {x : Value} (h : x.oneCell' = true) : x.cells = #[x] := by cases x <;> first | rfl | (simp [Value.oneCell'] at h)
theorem cvk_ok {v : AV} {x : Value} (h : RelV σ v x) {k : List AV → R} (e : cvk v k = .ok) : ∃ cs, k cs = .ok ∧ RelL σ cs x.cells.toList := by
  by_cases ha : ∃ l, v = .agg l
  · obtain ⟨l, rfl⟩ := ha
    cases h with
    | agg _ u h => exact ⟨l, e, h⟩
  · have e' : Bool.rec (motive := fun _ => R) (.no 13) (k [v]) v.plain = .ok := by
      cases v <;> first | exact e | exact absurd ⟨_, rfl⟩ ha
    cases hp : v.plain
    · rw [hp] at e'; cases e'
    · rw [hp] at e'
      have hc := cells_one (plain_one h hp)
      exact ⟨[v], e', by rw [hc]; exact .cons _ _ _ _ h .nil⟩

theorem storek_ok (h : Rep P σ s w) {a : Adr} {c sh sz : Nat} (ha : σ a = .at c sh sz) {off : Nat} {new : List AV} {vs : List Value} (hn : RelL σ new vs) {k : St → R} (e : storek s a off new k = .ok) :
    ∃ s' w', k s' = .ok ∧ (storeCells ⟨c, sh + off, none⟩ vs).run P w = .ok () w' ∧ Rep P σ s' w' ∧ Ext σ s w σ s' w' := by
  unfold storek cellsk objk at e
  obtain ⟨o, h1, e⟩ := optk_ok e
  obtain ⟨el, g, fz, old, rfl, e⟩ := AObj.onCells_ok e
  obtain ⟨hb, e⟩ := ifk_no e
  rw [Bool.and_eq_true] at hb
  obtain ⟨hb, hp⟩ := hb
  rw [lenk_eq] at e
  obtain ⟨x, y, rfl, hx, e⟩ := splitk_ok e
  obtain ⟨l, z, rfl, hl, e⟩ := splitk_ok e
  rw [appk_eq, appk_eq, putObjk_eq] at e
  obtain ⟨cs, fr, h2, hs, hlen, hg, hv, hf, hf', hf1⟩ := h.cells ha h1
  have hnl := hn.length
  simp only [List.length_append] at hlen hg
  have hrun := run_storeCells_blk P c (sh + off) el fr vs 0 cs w h2 (by omega) (fun j hj1 hj2 hz => by
    have hb' : fz - 1 ≤ off := Nat.le_of_ble_eq_true hb
    rcases hf' j hz.1 hz.2 with hh | hh <;> omega) (plains_one hn hp)
  refine ⟨_, _, e, hrun, h.put ha ?_ (by rw [h1]; simp), .put h ha (by rw [h1]; simp)⟩
  refine .cells _ _ _ _ _ _ _ _ ?_ ?_ ?_ ?_ hf hf' hf1
  · simp; omega
  · simp only [List.length_append]; omega
  · intro hgg; have := hg hgg; simp only [List.length_append]; omega
  · have e1 := hv.split
    have e2 := e1.2.split
    have q1 : RelL σ x ((cs.toList.drop sh).take off) := by
      have := e1.1
      rw [List.take_take] at this
      simp only [List.length_append] at this
      rw [Nat.min_eq_left (by omega), hx] at this
      exact this
    have q2 : RelL σ z ((cs.toList.drop (sh + off + new.length)).take z.length) := by
      have := e2.2
      rw [List.drop_take, List.drop_take, List.drop_drop, List.drop_drop] at this
      simp only [List.length_append] at this
      rw [hx, hl] at this
      have a1 : off + (new.length + z.length) - off - new.length = z.length := by omega
      rw [a1, ← Nat.add_assoc] at this
      exact this
    have q := q1.append (hn.append q2)
    have hcl : cs.toList.length = sz := by simpa using hs
    have : (List.drop sh (cs.toList.take (sh + off + 0) ++ vs ++ cs.toList.drop (sh + off + 0 + vs.length)).toArray.toList).take (x ++ (new ++ z)).length = (cs.toList.drop sh).take off ++ (vs ++ (cs.toList.drop (sh + off + new.length)).take z.length) := by
      simp only [Nat.add_zero, List.append_assoc]
      rw [List.drop_append_of_le_length (by simp; omega)]
      have d1 : List.drop sh (cs.toList.take (sh + off)) = (cs.toList.drop sh).take off := by rw [List.drop_take]; congr 1; omega
      rw [d1]
      have l1 : ((cs.toList.drop sh).take off).length = off := by simp; omega
      rw [List.length_append, List.length_append, hx]
      have t1 : ∀ (A X : List Value) (p : Nat), (A ++ X).take (A.length + p) = A ++ X.take p := fun A X p => by rw [List.take_append, List.take_of_length_le (by omega)]; congr 2; omega
      have := t1 ((cs.toList.drop sh).take off) (vs ++ cs.toList.drop (sh + off + vs.length)) (new.length + z.length)
      rw [l1] at this
      rw [this, hnl, t1]
    rw [this]
    exact q
end
end Go.Ev

/- Operations: constants, operands, loads and stores. -/
namespace Go.Ev
open Go

section
variable {P : Program} {σ : Sg} {s : St} {w : World}

theorem atomk_ok (σ : Sg) {v : Value} {k : AV → R} (e : atomk v k = .ok) : ∃ a, k a = .ok ∧ RelV σ a v := by
  cases v with
  | bool b => exact ⟨_, e, .bool b⟩
  | int q n => simp only [atomk, fI_eq] at e; exact ⟨_, e, .int q n⟩
  | string s => simp only [atomk, fN_eq] at e; exact ⟨_, e, .str s⟩
  | pointer p => cases p with
    | none => exact ⟨_, e, .nilptr⟩
    | some a => exact absurd e (by simp [atomk])
  | slice p l c => cases p with
    | none =>
      simp only [atomk] at e
      obtain ⟨hb, e⟩ := ifk_no e
      rw [Bool.and_eq_true] at hb
      have h1 := Nat.eq_of_beq_eq_true hb.1
      have h2 := Nat.eq_of_beq_eq_true hb.2
      subst h1; subst h2
      exact ⟨_, e, .nilslice⟩
    | some a => exact absurd e (by simp [atomk])
  | map p => cases p with
    | none => exact ⟨_, e, .nilmap⟩
    | some a => exact absurd e (by simp [atomk])
  | nilFunc => exact ⟨_, e, .nilfunc⟩
  | nilIface => exact ⟨_, e, .niliface⟩
  | func fn x y =>
    simp only [atomk] at e
    obtain ⟨hb, e⟩ := ifk_no e
    rw [Bool.and_eq_true, Bool.and_eq_true] at hb
    have h1 : x.toList = [] := by simpa using hb.1.1
    have h2 : y.toList = [] := by simpa using hb.1.2
    refine ⟨_, e, .func _ _ _ _ _ _ (.same fn ?_) (by rw [h1]; exact .nil) (by rw [h2]; exact .nil)⟩
    intro l hl; subst hl; simp [notYield] at hb
  | _ => exact absurd e (by simp [atomk])
theorem atomsk_ok (σ : Sg) {l : List Value} {k : List AV → R} (e : atomsk l k = .ok) : ∃ a, k a = .ok ∧ RelL σ a l := by
  induction l generalizing k with
  | nil => exact ⟨[], e, .nil⟩
  | cons v l ih =>
    have e' : atomk v (fun a => atomsk l fun r => k (a :: r)) = .ok := e
    obtain ⟨a, e', h1⟩ := atomk_ok σ e'
    obtain ⟨r, e', h2⟩ := ih e'
    exact ⟨_, e', .cons _ _ _ _ h1 h2⟩
theorem constk_ok (σ : Sg) {v : Value} {k : AV → R} (e : constk v k = .ok) : ∃ a, k a = .ok ∧ RelV σ a v := by
  cases v with
  | agg cs => obtain ⟨a, e, h⟩ := atomsk_ok σ (k := fun l => k (.agg l)) e; exact ⟨_, e, .agg _ _ h⟩
  | tuple cs => obtain ⟨a, e, h⟩ := atomsk_ok σ (k := fun l => k (.tuple l)) e; exact ⟨_, e, .tuple _ _ h⟩
  | iface t x =>
    by_cases ha : ∃ cs, x = .agg cs
    · obtain ⟨cs, rfl⟩ := ha
      obtain ⟨a, e, h⟩ := atomsk_ok σ (k := fun l => k (.iface t (.agg l))) e; exact ⟨_, e, .iface _ _ _ (.agg _ _ h)⟩
    · have e' : atomk x (fun a => k (.iface t a)) = .ok := by cases x <;> first | exact e | exact absurd ⟨_, rfl⟩ ha
      obtain ⟨a, e, h⟩ := atomk_ok σ e'; exact ⟨_, e, .iface _ _ _ h⟩
  | _ => exact atomk_ok σ e

/-- what is known of an operand is so -/
def Knows (σ : Sg) (fr : T AV) (A : Act) (x : Operand) : Prop := ∀ t, x = .tmp t → ∀ v, T.get (adr t) fr = some v → RelV σ v (A.tmps.getD t undef)
theorem FrRel.knows {n : Nat} {fr : T AV} {A : Act} (hf : FrRel σ n fr A.tmps) (x : Operand) : Knows σ fr A x := fun t _ v e => hf.2 t v e
theorem Knows.mono {τ : Sg} (hl : σ.le τ) {fr : T AV} {A : Act} {x : Operand} (h : Knows σ fr A x) : Knows τ fr A x := fun t e v e' => (h t e v e').mono hl

theorem opk_ok (h : RepC P σ s w) {A : Act} {fr : T AV} {o : Operand} (hf : Knows σ fr A o) {k : AV → R} (e : opk o P fr k = .ok) : ∃ v, k v = .ok ∧ RelV σ v (A.eval o) := by
  cases o with
  | tmp t =>
    have e' : Option.rec (motive := fun _ => R) (k .top) k (T.get (adr t) fr) = .ok := e
    cases hg : T.get (adr t) fr with
    | none => rw [hg] at e'; exact ⟨.top, e', .top _⟩
    | some v => rw [hg] at e'; exact ⟨v, e', hf t rfl v hg⟩
  | const v => exact constk_ok σ e
  | global g =>
    obtain ⟨hb, e⟩ := ifk_no (show ifk (Nat.blt g P.globals.size) (k (.ptr (adr g) 0)) (.no 14) = .ok from e)
    obtain ⟨sz, h1⟩ := h.glob g (by rw [Nat.blt_eq] at hb; exact hb)
    exact ⟨_, e, .ptr (adr g) 0 g 0 sz h1⟩
  | func f => exact ⟨_, e, .func _ _ _ _ _ _ (.same _ (by intro l hl; cases hl)) .nil .nil⟩
theorem opsk_ok (h : RepC P σ s w) {A : Act} {fr : T AV} {l : List Operand} (hf : ∀ x ∈ l, Knows σ fr A x) {k : List AV → R} (e : opsk l P fr k = .ok) : ∃ v, k v = .ok ∧ RelL σ v (l.map A.eval) := by
  induction l generalizing k with
  | nil => exact ⟨[], e, .nil⟩
  | cons o l ih =>
    have e' : opk o P fr (fun a => opsk l P fr fun r => k (a :: r)) = .ok := e
    obtain ⟨a, e', h1⟩ := opk_ok h (hf o (by simp)) e'
    obtain ⟨r, e', h2⟩ := ih (fun x hx => hf x (by simp [hx])) e'
    exact ⟨_, e', .cons _ _ _ _ h1 h2⟩

-- types
theorem info_of {t : TypeId} {i : TypeInfo} (h : P.types[t]? = some i) : t < P.types.size ∧ P.info? t = some i := by
  have hl : t < P.types.size := (Array.getElem?_eq_some_iff.1 h).1
  refine ⟨hl, ?_⟩
  unfold Tables.info?
  rw [if_pos hl, h]
theorem tyAt_ok {t : TypeId} {d : TypeDesc} (h : tyAt P t = some d) : t < P.types.size ∧ P.underlying t = some d := by
  unfold tyAt at h
  split at h
  · rename_i i hi
    obtain ⟨hl, hI⟩ := info_of hi
    refine ⟨hl, ?_⟩
    unfold Program.underlying
    rw [hI]
    obtain ⟨desc, str, size, bytes, hasPointers, align, fieldAlign, zero, comparable, methods⟩ := i
    cases desc
    case named n u =>
      cases hu : P.types[u]? with
      | none => have h : P.types[u]?.map (·.desc) = some d := h; rw [hu] at h; cases h
      | some j =>
        have h : P.types[u]?.map (·.desc) = some d := h
        rw [hu] at h
        show (P.info? u).map (·.desc) = some d
        rw [(info_of hu).2]
        exact h
    all_goals exact h
  · cases h
theorem tyk_ok {t : TypeId} {k : TypeDesc → R} (e : tyk P t k = .ok) : ∃ d, P.underlying t = some d ∧ k d = .ok := by
  obtain ⟨d, h, e⟩ := optk_ok e; exact ⟨d, (tyAt_ok h).2, e⟩
theorem tyk_lt {t : TypeId} {k : TypeDesc → R} (e : tyk P t k = .ok) : t < P.types.size := by
  obtain ⟨d, h, _⟩ := optk_ok e; exact (tyAt_ok h).1
theorem szk_ok {t : TypeId} {k : Nat → R} (e : szk P t k = .ok) : ∃ i, P.info? t = some i ∧ k i.size = .ok := by
  obtain ⟨i, h, e⟩ := optk_ok e; rw [fN_eq] at e; exact ⟨i, (info_of h).2, e⟩
theorem szk_lt {t : TypeId} {k : Nat → R} (e : szk P t k = .ok) : t < P.types.size := by
  obtain ⟨i, h, _⟩ := optk_ok e; exact (info_of h).1
theorem tyk_at {t : TypeId} {k : TypeDesc → R} (e : tyk P t k = .ok) : ∃ d, (∀ k' : TypeDesc → R, tyk P t k' = k' d) ∧ k d = .ok := by
  obtain ⟨d, h, e⟩ := optk_ok e; exact ⟨d, fun k' => by unfold tyk; rw [h]; rfl, e⟩
theorem szk_at {t : TypeId} {k : Nat → R} (e : szk P t k = .ok) : ∃ i : TypeInfo, (∀ k' : Nat → R, szk P t k' = k' i.size) ∧ k i.size = .ok := by
  obtain ⟨i, h, e⟩ := optk_ok e; rw [fN_eq] at e; exact ⟨i, fun k' => by unfold szk; rw [h]; exact fN_eq _ _, e⟩
theorem bytesk_ok {t : TypeId} {k : Nat → R} (e : bytesk P t k = .ok) : ∃ i, P.info? t = some i ∧ k i.bytes = .ok := by
  obtain ⟨i, h, e⟩ := optk_ok e; rw [fN_eq] at e; exact ⟨i, (info_of h).2, e⟩
theorem zerok_ok (σ : Sg) {t : TypeId} {k : AV → R} (e : zerok P t k = .ok) : ∃ i z a, P.info? t = some i ∧ i.zero = some z ∧ k a = .ok ∧ RelV σ a z := by
  obtain ⟨i, h, e⟩ := optk_ok e
  obtain ⟨z, hz, e⟩ := optk_ok e
  obtain ⟨a, e, hr⟩ := constk_ok σ e
  exact ⟨i, z, a, (info_of h).2, hz, e, hr⟩
theorem zerok_lt {t : TypeId} {k : AV → R} (e : zerok P t k = .ok) : t < P.types.size := by
  obtain ⟨i, h, _⟩ := optk_ok e; exact (info_of h).1
theorem run_ty {t : TypeId} {d : TypeDesc} (h : P.underlying t = some d) (w : World) : (underlying t).run P w = .ok d w := run_underlying h w
theorem run_ti {t : TypeId} {i : TypeInfo} (h : P.info? t = some i) (w : World) : (typeInfo t).run P w = .ok i w := by simp [typeInfo, h]
theorem run_sz {t : TypeId} {i : TypeInfo} (h : P.info? t = some i) (w : World) : (sizeOf t).run P w = .ok i.size w := by simp [sizeOf, run_ti h]
theorem run_zero {t : TypeId} {i : TypeInfo} {z : Value} (h : P.info? t = some i) (hz : i.zero = some z) (w : World) : (zeroValue t).run P w = .ok z w := by simp [zeroValue, run_ti h, hz]
theorem run_isAgg {t : TypeId} {d : TypeDesc} (h : P.underlying t = some d) (w : World) : (isAgg t).run P w = .ok (isAggD d) w := by
  cases d <;> simp [isAgg, run_ty h, isAggD]

theorem load1_ok (h : RepC P σ s w) {a : Adr} {c sh sz : Nat} (ha : σ a = .at c sh sz) {off : Nat} {k : AV → R} (e : load1 s a off k = .ok) :
    ∃ v x, k v = .ok ∧ RelV σ v x ∧ (load ⟨c, sh + off, none⟩).run P w = .ok x w := by
  unfold load1 cellsk objk at e
  obtain ⟨o, h1, e⟩ := optk_ok e
  obtain ⟨el, g, fz, vs, rfl, e⟩ := AObj.onCells_ok e
  obtain ⟨v, hv, e⟩ := nthk_ok e
  obtain ⟨cs, fr, h2, hs, hlen, hg, hr, hf, hf'⟩ := h.cells ha h1
  obtain ⟨x, hx, hrel⟩ := hr.get hv
  refine ⟨v, x, e, hrel, ?_⟩
  have : cs[sh + off]? = some x := by
    rw [List.getElem?_take] at hx
    split at hx
    · rw [List.getElem?_drop] at hx; simpa using hx
    · cases hx
  rw [run_load, cell_of_blk h2, this]

theorem loadVark_ok (h : RepC P σ s w) {t : TypeId} {a : Adr} {c sh sz : Nat} (ha : σ a = .at c sh sz) {off : Nat} {k : AV → R} (e : loadVark P s t a off k = .ok) :
    ∃ v x, k v = .ok ∧ RelV σ v x ∧ (loadVar t ⟨c, sh + off, none⟩).run P w = .ok x w := by
  obtain ⟨d, hd, e⟩ := tyk_ok e
  rw [ifk_eq] at e
  split at e
  · rename_i hag
    obtain ⟨i, hi, e⟩ := szk_ok e
    obtain ⟨l, vs, e, hl, hr, _, hrun⟩ := loadk_ok (P := P) h ha e
    have hrun : (loadCells ⟨c, sh + off, none⟩ i.size).run P w = .ok vs.toArray w := hrun w.drawn
    exact ⟨_, _, e, .agg _ _ hr, by simp [loadVar, run_isAgg hd, hag, run_sz hi, hrun]⟩
  · rename_i hag
    obtain ⟨v, x, e, hr, hrun⟩ := load1_ok h ha e
    exact ⟨v, x, e, hr, by simp only [loadVar, Sem.run_bind, run_isAgg hd]; simp [hag, hrun, Result.andThen]⟩

theorem storeVark_ok (h : Rep P σ s w) {t : TypeId} {a : Adr} {c sh sz : Nat} (ha : σ a = .at c sh sz) {off : Nat} {v : AV} {x : Value} (hv : RelV σ v x) {k : St → R} (e : storeVark P s t a off v k = .ok) :
    ∃ s' w', k s' = .ok ∧ (storeVar t ⟨c, sh + off, none⟩ x).run P w = .ok () w' ∧ Rep P σ s' w' ∧ Ext σ s w σ s' w' := by
  obtain ⟨i, hi, e⟩ := szk_ok e
  obtain ⟨cs, e, hcs⟩ := cvk_ok hv e
  rw [lenk_eq] at e
  obtain ⟨hb, e⟩ := ifk_no e
  have hb := Nat.eq_of_beq_eq_true hb
  obtain ⟨s', w', e, hrun, hrep, hext⟩ := storek_ok (P := P) h ha hcs e
  refine ⟨s', w', e, ?_, hrep, hext⟩
  have : x.cells.size = i.size := by rw [hb]; have := hcs.length; simpa using this.symm
  simp [storeVar, run_sz hi, this, hrun]

-- numbers
theorem wrapk_ok {q : IntKind} {n : Int} {k : AV → R} (e : wrapk q n k = .ok) : k (.int q (q.wrap n)) = .ok := by simpa [wrapk, fI_eq] using e
theorem natk_ok {a : AV} {k : Nat → R} (e : natk a k = .ok) : ∃ q n, a = .int q (.ofNat n) ∧ k n = .ok := by
  obtain ⟨q, m, rfl, e⟩ := AV.onInt_ok e
  cases m with
  | ofNat n => exact ⟨q, n, rfl, e⟩
  | negSucc n => have h' : R.no 68 = R.ok := e; cases h'
end
end Go.Ev

/- Texts as numbers. -/
namespace Go.Ev
open Go
theorem packL_nil : packL [] = 0 := rfl
theorem packL_cons (b : UInt8) (l : List UInt8) : packL (b :: l) = b.toNat + 256 * packL l := rfl
theorem packL_append (a b : List UInt8) : packL (a ++ b) = packL a + 256 ^ a.length * packL b := by
  induction a with
  | nil => simp [packL_nil]
  | cons x a ih =>
    rw [List.cons_append, packL_cons, packL_cons, ih, List.length_cons, Nat.pow_succ, Nat.mul_add, Nat.add_assoc]
    congr 2
    rw [← Nat.mul_assoc, Nat.mul_comm 256]
theorem packL_lt (l : List UInt8) : packL l < 256 ^ l.length := by
  induction l with
  | nil => simp [packL_nil]
  | cons x l ih =>
    rw [packL_cons, List.length_cons, Nat.pow_succ]
    have := x.toNat_lt
    omega
theorem packL_take (l : List UInt8) (n : Nat) (h : n ≤ l.length) : packL (l.take n) = packL l % 256 ^ n := by
  have e := packL_append (l.take n) (l.drop n)
  rw [List.take_append_drop] at e
  have hl : (l.take n).length = n := by simp; omega
  have hlt := packL_lt (l.take n)
  rw [hl] at e hlt
  rw [e, Nat.add_mul_mod_self_left, Nat.mod_eq_of_lt hlt]
theorem packL_drop (l : List UInt8) (n : Nat) (h : n ≤ l.length) : packL (l.drop n) = packL l / 256 ^ n := by
  have e := packL_append (l.take n) (l.drop n)
  rw [List.take_append_drop] at e
  have hl : (l.take n).length = n := by simp; omega
  have hlt := packL_lt (l.take n)
  rw [hl] at e hlt
  have hp : 0 < 256 ^ n := Nat.pow_pos (by omega)
  rw [e, Nat.add_mul_div_left _ _ hp, Nat.div_eq_of_lt hlt, Nat.zero_add]
theorem packL_get (l : List UInt8) (i : Nat) (b : UInt8) (h : l[i]? = some b) : packL l / 256 ^ i % 256 = b.toNat := by
  have hi : i < l.length := (List.getElem?_eq_some_iff.1 h).1
  rw [← packL_drop l i (by omega)]
  have : l.drop i = b :: l.drop (i + 1) := by
    rw [List.drop_eq_getElem_cons hi]
    congr 1
    exact (List.getElem?_eq_some_iff.1 h).2
  rw [this, packL_cons, Nat.add_mul_mod_self_left, Nat.mod_eq_of_lt b.toNat_lt]
theorem packL_inj {a b : List UInt8} (hl : a.length = b.length) (h : packL a = packL b) : a = b := by
  induction a generalizing b with
  | nil => cases b with
    | nil => rfl
    | cons x b => simp at hl
  | cons x a ih => cases b with
    | nil => simp at hl
    | cons y b =>
      rw [packL_cons, packL_cons] at h
      have h1 := x.toNat_lt
      have h2 := y.toNat_lt
      have e1 : x.toNat = y.toNat := by omega
      have e2 : packL a = packL b := by omega
      rw [UInt8.toNat_inj.1 e1, ih (by simpa using hl) e2]

/-- the text is these bytes -/
theorem str_of {σ : Sg} {l n : Nat} (s : ByteArray) (hl : s.data.toList.length = l) (hn : packL s.data.toList = n) : RelV σ (.str l n) (.string s) := by
  subst hl; subst hn; exact .str s
end Go.Ev

/- Operations: numbers and texts. -/
namespace Go.Ev
open Go

theorem no_ok {n : Nat} (h : R.no n = R.ok) : False := by cases h

section
variable {P : Program} {σ : Sg} {s : St} {w : World}

theorem intOpk_ok {op : BinOp} {q : IntKind} {a b : Int} {k : AV → R} (t : TypeId) (e : intOpk op q a b k = .ok) : ∃ v x, k v = .ok ∧ RelV σ v x ∧ (binOp op t (.int q a) (.int q b)).run P w = .ok x w := by
  cases op
  case add => exact ⟨_, _, wrapk_ok e, .int _ _, by rw [binOp_add]; rfl⟩
  case sub => exact ⟨_, _, wrapk_ok e, .int _ _, by rw [binOp_sub]; rfl⟩
  case mul => exact ⟨_, _, wrapk_ok e, .int _ _, by rw [binOp_mul]; rfl⟩
  case quo =>
    have e' : ifk (decide (b = 0)) (.no 55) (wrapk q (a.tdiv b) k) = .ok := e
    rw [ifk_eq] at e'; split at e'
    · cases e'
    · rename_i hb; exact ⟨_, _, wrapk_ok e', .int _ _, by { have hb2 : ¬ b = 0 := (by simpa using hb); rw [binOp_quo]; simp [Op.intDiv, hb2] }⟩
  case rem =>
    have e' : ifk (decide (b = 0)) (.no 55) (fI (a.tmod b) fun n => k (.int q n)) = .ok := e
    rw [ifk_eq] at e'; split at e'
    · cases e'
    · rename_i hb; rw [fI_eq] at e'; exact ⟨_, _, e', .int _ _, by { have hb2 : ¬ b = 0 := (by simpa using hb); rw [binOp_rem]; simp [Op.intDiv, hb2] }⟩
  case and => exact ⟨_, _, wrapk_ok e, .int _ _, by rw [binOp_and]; rfl⟩
  case or => exact ⟨_, _, wrapk_ok e, .int _ _, by rw [binOp_or]; rfl⟩
  case xor => exact ⟨_, _, wrapk_ok e, .int _ _, by rw [binOp_xor]; rfl⟩
  case andNot => exact ⟨_, _, wrapk_ok e, .int _ _, by rw [binOp_andNot]; rfl⟩
  case shl => exact (no_ok e).elim
  case shr => exact (no_ok e).elim
  case eql =>
    have e' : fB (decide (a = b)) (fun r => k (.bool r)) = .ok := e
    rw [fB_eq] at e'; exact ⟨_, _, e', .bool _, by rw [binOp_eql]; rfl⟩
  case neq =>
    have e' : fB (!decide (a = b)) (fun r => k (.bool r)) = .ok := e
    rw [fB_eq] at e'; exact ⟨_, _, e', .bool _, by rw [binOp_neq]; rfl⟩
  case lss =>
    have e' : fB (decide (a < b)) (fun r => k (.bool r)) = .ok := e
    rw [fB_eq] at e'; exact ⟨_, _, e', .bool _, by rw [binOp_lss]; rfl⟩
  case leq =>
    have e' : fB (decide (a ≤ b)) (fun r => k (.bool r)) = .ok := e
    rw [fB_eq] at e'; exact ⟨_, _, e', .bool _, by rw [binOp_leq]; rfl⟩
  case gtr =>
    have e' : fB (decide (b < a)) (fun r => k (.bool r)) = .ok := e
    rw [fB_eq] at e'; exact ⟨_, _, e', .bool _, by rw [binOp_gtr]; rfl⟩
  case geq =>
    have e' : fB (decide (b ≤ a)) (fun r => k (.bool r)) = .ok := e
    rw [fB_eq] at e'; exact ⟨_, _, e', .bool _, by rw [binOp_geq]; rfl⟩
theorem intsk_ok {op : BinOp} {q p : IntKind} {a b : Int} {k : AV → R} (t : TypeId) (e : intsk op q a p b k = .ok) : ∃ v x, k v = .ok ∧ RelV σ v x ∧ (binOp op t (.int q a) (.int p b)).run P w = .ok x w := by
  by_cases hs : isShift op = true
  · have shl : ∀ {k : AV → R}, shL q a b k = .ok → ∃ v x, k v = .ok ∧ RelV σ v x ∧ (Op.shift .shl q a p b).run P w = .ok x w := by
      intro k e
      have e' : ifk (decide (b < 0)) (.no 57) (wrapk q (a * 2 ^ (min b.toNat q.bits)) k) = .ok := e
      rw [ifk_eq] at e'; split at e'
      · cases e'
      · rename_i hb; exact ⟨_, _, wrapk_ok e', .int _ _, by simp only [decide_eq_true_eq] at hb; simp [Op.shift, hb]⟩
    have shr : ∀ {k : AV → R}, shR q a b k = .ok → ∃ v x, k v = .ok ∧ RelV σ v x ∧ (Op.shift .shr q a p b).run P w = .ok x w := by
      intro k e
      have e' : ifk (decide (b < 0)) (.no 57) (fI (a.fdiv (2 ^ (min b.toNat q.bits))) fun n => k (.int q n)) = .ok := e
      rw [ifk_eq] at e'; split at e'
      · cases e'
      · rename_i hb; rw [fI_eq] at e'; exact ⟨_, _, e', .int _ _, by simp only [decide_eq_true_eq] at hb; simp [Op.shift, hb]⟩
    cases op <;> first | (have hs' : false = true := hs; cases hs'; done) | skip
    case shl => rw [binOp_shl]; exact shl e
    case shr => rw [binOp_shr]; exact shr e
  · have e' : ifk (decide (q = p)) (intOpk op q a b k) (.no 59) = .ok := by
      unfold intsk at e
      cases h : isShift op
      · rw [h] at e; exact e
      · exact absurd h hs
    obtain ⟨hq, e2⟩ := ifk_no e'
    have hq : q = p := by simpa using hq
    subst hq
    exact intOpk_ok t e2

-- texts
theorem bytesLess_asymm_eq : ∀ (x y : List UInt8), (Op.bytesLess x y || x == y) = !(Op.bytesLess y x)
  | [], [] => rfl
  | [], _ :: _ => rfl
  | _ :: _, [] => rfl
  | a :: x, b :: y => by
    have ih := bytesLess_asymm_eq x y
    simp only [Op.bytesLess]
    rcases Nat.lt_trichotomy a.toNat b.toNat with h | h | h
    · have h1 : (a < b) = True := by simp [UInt8.lt_iff_toNat_lt, h]
      have h2 : (b < a) = False := by simp [UInt8.lt_iff_toNat_lt]; omega
      have h3 : (b == a) = false := by simp; intro hh; subst hh; omega
      simp [h1, h2, h3]
    · have hab : a = b := UInt8.toNat_inj.1 h
      subst hab
      have h1 : (a < a) = False := by simp
      simp only [h1, decide_false, beq_self_eq_true, Bool.true_and, Bool.false_or]
      rw [← ih]
      congr 1
      rw [Bool.eq_iff_iff]; simp
    · have h1 : (a < b) = False := by simp [UInt8.lt_iff_toNat_lt]; omega
      have h2 : (b < a) = True := by simp [UInt8.lt_iff_toNat_lt, h]
      have h3 : (a == b) = false := by simp; intro hh; subst hh; omega
      have h4 : a ≠ b := by intro hh; subst hh; omega
      simp [h1, h2, h3]

theorem strLtF_ok (f : Nat) : ∀ (x y : List UInt8) (k : Bool → R), strLtF f x.length (packL x) y.length (packL y) k = .ok → k (Op.bytesLess x y) = .ok := by
  induction f with
  | zero => intro x y k e; exact (no_ok e).elim
  | succ f ih =>
    intro x y k e
    have e' : ifk (Nat.beq y.length 0) (k false) (ifk (Nat.beq x.length 0) (k true)
      (ifk (Nat.beq (Nat.mod (packL x) 256) (Nat.mod (packL y) 256)) (fN (Nat.sub x.length 1) fun l => fN (Nat.div (packL x) 256) fun a => fN (Nat.sub y.length 1) fun m => fN (Nat.div (packL y) 256) fun b => strLtF f l a m b k) (fB (Nat.blt (Nat.mod (packL x) 256) (Nat.mod (packL y) 256)) k))) = .ok := e
    cases y with
    | nil => simpa [Op.bytesLess, ifk] using e'
    | cons b y =>
      cases x with
      | nil => have e2 : k true = .ok := e'
               simpa [Op.bytesLess] using e2
      | cons a x =>
        have ha := a.toNat_lt
        have hb := b.toNat_lt
        have m1 : Nat.mod (packL (a :: x)) 256 = a.toNat := by show packL (a :: x) % 256 = _; rw [packL_cons]; omega
        have m2 : Nat.mod (packL (b :: y)) 256 = b.toNat := by show packL (b :: y) % 256 = _; rw [packL_cons]; omega
        have d1 : Nat.div (packL (a :: x)) 256 = packL x := by show packL (a :: x) / 256 = _; rw [packL_cons]; omega
        have d2 : Nat.div (packL (b :: y)) 256 = packL y := by show packL (b :: y) / 256 = _; rw [packL_cons]; omega
        rw [m1, m2, d1, d2] at e'
        simp only [fN_eq, fB_eq] at e'
        have z1 : Nat.beq (a :: x).length 0 = false := rfl
        have z2 : Nat.beq (b :: y).length 0 = false := rfl
        rw [z1, z2] at e'
        simp only [ifk_eq, Bool.false_eq_true, if_false] at e'
        split at e'
        · rename_i hh
          have hh := UInt8.toNat_inj.1 (Nat.eq_of_beq_eq_true hh)
          subst hh
          have := ih x y k e'
          simpa [Op.bytesLess, UInt8.lt_iff_toNat_lt] using this
        · rename_i hh
          have hne : a ≠ b := fun hh' => hh (by subst hh'; exact Nat.beq_refl _)
          have hne' : (a == b) = false := by simpa using hne
          have : Nat.blt a.toNat b.toNat = decide (a < b) := by
            rw [Bool.eq_iff_iff, Nat.blt_eq]; simp [UInt8.lt_iff_toNat_lt]
          rw [this] at e'
          simpa [Op.bytesLess, hne'] using e'
theorem strLtk_ok {x y : List UInt8} {k : Bool → R} (e : strLtk x.length (packL x) y.length (packL y) k = .ok) : k (Op.bytesLess x y) = .ok := strLtF_ok _ x y k e

theorem str_beq (x y : List UInt8) : (Nat.beq x.length y.length && Nat.beq (packL x) (packL y)) = (x == y) := by
  rw [Bool.eq_iff_iff]
  simp only [Bool.and_eq_true, beq_iff_eq]
  constructor
  · intro h; exact packL_inj (Nat.eq_of_beq_eq_true h.1) (Nat.eq_of_beq_eq_true h.2)
  · intro h; subst h; exact ⟨Nat.beq_refl _, Nat.beq_refl _⟩

theorem strOpk_ok {op : BinOp} {x y : ByteArray} {k : AV → R} (e : strOpk op x.data.toList.length (packL x.data.toList) y.data.toList.length (packL y.data.toList) k = .ok) :
    ∃ v z, k v = .ok ∧ RelV σ v z ∧ (Op.stringOp op x y).run P w = .ok z w := by
  have lx : x.data.toList.length = x.size := by simp
  have ly : y.data.toList.length = y.size := by simp
  cases op <;> simp only [strOpk] at e <;> first | (exact (no_ok e).elim) | skip
  case add =>
    obtain ⟨hb, e⟩ := ifk_no e
    simp only [fN_eq] at e
    have hle : x.size + y.size ≤ 9223372036854775807 := by have := Nat.le_of_ble_eq_true hb; rw [lx, ly] at this; exact this
    refine ⟨_, .string (x ++ y), e, ?_, ?_⟩
    · apply str_of
      · simp
      · have hd : (x ++ y).data.toList = x.data.toList ++ y.data.toList := by simp
        rw [hd, packL_append]
        rw [Nat.mul_comm]; rfl
    · have : ¬ ((x.size + y.size : Nat) : Int) > IntKind.i64.max := by rw [IntKind.max_i64]; omega
      simp only [Op.stringOp, this, if_false, Sem.run_pure]
  case eql =>
    rw [str_beq, fB_eq] at e
    exact ⟨_, _, e, .bool _, by simp [Op.stringOp, ByteArray.toList_eq]⟩
  case neq =>
    rw [str_beq, fB_eq] at e
    exact ⟨_, _, e, .bool _, by simp [Op.stringOp, ByteArray.toList_eq]⟩
  case lss => exact ⟨_, _, strLtk_ok e, .bool _, by simp [Op.stringOp, ByteArray.toList_eq]⟩
  case geq =>
    have := strLtk_ok e; rw [fB_eq] at this
    exact ⟨_, _, this, .bool _, by simp [Op.stringOp, ByteArray.toList_eq]⟩
  case gtr =>
    have := strLtk_ok e
    refine ⟨_, _, this, .bool _, ?_⟩
    simp only [Op.stringOp, ByteArray.toList_eq, Sem.run_pure]
    rw [bytesLess_asymm_eq, Bool.not_not]
  case leq =>
    have := strLtk_ok e; rw [fB_eq] at this
    refine ⟨_, _, this, .bool _, ?_⟩
    simp only [Op.stringOp, ByteArray.toList_eq, Sem.run_pure]
    rw [bytesLess_asymm_eq]

theorem unOpk_ok {op : UnOp} {a : AV} {x : Value} (h : RelV σ a x) {k : AV → R} (e : unOpk op a k = .ok) : ∃ v z, k v = .ok ∧ RelV σ v z ∧ (Op.unary op x).run P w = .ok z w := by
  cases op
  case neg =>
    obtain ⟨q, m, rfl, e⟩ := AV.onInt_ok (show a.onInt (fun q n => wrapk q (0 - n) k) (.no 63) = .ok from e)
    cases h; exact ⟨_, _, wrapk_ok e, .int _ _, rfl⟩
  case xor =>
    obtain ⟨q, m, rfl, e2⟩ := AV.onInt_ok (show a.onInt (fun q n => intOpk .xor q (if q.signed then -1 else q.max) n k) (.no 63) = .ok from e)
    cases h
    obtain ⟨v, z, e3, hr, hrun⟩ := intOpk_ok (σ := σ) (P := P) (w := w) 0 e2
    rw [binOp_xor] at hrun
    exact ⟨v, z, e3, hr, hrun⟩
  case not =>
    obtain ⟨b, rfl, e2⟩ := AV.onBool_ok (show a.onBool (fun b => fB (!b) fun b => k (.bool b)) (.no 63) = .ok from e)
    cases h; rw [fB_eq] at e2; exact ⟨_, _, e2, .bool _, rfl⟩
  all_goals exact (no_ok e).elim
end
end Go.Ev
