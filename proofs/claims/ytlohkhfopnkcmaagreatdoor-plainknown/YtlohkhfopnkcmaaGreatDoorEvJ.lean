/- Entries of the library, tables of what calls hand on, the search for a text in a text. -/
import Derived.Test.YtlohkhfopnkcmaaGreatDoorEvI
import Derived.Lib.Bytealg
import Derived.Room.MakeNoZero

/- What is known of functions that have no text: entries. -/
namespace Go.Ev
open Go

section
variable {P : Program} {f : FuncId} {fn : Func}

theorem hook_extern {e : Array Value → Sem Value} {h : Hook} (hf : P.funcs[f]? = some fn) (hname : (fn.name == "runtime.NumGoroutine") = false) (hb : fn.body.isNone = true) (hn : Extern.findNext fn = none) (he : Extern.find fn = some e)
    (H : ∀ (r : Rec) (args : List AV) (s : St) (k : AV → St → R) (σ : Sg) (w : World) (xs : Array Value), h r args s k = .ok → Rep P σ s w → RelL σ args xs.toList →
      ∃ v x s' w' τ, k v s' = .ok ∧ Did2 P σ s w τ s' w' ∧ RelV τ v x ∧ (e xs).run P w = .ok x w') : HookOk P f h := by
  intro r _ args s k σ w xs cs e1 hr ha
  obtain ⟨v, x, s', w', τ, e2, hd, hv, hrun⟩ := H r args s k σ w xs e1 hr ha
  exact ⟨v, x, s', w', τ, e2, hd, hv, .inl (by rw [run_callFunc_extern hf hname hb hn he, hrun]; rfl)⟩

theorem one_arg {σ : Sg} {v : AV} {xs : Array Value} (h : RelL σ [v] xs.toList) : ∃ x, xs = #[x] ∧ RelV σ v x := by
  obtain ⟨l⟩ := xs
  cases h with
  | cons _ x _ l' hx ht => cases ht; exact ⟨x, rfl, hx⟩
theorem two_args {σ : Sg} {v u : AV} {xs : Array Value} (h : RelL σ [v, u] xs.toList) : ∃ x y, xs = #[x, y] ∧ RelV σ v x ∧ RelV σ u y := by
  obtain ⟨l⟩ := xs
  cases h with
  | cons _ x _ l' hx ht => cases ht with | cons _ y _ l'' hy ht => cases ht; exact ⟨x, y, rfl, hx, hy⟩

theorem hSame_ok (hf : P.funcs[f]? = some fn) (hname : (fn.name == "runtime.NumGoroutine") = false) (hb : fn.body.isNone = true) (hn : Extern.findNext fn = none) (he : Extern.find fn = some Extern.AbiNoEscape.same) : HookOk P f hSame :=
  hook_extern hf hname hb hn he fun r args s k σ w xs e h ha => by
    unfold hSame at e
    split at e
    · rename_i v
      obtain ⟨x, rfl, hx⟩ := one_arg ha
      exact ⟨v, x, s, w, σ, e, .refl h, hx, rfl⟩
    · exact (no_ok e).elim

theorem idxByteF_eq (c : Nat) (hc : c < 256) : ∀ (l : List UInt8) (i : Nat) (k : Int → R), idxByteF l.length (packL l) c i k = k (if Lib.indexByte l c.toUInt8 == -1 then -1 else (i : Int) + Lib.indexByte l c.toUInt8) := by
  intro l
  induction l with
  | nil => intro i k; rfl
  | cons b l ih =>
    intro i k
    show ifk (Nat.beq (Nat.mod (packL (b :: l)) 256) c) (k (.ofNat i)) (fN (Nat.div (packL (b :: l)) 256) fun n => fN (Nat.succ i) fun i => idxByteF l.length n c i k) = _
    have hb : b.toNat < 256 := UInt8.toNat_lt b
    have h1 : Nat.mod (packL (b :: l)) 256 = b.toNat := by
      show (packL (b :: l)) % 256 = b.toNat
      rw [packL_cons]; omega
    have h2 : Nat.div (packL (b :: l)) 256 = packL l := by
      show (packL (b :: l)) / 256 = packL l
      rw [packL_cons]; omega
    rw [h1, h2, fN_eq, fN_eq, ifk_eq]
    have hbc : (Nat.beq b.toNat c = true) ↔ (b == c.toUInt8) = true := by
      rw [beq_iff_eq]
      constructor
      · intro h
        have := nbeq h
        subst this
        simp
      · intro h
        subst h
        have : c.toUInt8.toNat = c := by simp; omega
        rw [this]; exact Nat.beq_refl _
    unfold Lib.indexByte
    by_cases hh : Nat.beq b.toNat c = true
    · rw [if_pos hh, if_pos (hbc.1 hh)]
      simp
    · rw [if_neg hh, if_neg (fun h => hh (hbc.2 h)), ih]
      congr 1
      have hge := Lib.indexByte_ge l c.toUInt8
      by_cases hi : (Lib.indexByte l c.toUInt8 == -1) = true
      · simp [hi]
      · rw [if_neg hi, if_neg hi]
        have : ¬ Lib.indexByte l c.toUInt8 = -1 := by simpa using hi
        have h3 : ¬ ((Lib.indexByte l c.toUInt8 + 1 == -1) = true) := fun h => by
          have h4 : Lib.indexByte l c.toUInt8 + 1 = -1 := eq_of_beq h
          omega
        rw [if_neg h3]
        have : ((Nat.succ i : Nat) : Int) = (i : Int) + 1 := by simp
        rw [this]; omega

theorem hIndexByte_ok (hf : P.funcs[f]? = some fn) (hname : (fn.name == "runtime.NumGoroutine") = false) (hb : fn.body.isNone = true) (hn : Extern.findNext fn = none) (he : Extern.find fn = some Extern.BytealgIndexByte.indexByte) : HookOk P f hIndexByte :=
  hook_extern hf hname hb hn he fun r args s k σ w xs e h ha => by
    unfold hIndexByte at e
    split at e
    · rename_i l n c
      obtain ⟨x, y, rfl, hx, hy⟩ := two_args ha
      obtain ⟨hc, e1⟩ := ifk_no e
      have hc : c < 256 := by rw [Nat.blt_eq] at hc; exact hc
      cases hx with
      | str S =>
      cases hy
      rw [idxByteF_eq c hc] at e1
      refine ⟨_, _, s, w, σ, e1, .refl h, .int _ _, ?_⟩
      rw [Lib.run_indexByteString]
      congr 2
      have : (Int.ofNat c).toNat.toUInt8 = c.toUInt8 := rfl
      rw [this]
      by_cases hi : (Lib.indexByte S.data.toList c.toUInt8 == -1) = true
      · rw [if_pos hi]; simpa using hi
      · rw [if_neg hi]; simp
    · exact (no_ok e).elim

theorem compare_less : ∀ (a b : List UInt8), Lib.compareBytes a b = if Op.bytesLess a b then -1 else if Op.bytesLess b a then 1 else 0
  | [], [] => rfl
  | [], _ :: _ => rfl
  | _ :: _, [] => rfl
  | x :: a, y :: b => by
    unfold Lib.compareBytes Op.bytesLess
    rw [compare_less a b]
    by_cases h1 : x < y
    · simp [h1]
    · by_cases h2 : y < x
      · have hne : ¬ x = y := fun h => by subst h; exact h1 h2
        have hne' : ¬ y = x := fun h => hne h.symm
        simp [h1, h2, hne]
      · have : x = y := UInt8.le_antisymm (UInt8.not_lt.1 h2) (UInt8.not_lt.1 h1)
        subst this
        simp [h1]

theorem hCmp_ok (hf : P.funcs[f]? = some fn) (hname : (fn.name == "runtime.NumGoroutine") = false) (hb : fn.body.isNone = true) (hn : Extern.findNext fn = none) (he : Extern.find fn = some Extern.BytealgCompare.compare) : HookOk P f hCmp :=
  hook_extern hf hname hb hn he fun r args s k σ w xs e h ha => by
    unfold hCmp at e
    split at e
    · rename_i l n m o
      obtain ⟨x, y, rfl, hx, hy⟩ := two_args ha
      cases hx with
      | str S =>
      cases hy with
      | str T =>
      have e1 := strLtk_ok e
      have hrun := Lib.run_compareString (P := P) S T w
      rw [compare_less] at hrun
      cases h1 : Op.bytesLess S.data.toList T.data.toList
      · rw [h1] at e1 hrun
        have e2 := strLtk_ok (show strLtk _ _ _ _ _ = .ok from e1)
        cases h2 : Op.bytesLess T.data.toList S.data.toList
        · rw [h2] at e2 hrun
          exact ⟨_, _, s, w, σ, e2, .refl h, .int _ _, hrun⟩
        · rw [h2] at e2 hrun
          exact ⟨_, _, s, w, σ, e2, .refl h, .int _ _, hrun⟩
      · rw [h1] at e1 hrun
        exact ⟨_, _, s, w, σ, e1, .refl h, .int _ _, hrun⟩
    · exact (no_ok e).elim

theorem tops_rel (σ : Sg) : ∀ (n : Nat) (L : List Value), L.length = n → RelL σ (List.replicate n [AV.top]).flatten L
  | 0, L, h => by
    have : L = [] := List.length_eq_zero_iff.1 h
    subst this; exact .nil
  | n + 1, [], h => by simp at h
  | n + 1, y :: L, h => .cons _ _ _ _ (.top y) (tops_rel σ n L (by simpa using h))
theorem hMakeNoZero_ok {ps : Array TypeId} {t el : TypeId} (ht : P.underlying t = some (.slice el)) (hf : P.funcs[f]? = some fn) (hname : (fn.name == "runtime.NumGoroutine") = false) (hb : fn.body.isNone = true) (hn : Extern.findNext fn = none)
    (he : Extern.find fn = some (Extern.BytealgMakeNoZero.makeNoZero ps #[t])) : HookOk P f (hMakeNoZero el) :=
  hook_extern hf hname hb hn he fun r args s k σ w xs e h ha => by
    unfold hMakeNoZero at e
    split at e
    · rename_i n
      obtain ⟨x, rfl, hx⟩ := one_arg ha
      cases hx
      obtain ⟨hnn, e1⟩ := ifk_no e
      have hnn := Nat.le_of_ble_eq_true hnn
      rw [repk_eq, newk_eq] at e1
      obtain ⟨cs, hrun, hle, _, _⟩ := Lib.run_makeNoZero_cap (P := P) w ps t el ht n (by omega)
      have hd1 : Did2 P σ s w σ s w.drew.drew := Did2.draw h (w.drawn + 1 + 1)
      have hnew := hd1.1.new (o := .cells el true 0 (List.replicate n [AV.top]).flatten) (sh := 0) (sz := cs.size) (O := .cells cs el) (by
        have hl : (List.replicate n [AV.top]).flatten.length = n := by simp
        refine .cells _ _ _ _ _ _ _ _ rfl (by omega) (fun hh => by cases hh) ?_ (fun _ => rfl) (fun o _ h2 => by simp at h2) (fun _ => by simp)
        rw [hl, List.drop_zero]
        have hlen : (cs.toList.take n).length = n := by simp; omega
        exact tops_rel _ n _ hlen)
      refine ⟨_, _, _, _, _, e1, hd1.trans hnew, .gslice _ _ _ _ w.heap.size 0 cs.size cs.size _ (Sg.upd_self _ _ _) (by omega) hle (by omega) (.inl rfl), hrun⟩
    · exact (no_ok e).elim
end
end Go.Ev

/- Calls that look at package-level variables alone, and hand on plain values. -/
namespace Go.Ev
open Go

/-- a value that names no memory -/
def AV.free : AV → Bool
  | .top | .bool _ | .int _ _ | .str _ _ | .aint _ _ _ | .abool | .nilptr | .nilslice | .nilmap | .nilfunc | .niliface => true
  | .iface _ v => v.free
  | _ => false
theorem free_rel {σ τ : Sg} : ∀ {v : AV} {x : Value}, v.free = true → RelV σ v x → RelV τ v x
  | .top, _, _, _ => .top _
  | .bool _, _, _, h => by cases h; exact .bool _
  | .int _ _, _, _, h => by cases h; exact .int _ _
  | .str _ _, _, _, h => by
    generalize hv : AV.str _ _ = v at h
    cases h <;> first | (cases hv; done) | skip
    case str s => exact .str s
  | .aint _ _ _, _, _, h => by cases h with | aint _ _ _ n hl hh => exact .aint _ _ _ _ hl hh
  | .abool, _, _, h => by cases h; exact .abool _
  | .nilptr, _, _, h => by cases h; exact .nilptr
  | .nilslice, _, _, h => by cases h; exact .nilslice
  | .nilmap, _, _, h => by cases h; exact .nilmap
  | .nilfunc, _, _, h => by cases h; exact .nilfunc
  | .niliface, _, _, h => by cases h; exact .niliface
  | .iface _ _, _, hf, h => by cases h with | iface _ _ v hv => exact .iface _ _ _ (free_rel (show AV.free _ = true from hf) hv)
def frees (l : List AV) : Bool := l.all AV.free
theorem frees_rel {σ τ : Sg} : ∀ {l : List AV} {xs : List Value}, frees l = true → RelL σ l xs → RelL τ l xs
  | [], _, _, h => by cases h; exact .nil
  | v :: l, _, hf, h => by
    cases h with
    | cons _ x _ xs hv ht =>
    simp only [frees, List.all_cons, Bool.and_eq_true] at hf
    exact .cons _ _ _ _ (free_rel hf.1 hv) (frees_rel hf.2 ht)

-- a state that knows package-level variables alone
noncomputable def heapG : List AObj → Nat → T AObj → T AObj
  | [], _, t => t
  | o :: l, i, t => heapG l (i + 1) (T.set (some o) (adr i) t)
theorem heapG_get (a : Adr) : ∀ (l : List AObj) (i : Nat) (t : T AObj), T.get a (heapG l i t) = if i ≤ a.nat ∧ a.nat < i + l.length then l[a.nat - i]? else T.get a t
  | [], i, t => by
    have : ¬ (i ≤ a.nat ∧ a.nat < i + ([] : List AObj).length) := by simp
    rw [if_neg this]; rfl
  | o :: l, i, t => by
    show T.get a (heapG l (i + 1) (T.set (some o) (adr i) t)) = _
    rw [heapG_get a l (i + 1)]
    by_cases h1 : i + 1 ≤ a.nat ∧ a.nat < i + 1 + l.length
    · rw [if_pos h1, if_pos (by simp; omega)]
      have : a.nat - i = (a.nat - (i + 1)) + 1 := by omega
      rw [this, List.getElem?_cons_succ]
    · rw [if_neg h1]
      by_cases h2 : a.nat = i
      · have ha : adr i = a := by rw [← h2, nat_adr]
        rw [ha, T.get_set_self, if_pos (by simp; omega), h2]; simp
      · have ha : adr i ≠ a := fun hh => h2 (by rw [← hh, adr_nat])
        rw [T.get_set_ne _ ha, if_neg (by simp; omega)]
noncomputable def stG (l : List AObj) : St := ⟨heapG l 0 .l, adr l.length, l.length, false⟩
theorem stG_get (l : List AObj) (a : Adr) : T.get a (stG l).heap = l[a.nat]? := by
  show T.get a (heapG l 0 .l) = _
  rw [heapG_get, T.get_l]
  by_cases h : 0 ≤ a.nat ∧ a.nat < 0 + l.length
  · rw [if_pos h]; simp
  · rw [if_neg h, List.getElem?_eq_none (by omega)]

def szOf : Option Obj → Nat
  | some (.cells cs _ _) => cs.size
  | _ => 0
noncomputable def sgG (n : Nat) (w : World) : Sg := fun a => open Classical in if a.nat < n then .at a.nat 0 (szOf w.heap[a.nat]?) else .none
theorem sgG_at {n : Nat} {w : World} {a : Adr} {c sh sz : Nat} (h : sgG n w a = .at c sh sz) : a.nat < n ∧ c = a.nat ∧ sh = 0 ∧ sz = szOf w.heap[a.nat]? := by
  unfold sgG at h
  split at h
  · rename_i hl; cases h; exact ⟨hl, rfl, rfl, rfl⟩
  · cases h
theorem sgG_lt {n : Nat} {w : World} {a : Adr} (h : a.nat < n) : sgG n w a = .at a.nat 0 (szOf w.heap[a.nat]?) := by unfold sgG; rw [if_pos h]

section
variable {P : Program}
theorem rep_stG {l : List AObj} {w : World} (hl : l.length = P.globals.size) (h : ∀ (g : Nat) (o : AObj), l[g]? = some o → ∃ O, w.heap[g]? = some O ∧ RelO (sgG P.globals.size w) o 0 (szOf (some O)) O) : Rep P (sgG P.globals.size w) (stG l) w := by
  have hex : ∀ g, g < P.globals.size → ∃ O, w.heap[g]? = some O := fun g hg => by
    obtain ⟨o, ho⟩ : ∃ o, l[g]? = some o := ⟨_, List.getElem?_eq_getElem (by omega)⟩
    obtain ⟨O, hO, _⟩ := h g o ho
    exact ⟨O, hO⟩
  refine ⟨⟨fun g hg => ?_, fun a c sh sz o e eo => ?_, fun a c sh sz e => ?_, fun a b c s1 s2 s3 s4 e1 e2 _ _ => ?_⟩, fun a e => ?_, ?_, fun a ha => ?_⟩
  · have := sgG_lt (n := P.globals.size) (w := w) (a := adr g) (by rw [adr_nat]; exact hg)
    rw [adr_nat] at this
    exact ⟨_, this⟩
  · obtain ⟨h1, rfl, rfl, rfl⟩ := sgG_at e
    rw [stG_get] at eo
    obtain ⟨O, hO, hr⟩ := h _ _ eo
    exact ⟨O, hO, by rw [hO]; exact hr⟩
  · obtain ⟨h1, rfl, _, _⟩ := sgG_at e
    obtain ⟨O, hO⟩ := hex _ h1
    exact (Array.getElem?_eq_some_iff.1 hO).1
  · obtain ⟨_, h1, _, _⟩ := sgG_at e1
    obtain ⟨_, h2, _, _⟩ := sgG_at e2
    exact Adr.nat_inj (h1.symm.trans h2)
  · show a.nat < (adr l.length).nat
    rw [adr_nat, hl]
    cases hs : sgG P.globals.size w a with
    | none => exact absurd hs e
    | «at» c sh sz => exact (sgG_at hs).1
  · show l.length ≤ (adr l.length).nat
    rw [adr_nat]; exact Nat.le_refl _
  · have ha : (adr l.length).nat ≤ a.nat := ha
    rw [adr_nat] at ha
    rw [stG_get, List.getElem?_eq_none ha]

/-- nothing that was there is changed -/
def SameOld (w u : World) : Prop := (∀ c, c < w.heap.size → u.heap[c]? = w.heap[c]?) ∧ w.heap.size ≤ u.heap.size ∧ u.os = w.os ∧ u.output = w.output ∧ u.tape = w.tape
theorem Did2.same {σ : Sg} {s : St} {w u : World} (h : Rep P σ s w) (hs : SameOld w u) : Did2 P σ s w σ s u := by
  obtain ⟨h1, h2, h3, h4, h5⟩ := hs
  refine ⟨⟨⟨h.glob, fun a c sh sz o e eo => ?_, fun a c sh sz e => Nat.lt_of_lt_of_le (h.lt a c sh sz e) h2, h.inj⟩, h.fresh, h.bd, h.over⟩, ?_⟩
  · obtain ⟨O, hO, hr⟩ := h.obj a c sh sz o e eo
    exact ⟨O, (h1 c (h.lt _ _ _ _ e)).trans hO, hr⟩
  · exact { le := σ.le_refl, none := fun _ _ e => ⟨e, rfl⟩, nx := Nat.le_refl _, size := h2, frame := fun c hc _ => h1 c hc, range := fun a c sh sz e _ => ⟨a, sh, sz, e⟩, os := h3, output := h4, tape := h5, bd := rfl,
            wl := fun e => ⟨e, fun _ a _ => ⟨rfl, fun c sh sz e' _ => h1 c (h.lt _ _ _ _ e')⟩⟩ }
theorem sameOld_of {l : List AObj} {w u : World} {τ : Sg} {t : St} (hl : l.length = P.globals.size) (h0 : 0 < l.length) (_h : Rep P (sgG P.globals.size w) (stG l) w) (he : Ext (sgG P.globals.size w) (stG l) w τ t u) (hw : t.wl = false) : SameOld w u := by
  refine ⟨fun c hc => ?_, he.size, he.os, he.output, he.tape⟩
  by_cases hg : c < P.globals.size
  · have hlt : (adr c).nat < P.globals.size := by rw [adr_nat]; exact hg
    have hs := sgG_lt (n := P.globals.size) (w := w) hlt
    have hb : (stG l).bd ≠ 0 := by show l.length ≠ 0; omega
    have := ((he.wl hw).2 hb (adr c) (by show (adr c).nat < l.length; rw [hl]; exact hlt)).2 _ _ _ hs (by rw [stG_get, List.getElem?_eq_getElem (by omega)]; simp)
    rw [adr_nat] at this
    exact this
  · refine he.frame c hc fun a sh sz e => ?_
    obtain ⟨h1, h2, _, _⟩ := sgG_at e
    omega

/-- what comes of it: this value, and nothing was changed -/
noncomputable def chk (v : AV) : AEnd → Up → St → R := fun en _ s1 => match en with
  | .returned u => ifk (AV.beqF 6 u v && !s1.wl) .ok (.no 410)
  | .panicked _ => .no 411
theorem pure_call {r : Rec} (hr : RecOk P r) {l : List AObj} {w : World} (hl : l.length = P.globals.size) (h0 : 0 < l.length) (h : Rep P (sgG P.globals.size w) (stG l) w) {f : FuncId} {args : List AV} {v : AV} {xs : Array Value} (hv : v.free = true) (ha : RelL (sgG P.globals.size w) args xs.toList)
    (e : r.call f args .no (stG l) (chk v) = .ok) (cs : List Frame) :
    ∃ x u fr, SameOld w u ∧ (∀ σ : Sg, RelV σ v x) ∧ Steps P (lone (Frame.enter P f xs .normal) cs w) (lone fr cs u) ∧ fr.fn = f ∧ fr.leaving P u (.returned x) ∧ (∃ fn, P.funcs[f]? = some fn ∧ fn.body.isSome = true) := by
  obtain ⟨hfn, en, up', s', τ, w', fr, cs', e1, hd, hup, hsteps, ⟨hkind, hfr⟩, hend⟩ := hr.call f args .no (stG l) (chk v) _ w cs cs .normal xs e h ha .no
  cases hend with
  | panicked ch chain fn hm hd' hf hch => exact (no_ok (n := 411) e1).elim
  | returned u x fn hm hdf hf hrun hrel =>
    obtain ⟨hb, _⟩ := ifk_no (show ifk (AV.beqF 6 u v && !s'.wl) .ok (.no 410) = .ok from e1)
    rw [Bool.and_eq_true] at hb
    have := beqF_ok 6 _ _ hb.1
    subst this
    cases hup
    exact ⟨x, w', fr, sameOld_of hl h0 h hd.2 (by simpa using hb.2), fun σ => free_rel hv hrel, hsteps, hfr, ⟨hm, hdf, hkind, fn, hf, hrun⟩, hfn⟩

-- what is asked of package-level variables
noncomputable def sameO (o o' : AObj) : Bool := match o, o' with
  | .any, _ => true
  | .cells e g z vs, .cells e' g' z' vs' => Nat.beq e e' && (g == g') && Nat.beq z z' && AV.beqF.all (AV.beqF 6) vs vs'
  | _, _ => false
def plainO (o : AObj) : Bool := match o with
  | .any => true
  | .cells _ g z vs => !g && Nat.beq z 0 && frees vs
  | _ => false
theorem sameO_ok {o o' : AObj} (h : sameO o o' = true) : o = .any ∨ o = o' := by
  cases o <;> first | exact .inl rfl | skip
  all_goals cases o' <;> first | (have h' : false = true := h; cases h'; done) | skip
  case cells.cells e g z vs e' g' z' vs' =>
    have h' : (Nat.beq e e' && (g == g') && Nat.beq z z' && AV.beqF.all (AV.beqF 6) vs vs') = true := h
    simp only [Bool.and_eq_true, beq_iff_eq] at h'
    obtain ⟨⟨⟨h1, h2⟩, h3⟩, h4⟩ := h'
    right
    rw [nbeq h1, h2, nbeq h3, beqall_ok (beqF_ok 6) _ _ h4]
/-- the variables hold what is asked -/
noncomputable def askG (s : St) (k : R) : List AObj → Nat → R
  | [], _ => k
  | o :: l, i => objk s (adr i) fun o' => ifk (sameO o o') (askG s k l (i + 1)) (.no 412)
theorem askG_ok {s : St} {k : R} : ∀ {l : List AObj} {i : Nat}, askG s k l i = .ok → k = .ok ∧ ∀ (g : Nat) (o : AObj), l[g]? = some o → ∃ o', T.get (adr (i + g)) s.heap = some o' ∧ (o = .any ∨ o = o')
  | [], i, e => ⟨e, fun g o h => by simp at h⟩
  | o :: l, i, e => by
    obtain ⟨o', ho, e1⟩ := objk_ok (show objk s (adr i) (fun o' => ifk (sameO o o') (askG s k l (i + 1)) (.no 412)) = .ok from e)
    obtain ⟨hb, e2⟩ := ifk_no e1
    obtain ⟨e3, h⟩ := askG_ok e2
    refine ⟨e3, fun g q hg => ?_⟩
    cases g with
    | zero => simp at hg; subst hg; exact ⟨o', ho, sameO_ok hb⟩
    | succ g =>
      obtain ⟨q', h1, h2⟩ := h g q (by simpa using hg)
      exact ⟨q', by rw [← h1]; congr 2; omega, h2⟩
theorem rep_ask {l : List AObj} {σ : Sg} {s : St} {w : World} (hl : l.length = P.globals.size) (hp : l.all plainO = true) (h : Rep P σ s w) (hg : ∀ (g : Nat) (o : AObj), l[g]? = some o → ∃ o', T.get (adr g) s.heap = some o' ∧ (o = .any ∨ o = o')) : Rep P (sgG P.globals.size w) (stG l) w := by
  refine rep_stG hl fun g o ho => ?_
  have hgl : g < P.globals.size := by rw [← hl]; exact (List.getElem?_eq_some_iff.1 ho).1
  obtain ⟨sz, hs⟩ := h.glob g hgl
  obtain ⟨o', ho', hor⟩ := hg g o ho
  obtain ⟨O, hO, hrel⟩ := h.obj _ _ _ _ _ hs ho'
  refine ⟨O, hO, ?_⟩
  rcases hor with rfl | rfl
  · exact .any _ _ _
  · have hpo : plainO o = true := List.all_eq_true.1 hp o (List.mem_of_getElem? ho)
    cases o <;> first | (cases hpo; done) | exact .any _ _ _ | skip
    case cells el gr z vs =>
    cases hrel with
    | cells _ _ _ _ _ _ cs fr hsz hll hgg hv hf hf' hf1 =>
    simp only [plainO, Bool.and_eq_true, Bool.not_eq_true'] at hpo
    obtain ⟨⟨hgr, hz⟩, hfr⟩ := hpo
    have hz := nbeq hz
    subst hz; subst hgr
    subst hsz
    exact .cells _ _ _ _ _ _ _ _ rfl hll hgg (frees_rel hfr hv) hf hf' hf1

/-- a table of what a function hands on -/
noncomputable def tabF (s : St) (args : List AV) (k : AV → St → R) (tab : List (List AV × AV)) : R :=
  List.rec (motive := fun _ => R) (.no 413) (fun p _ ih => ifk (AV.beqF.all (AV.beqF 6) p.1 args) (k p.2 s) ih) tab
noncomputable def hTab (l : List AObj) (tab : List (List AV × AV)) : Hook := fun _ args s k => askG s (tabF s args k tab) l 0
theorem tabF_ok {s : St} {args : List AV} {k : AV → St → R} : ∀ {tab : List (List AV × AV)}, tabF s args k tab = .ok → ∃ v, (args, v) ∈ tab ∧ k v s = .ok
  | [], e => (no_ok (n := 413) e).elim
  | p :: tab, e => by
    have e1 : ifk (AV.beqF.all (AV.beqF 6) p.1 args) (k p.2 s) (tabF s args k tab) = .ok := e
    rw [ifk_eq] at e1
    split at e1
    · rename_i hb
      have := beqall_ok (beqF_ok 6) _ _ hb
      exact ⟨p.2, by rw [← this]; simp, e1⟩
    · obtain ⟨v, h1, h2⟩ := tabF_ok e1
      exact ⟨v, by simp [h1], h2⟩
theorem hTab_ok (hP : Fit P) {r : Rec} (hr : RecOk P r) {f : FuncId} {l : List AObj} {tab : List (List AV × AV)} (hl : l.length = P.globals.size) (h0 : 0 < l.length) (hp : l.all plainO = true) (ht : ∀ p ∈ tab, frees p.1 = true ∧ p.2.free = true ∧ r.call f p.1 .no (stG l) (chk p.2) = .ok) : HookOk P f (hTab l tab) := by
  intro _ _ args s k σ w xs cs e h ha
  obtain ⟨e1, hg⟩ := askG_ok e
  obtain ⟨v, hm, e2⟩ := tabF_ok e1
  obtain ⟨hfa, hfv, hrun⟩ := ht _ hm
  have hrep := rep_ask hl hp h (fun g o ho => by have := hg g o ho; rwa [Nat.zero_add] at this)
  obtain ⟨x, u, fr, hso, hv, hsteps, _, hleave, fn, hfn, hb⟩ := pure_call hr hl h0 hrep hfv (frees_rel hfa ha) hrun cs
  exact ⟨v, x, s, u, σ, e2, Did2.same h hso, hv σ, .inr ⟨run_enter hP hfn hb xs w, fr, hsteps, hleave⟩⟩
end
end Go.Ev

/- The search for a text in a text, whatever the limit is that the library's variable holds. -/
namespace Go.Ev
open Go

/-- the entry: where the variable g is known to be as great as is needed -/
noncomputable def idxEnd (l n l' m : Nat) (s : St) (k : AV → St → R) : R :=
  ifk (Nat.ble l' l) (fN (Nat.pow 256 l') fun c => idxF (Nat.succ (Nat.sub l l')) n m c 0 fun i => k (.int .i64 i) s) (k (.int .i64 (.negSucc 0)) s)
noncomputable def idxLim (l' : Nat) (v : AV) (r : R) : R := match v with
  | .aint .i64 (some lo) _ => ifk (decide ((Int.ofNat l') ≤ lo)) r (.no 420)
  | _ => .no 421
noncomputable def hIndexS (g : Nat) : Hook := fun _ args s k => match args with
  | [.str l n, .str l' m] => ifk (Nat.ble 2 l' && Nat.blt l 65536) (cellsk s (adr g) fun _ _ _ vs => nthk 0 vs fun v => idxLim l' v (idxEnd l n l' m s k)) (.no 408)
  | _ => .no 401

theorem idxF_eq (y : List UInt8) : ∀ (fuel : Nat) (x : List UInt8) (i : Nat) (k : Int → R), fuel + y.length ≤ x.length + 1 → idxF fuel (packL x) (packL y) (256 ^ y.length) i k = k (match (List.range fuel).find? fun j => (x.drop j).take y.length == y with | some j => ((i + j : Nat) : Int) | none => -1) := by
  intro fuel
  induction fuel with
  | zero => intro x i k _; rfl
  | succ fuel ih =>
    intro x i k h
    show ifk (Nat.beq (Nat.mod (packL x) (256 ^ y.length)) (packL y)) (k (.ofNat i)) (fN (Nat.div (packL x) 256) fun n => fN (Nat.succ i) fun i => idxF fuel n (packL y) (256 ^ y.length) i k) = _
    have hlen : y.length ≤ x.length := by omega
    have h1 : Nat.mod (packL x) (256 ^ y.length) = packL (x.take y.length) := (packL_take x y.length hlen).symm
    have h2 : (Nat.beq (packL (x.take y.length)) (packL y)) = (x.take y.length == y) := by
      rw [← str_beq]
      have : (x.take y.length).length = y.length := by simp; omega
      rw [this, Nat.beq_refl]; rfl
    rw [h1, h2, ifk_eq, Lib.find_range_succ, fN_eq, fN_eq]
    simp only [List.drop_zero]
    by_cases hh : (x.take y.length == y) = true
    · rw [if_pos hh, if_pos hh]; rfl
    · rw [if_neg hh, if_neg hh]
      have h3 : Nat.div (packL x) 256 = packL (x.drop 1) := by
        cases x with
        | nil => rfl
        | cons b x =>
          show (packL (b :: x)) / 256 = packL x
          have := UInt8.toNat_lt b
          rw [packL_cons]; omega
      rw [h3]
      by_cases h0 : fuel = 0
      · subst h0; rfl
      · rw [ih (x.drop 1) (Nat.succ i) k (by simp; omega)]
        congr 1
        have h4 : ∀ j, (x.drop 1).drop j = x.drop (j + 1) := fun j => by rw [List.drop_drop]; congr 1; omega
        simp only [h4]
        cases (List.range fuel).find? fun j => (x.drop (j + 1)).take y.length == y with
        | none => rfl
        | some j => simp; omega

theorem extract_beq (a b : ByteArray) (i : Nat) : (a.extract i (i + b.size) == b) = ((a.data.toList.drop i).take b.data.toList.length == b.data.toList) := by
  have h1 : (a.extract i (i + b.size)).data.toList = (a.data.toList.drop i).take b.data.toList.length := by
    simp only [ByteArray.data_extract, Array.toList_extract, List.extract_eq_take_drop]
    congr 1
    simp
  have key : ∀ u v : ByteArray, (u == v) = (u.data.toList == v.data.toList) := fun u v => by
    obtain ⟨u⟩ := u; obtain ⟨v⟩ := v
    show (u == v) = (u.toList == v.toList)
    rw [Bool.eq_iff_iff, beq_iff_eq, beq_iff_eq]
    exact ⟨fun h => by rw [h], fun h => Array.ext' h⟩
  rw [key, h1]

section
variable {P : Program} {f : FuncId} {fn : Func}
theorem hIndexS_ok {g : Nat} (hg : P.globals.findIdx? (·.name == "internal/bytealg.MaxLen") = some g) (hgl : g < P.globals.size) (hf : P.funcs[f]? = some fn) (hname : (fn.name == "runtime.NumGoroutine") = false) (hb : fn.body.isNone = true) (hn : Extern.findNext fn = none)
    (he : Extern.find fn = some Extern.BytealgIndex.index) : HookOk P f (hIndexS g) :=
  hook_extern hf hname hb hn he fun r args s k σ w xs e h ha => by
    unfold hIndexS at e
    split at e
    · rename_i l n l' m
      obtain ⟨x, y, rfl, hx, hy⟩ := two_args ha
      cases hx with
      | str S =>
      cases hy with
      | str T =>
      obtain ⟨hb2, e1⟩ := ifk_no e
      rw [Bool.and_eq_true] at hb2
      have h2 : 2 ≤ T.data.toList.length := Nat.le_of_ble_eq_true hb2.1
      have h3 : S.data.toList.length < 65536 := by have := hb2.2; rw [Nat.blt_eq] at this; exact this
      obtain ⟨o, ho, e2⟩ := objk_ok e1
      obtain ⟨el, gr, fz, vs, rfl, e3⟩ := AObj.onCells_ok e2
      obtain ⟨v, hv, e4⟩ := nthk_ok e3
      obtain ⟨sz, hs⟩ := h.glob g hgl
      obtain ⟨O, hO, hrel⟩ := h.obj _ _ _ _ _ hs ho
      cases hrel with
      | cells _ _ _ _ _ _ cs fr hsz hll hgg hvs hfz hf' hf1 =>
      obtain ⟨u, hu, huv⟩ := hvs.get hv
      have hcell : cs[0]? = some u := by
        rw [List.drop_zero, List.getElem?_take] at hu
        split at hu
        · simpa using hu
        · cases hu
      unfold idxLim at e4
      split at e4
      · rename_i lo hi
        obtain ⟨hlo, e5⟩ := ifk_no e4
        have hlo : (T.data.toList.length : Int) ≤ lo := by simpa using hlo
        cases huv with
        | aint _ _ _ mx hl hh =>
        have hmx := hl lo rfl
        have hload : (load ⟨g, 0, none⟩ : Sem Value).run P w = .ok (.int .i64 mx) w := by
          have : w.cell? ⟨g, 0, none⟩ = some (.int .i64 mx) := by simp [World.cell?, hO, hcell]
          simp [load, Sem.run, this]
        have hmax : Extern.BytealgIndex.maxLen.run P w = .ok mx w := by
          simp only [Extern.BytealgIndex.maxLen, globalAddr, Sem.run_bind, run_program, Result.andThen_ok, hg, Sem.run_pure, hload]
          rfl
        have ht : T.data.toList.length = T.size := by simp
        have hs' : S.data.toList.length = S.size := by simp
        have hc1 : ¬ (T.size < 2 ∨ (T.size : Int) > mx) := by omega
        have hc2 : ¬ (S.size ≥ 2 ^ 32 - 15) := by omega
        have hfind : ∀ (z : Int), (match (List.range (S.size + 1 - T.size)).find? fun i => S.extract i (i + T.size) == T with | some i => ((i : Nat) : Int) | none => -1) = z →
            (Extern.BytealgIndex.index #[.string S, .string T]).run P w = .ok (.int .i64 z) w := fun z hz => by
          have hdef : Extern.BytealgIndex.index #[.string S, .string T] = (do
            let a ← Extern.Bytes.bytesOf (.string S)
            let b ← Extern.Bytes.bytesOf (.string T)
            if b.size < 2 || (b.size : Int) > (← Extern.BytealgIndex.maxLen) then
              unsupported (.noEntry "extern/internal/bytealg.Index.length")
            if a.size ≥ 2 ^ 32 - 15 then
              unsupported (.noEntry "extern/internal/bytealg.Index: a haystack of 2^32 - 15 bytes or more")
            match (List.range (a.size + 1 - b.size)).find? fun i => a.extract i (i + b.size) == b with
            | some i => pure (goInt i)
            | none => pure (goInt (-1)) : Sem Value) := rfl
          have hd1 : ¬ T.size < 2 := by omega
          have hd2 : ¬ ((T.size : Int) > mx) := by omega
          rw [hdef]
          simp only [Extern.Bytes.bytesOf, Sem.run_bind, Sem.run_pure, Result.andThen_ok]
          rw [hmax]
          simp only [Result.andThen_ok, decide_eq_false hd1, decide_eq_false hd2, Bool.or_self, Bool.false_eq_true, if_false, hc2, Result.andThen_ok]
          revert hz
          cases (List.range (S.size + 1 - T.size)).find? fun i => S.extract i (i + T.size) == T with
          | none => intro hz; subst hz; rfl
          | some i => intro hz; subst hz; rfl
        unfold idxEnd at e5
        rw [ifk_eq] at e5
        split at e5
        · rename_i hle
          have hle : T.data.toList.length ≤ S.data.toList.length := Nat.le_of_ble_eq_true hle
          rw [fN_eq] at e5
          have hfuel : Nat.succ (Nat.sub S.data.toList.length T.data.toList.length) = S.size + 1 - T.size := by
            show (S.data.toList.length - T.data.toList.length) + 1 = _
            omega
          rw [hfuel] at e5
          rw [show Nat.pow 256 T.data.toList.length = 256 ^ T.data.toList.length from rfl, idxF_eq _ _ _ _ _ (by omega)] at e5
          refine ⟨_, _, s, w, σ, e5, .refl h, .int _ _, hfind _ ?_⟩
          simp only [extract_beq, Nat.zero_add]
        · rename_i hle
          have hle : ¬ T.data.toList.length ≤ S.data.toList.length := fun hh => hle (Nat.ble_eq_true_of_le hh)
          refine ⟨_, _, s, w, σ, e5, .refl h, .int _ _, hfind _ ?_⟩
          have : S.size + 1 - T.size = 0 := by omega
          rw [this]; rfl
      · exact (no_ok e4).elim
    · exact (no_ok e).elim

/-- the variables, the one that limits between bounds -/
def limG (G g : Nat) (el : TypeId) (lo hi : Option Int) : List AObj := (List.range G).map fun i => if i = g then .cells el false 0 [.aint .i64 lo hi] else .any
theorem limG_get {G g : Nat} {el : TypeId} {lo hi : Option Int} {i : Nat} {o : AObj} (h : (limG G g el lo hi)[i]? = some o) : i < G ∧ (i = g ∧ o = .cells el false 0 [.aint .i64 lo hi] ∨ i ≠ g ∧ o = .any) := by
  unfold limG at h
  rw [List.getElem?_map] at h
  cases hr : (List.range G)[i]? with
  | none => rw [hr] at h; cases h
  | some j =>
    have hi : i < G := by have := (List.getElem?_eq_some_iff.1 hr).1; simpa using this
    have hj : j = i := by rw [List.getElem?_range hi] at hr; exact (Option.some.inj hr).symm
    subst hj
    rw [hr] at h
    simp only [Option.map_some, Option.some.injEq] at h
    refine ⟨hi, ?_⟩
    by_cases hg : j = g
    · rw [if_pos hg] at h; exact .inl ⟨hg, h.symm⟩
    · rw [if_neg hg] at h; exact .inr ⟨hg, h.symm⟩
theorem limG_length (G g : Nat) (el : TypeId) (lo hi : Option Int) : (limG G g el lo hi).length = G := by simp [limG]

noncomputable def hIdx (G g : Nat) (el : TypeId) (tab : List (List AV × AV)) : Hook := hTab (limG G g el none none) tab
/-- either way the answer is the same -/
noncomputable def idxRuns (r : Rec) (f : FuncId) (G g : Nat) (el : TypeId) (p : List AV × AV) (n : Int) : R :=
  R.rec (r.call f p.1 .no (stG (limG G g el none (some n))) (chk p.2)) (fun n => .no n) (r.call f p.1 .no (stG (limG G g el (some n) none)) (chk p.2))
theorem hIdx_ok (hP : Fit P) {r : Rec} (hr : RecOk P r) {f : FuncId} {g : Nat} {el : TypeId} {tab : List (List AV × AV)} (hgl : g < P.globals.size)
    (ht : ∀ p ∈ tab, frees p.1 = true ∧ p.2.free = true ∧ ∃ n, idxRuns r f P.globals.size g el p n = .ok) : HookOk P f (hIdx P.globals.size g el tab) := by
  intro _ _ args s k σ w xs cs e h ha
  obtain ⟨e1, hg⟩ := askG_ok e
  obtain ⟨v, hm, e2⟩ := tabF_ok e1
  obtain ⟨hfa, hfv, n, hrun⟩ := ht _ hm
  have hlen := limG_length P.globals.size g el
  have hg : ∀ (i : Nat) (o : AObj), (limG P.globals.size g el none none)[i]? = some o → ∃ o', T.get (adr i) s.heap = some o' ∧ (o = .any ∨ o = o') := fun i o ho => by have := hg i o ho; rwa [Nat.zero_add] at this
  -- what the variable holds
  obtain ⟨m, hm⟩ : ∃ m : Int, ∀ O, w.heap[g]? = some O → ∀ lo hi, (∀ l, lo = some l → l ≤ m) → (∀ h, hi = some h → m < h) → RelO (sgG P.globals.size w) (.cells el false 0 [.aint .i64 lo hi]) 0 (szOf (some O)) O := by
    have hgo : (limG P.globals.size g el none none)[g]? = some (.cells el false 0 [.aint .i64 none none]) := by
      obtain ⟨o, ho⟩ : ∃ o, (limG P.globals.size g el none none)[g]? = some o := ⟨_, List.getElem?_eq_getElem (by rw [hlen]; exact hgl)⟩
      rcases limG_get ho with ⟨_, ⟨_, h1⟩ | ⟨h1, _⟩⟩
      · rw [ho, h1]
      · exact absurd rfl h1
    obtain ⟨o', ho', hor⟩ := hg g _ hgo
    rcases hor with hor | hor
    · cases hor
    · subst hor
      obtain ⟨sz, hs⟩ := h.glob g hgl
      obtain ⟨O, hO, hrel⟩ := h.obj _ _ _ _ _ hs ho'
      cases hrel with
      | cells _ _ _ _ _ _ cs fr hsz hll hgg hvs hfz hf' hf1 =>
      subst hsz
      generalize hL : (cs.toList.drop 0).take [AV.aint IntKind.i64 none none].length = L at hvs
      cases hvs with
      | cons _ x _ L' hx ht' =>
      cases ht'
      cases hx with
      | aint _ _ _ m _ _ =>
      refine ⟨m, fun O' hO' lo hi h1 h2 => ?_⟩
      rw [hO] at hO'; cases hO'
      refine .cells _ _ _ _ _ _ _ _ rfl hll (fun hh => hgg rfl) ?_ hfz hf' hf1
      show RelL _ _ ((cs.toList.drop 0).take 1)
      have : (cs.toList.drop 0).take 1 = [.int .i64 m] := hL
      rw [this]
      exact .cons _ _ _ _ (.aint _ _ _ _ h1 h2) .nil
  have rep : ∀ lo hi, (∀ l, lo = some l → l ≤ m) → (∀ h, hi = some h → m < h) → Rep P (sgG P.globals.size w) (stG (limG P.globals.size g el lo hi)) w := fun lo hi h1 h2 => by
    refine rep_stG (limG_length _ _ _ _ _) fun i o ho => ?_
    obtain ⟨hi', hcase⟩ := limG_get ho
    obtain ⟨sz, hs⟩ := h.glob i hi'
    have hlt := h.lt _ _ _ _ hs
    refine ⟨_, Array.getElem?_eq_getElem hlt, ?_⟩
    rcases hcase with ⟨rfl, rfl⟩ | ⟨_, rfl⟩
    · exact hm _ (Array.getElem?_eq_getElem hlt) lo hi h1 h2
    · exact .any _ _ _
  have fin : ∀ lo hi, (∀ l, lo = some l → l ≤ m) → (∀ h, hi = some h → m < h) → r.call f args .no (stG (limG P.globals.size g el lo hi)) (chk v) = .ok → ∃ v x s' w' τ, k v s' = .ok ∧ Did2 P σ s w τ s' w' ∧ RelV τ v x ∧ ((callFunc f xs).run P w = .ok (.value x) w' ∨
      ((callFunc f xs).run P w = .ok (.enter f xs) w ∧ ∃ fr, Steps P (lone (Frame.enter P f xs .normal) cs w) (lone fr cs w') ∧ fr.leaving P w' (.returned x))) := fun lo hi h1 h2 hrun => by
    obtain ⟨x, u, fr, hso, hv, hsteps, _, hleave, fn, hfn, hb⟩ := pure_call hr (limG_length _ _ _ _ _) (by rw [limG_length]; omega) (rep lo hi h1 h2) hfv (frees_rel hfa ha) hrun cs
    exact ⟨v, x, s, u, σ, e2, Did2.same h hso, hv σ, .inr ⟨run_enter hP hfn hb xs w, fr, hsteps, hleave⟩⟩
  obtain ⟨r1, r2⟩ : r.call f args .no (stG (limG P.globals.size g el (some n) none)) (chk v) = .ok ∧ r.call f args .no (stG (limG P.globals.size g el none (some n))) (chk v) = .ok := by
    have h0 : (R.rec (r.call f args .no (stG (limG P.globals.size g el none (some n))) (chk v)) (fun n => .no n) (r.call f args .no (stG (limG P.globals.size g el (some n) none)) (chk v)) : R) = .ok := hrun
    cases h1 : r.call f args .no (stG (limG P.globals.size g el (some n) none)) (chk v) with
    | ok => rw [h1] at h0; exact ⟨rfl, h0⟩
    | no n => rw [h1] at h0; cases h0
  by_cases hc : n ≤ m
  · exact fin (some n) none (fun l hl => by cases hl; exact hc) (fun h hh => by cases hh) r1
  · exact fin none (some n) (fun l hl => by cases hl) (fun h hh => by cases hh; omega) r2
end
end Go.Ev
