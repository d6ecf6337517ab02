/- The evaluator's operations agree with the machine's: numbers, texts, comparisons, loads and stores. -/
import Derived.Test.YtlohkhfopnkcmaaGreatDoorEvB
import Derived.Laws.StructEq

/- Operations: parts, comparisons, keys. -/
namespace Go.Ev
open Go

section
variable {P : Program} {σ : Sg} {s : St} {w : World}

theorem partk_ok {t : TypeId} {cs : List AV} {vs : Array Value} (h : RelL σ cs vs.toList) {off : Nat} {k : AV → R} (e : partk P t cs off k = .ok) :
    ∃ v x, k v = .ok ∧ RelV σ v x ∧ (part t vs off).run P w = .ok x w := by
  obtain ⟨d, hd, e1⟩ := tyk_ok e
  rw [ifk_eq] at e1
  split at e1
  · rename_i hag
    obtain ⟨i, hi, e2⟩ := szk_ok e1
    obtain ⟨x, y, rfl, hx, e3⟩ := splitk_ok e2
    obtain ⟨l, z, rfl, hl, e4⟩ := splitk_ok e3
    have h1 := h.split.2.split.1
    rw [hx, hl] at h1
    refine ⟨_, .agg (vs.extract off (off + i.size)), e4, .agg _ _ ?_, ?_⟩
    · have : (vs.extract off (off + i.size)).toList = (vs.toList.drop off).take i.size := by
        rw [Array.toList_extract, List.extract_eq_take_drop]; simp
      rw [this]; exact h1
    · simp [part, run_isAgg hd, hag, run_sz hi]
  · rename_i hag
    obtain ⟨v, hv, e2⟩ := nthk_ok e1
    obtain ⟨x, hx, hr⟩ := h.get hv
    have hx' : vs[off]? = some x := by simpa using hx
    exact ⟨v, x, e2, hr, by simp [part, run_isAgg hd, hag, hx']⟩

theorem viewAt_cells {c : Nat} {cs : Array Value} {e : TypeId} {fr : Nat × Nat} (h : w.heap[c]? = some (.cells cs e fr)) : (viewAt c).run P w = .ok none w := by
  simp [viewAt, World.shape?, h]
theorem noView_cells {a : Addr} {cs : Array Value} {e : TypeId} {fr : Nat × Nat} (h : w.heap[a.block]? = some (.cells cs e fr)) : (noView a).run P w = .ok () w := by
  simp [noView, viewAt_cells h]
theorem frozen_none {a : Addr} {cs : Array Value} {e : TypeId} (h : w.heap[a.block]? = some (.cells cs e (0, 0))) : w.frozen? a = false := by
  simp [World.frozen?, h]

theorem cleank_ok (h : RepC P σ s w) {a : Adr} {c sh sz : Nat} (ha : σ a = .at c sh sz) {r : R} (e : cleank s a r = .ok) : r = .ok ∧ T.get a s.heap ≠ none ∧ ∃ cs el, w.heap[c]? = some (.cells cs el (0, 0)) := by
  unfold cleank cellsk objk at e
  obtain ⟨o, h1, e1⟩ := optk_ok e
  obtain ⟨el, g, fz, vs, rfl, e2⟩ := AObj.onCells_ok e1
  obtain ⟨hb, e3⟩ := ifk_no e2
  obtain ⟨cs, fr, h2, _, _, _, _, hf, _⟩ := h.cells ha h1
  rw [hf (Nat.eq_of_beq_eq_true hb)] at h2
  exact ⟨e3, by rw [h1]; simp, cs, el, h2⟩

theorem eqPtr_ok (h : RepC P σ s w) {t el : TypeId} (hd : P.underlying t = some (.pointer el)) {x y : AV} {u v : Value} (hx : RelV σ x u) (hy : RelV σ y v) {k : Bool → R} (e : eqPtr P s el x y k = .ok) (d : Nat) :
    ∃ b, k b = .ok ∧ (Op.equalIn (d + 1) t u v).run P w = .ok b w := by
  cases hx <;> first | (exact (no_ok (n := 46) e).elim) | skip
  case ptr a i c sh sz ha =>
    cases hy <;> first | (exact (no_ok (n := 46) e).elim) | skip
    case ptr b j c' sh' sz' hb =>
      obtain ⟨i0, hi, e1⟩ := szk_ok (show szk P el (fun n => ifk (Nat.beq n 0) (.no 42) (Bool.rec (cleank s a (cleank s b (k false))) (fB (Nat.beq i j) k) (a.beq b))) = .ok from e)
      rw [ifk_eq] at e1
      split at e1
      · exact (no_ok e1).elim
      · rename_i hz
        have hz' : ¬ i0.size = 0 := fun hh => hz (by rw [hh]; rfl)
        cases hab : a.beq b
        · rw [hab] at e1
          obtain ⟨e2, la, cs, el1, h1⟩ := cleank_ok h ha e1
          obtain ⟨e3, lb, cs', el2, h2⟩ := cleank_ok h hb e2
          have hne : c ≠ c' := fun hh => by
            subst hh
            have := h.inj _ _ _ _ _ _ _ ha hb la lb
            rw [(Adr.beq_iff _ _).2 this] at hab; cases hab
          refine ⟨false, e3, ?_⟩
          have f1 : ∀ o, w.frozen? ⟨c, o, none⟩ = false := fun o => frozen_none h1
          have f2 : ∀ o, w.frozen? ⟨c', o, none⟩ = false := fun o => frozen_none h2
          have v1 := noView_cells (P := P) (w := w) (a := ⟨c, sh + i, none⟩) h1
          have v2 := noView_cells (P := P) (w := w) (a := ⟨c', sh' + j, none⟩) h2
          have s1 : w.shape? c = some (el1, cs.size) := by simp [World.shape?, h1]
          have s2 : w.shape? c' = some (el2, cs'.size) := by simp [World.shape?, h2]
          simp [Op.equalIn, run_ty hd, run_sz hi, hz', sameAddr, hne, f1, f2, v1, v2, mayBeOne, stringish, s1, s2]
        · rw [hab] at e1
          have := (Adr.beq_iff _ _).1 hab
          subst this
          rw [ha] at hb; cases hb
          have e2 : fB (Nat.beq i j) k = .ok := e1
          rw [fB_eq] at e2
          refine ⟨_, e2, ?_⟩
          simp [Op.equalIn, run_ty hd, run_sz hi, hz', sameAddr]
          rw [Bool.eq_iff_iff]
          simp
    case nilptr => exact ⟨false, e, by simp [Op.equalIn, run_ty hd]⟩
  case nilptr =>
    cases hy <;> first | (exact (no_ok (n := 46) e).elim) | skip
    case ptr b j c' sh' sz' hb => exact ⟨false, e, by simp [Op.equalIn, run_ty hd]⟩
    case nilptr => exact ⟨true, e, by simp [Op.equalIn, run_ty hd]⟩

def EqOk (P : Program) (σ : Sg) (w : World) (d : Nat) (ih : TypeId → AV → AV → (Bool → R) → R) : Prop :=
  ∀ t x y u v (k : Bool → R), RelV σ x u → RelV σ y v → ih t x y k = .ok → ∃ b, k b = .ok ∧ (Op.equalIn d t u v).run P w = .ok b w

theorem eqFields_ok {ih : TypeId → AV → AV → (Bool → R) → R} {d : Nat} (hih : EqOk P σ w d ih) {xs ys : List AV} {us vs : Array Value} (hx : RelL σ xs us.toList) (hy : RelL σ ys vs.toList) {k : Bool → R} {fs : List Field}
    (e : eqFields P ih xs ys k fs = .ok) : ∃ b, k b = .ok ∧ (Op.eqFields d us vs fs).run P w = .ok b w := by
  induction fs with
  | nil => exact ⟨true, e, rfl⟩
  | cons f fs ihf =>
    have e1 : ifk (f.name == "_") (eqFields P ih xs ys k fs) (partk P f.type xs f.offset fun x => partk P f.type ys f.offset fun y => ih f.type x y fun b => Bool.rec (k false) (eqFields P ih xs ys k fs) b) = .ok := e
    rw [ifk_eq] at e1
    split at e1
    · rename_i hn
      have hn : f.name = "_" := by simpa using hn
      obtain ⟨b, h1, h2⟩ := ihf e1
      exact ⟨b, h1, by simp [Op.eqFields, hn, h2]⟩
    · rename_i hn
      have hn : f.name ≠ "_" := by simpa using hn
      obtain ⟨x, u, e2, hxu, r1⟩ := partk_ok (P := P) (w := w) hx e1
      obtain ⟨y, v, e3, hyv, r2⟩ := partk_ok (P := P) (w := w) hy e2
      obtain ⟨b, e4, r3⟩ := hih _ _ _ _ _ _ hxu hyv e3
      cases b
      · exact ⟨false, e4, by simp [Op.eqFields, hn, r1, r2, r3]⟩
      · obtain ⟨b, h1, h2⟩ := ihf e4
        exact ⟨b, h1, by simp [Op.eqFields, hn, r1, r2, r3, h2]⟩

theorem eqNilS_ok {t : TypeId} {el : TypeId} (hd : P.underlying t = some (.slice el)) {x y : AV} {u v : Value} (hx : RelV σ x u) (hy : RelV σ y v) {k : Bool → R} (e : eqNilS x y k = .ok) (d : Nat) :
    ∃ b, k b = .ok ∧ (Op.equalIn (d + 1) t u v).run P w = .ok b w := by
  cases hx <;> first | (exact (no_ok (n := 46) e).elim) | skip
  case slice =>
    cases hy <;> first | (exact (no_ok (n := 46) e).elim) | skip
    case nilslice => exact ⟨false, e, by simp [Op.equalIn, run_ty hd]⟩
  case gslice =>
    cases hy <;> first | (exact (no_ok (n := 46) e).elim) | skip
    case nilslice => exact ⟨false, e, by simp [Op.equalIn, run_ty hd]⟩
  case nilslice =>
    cases hy <;> first | (exact (no_ok (n := 46) e).elim) | skip
    case slice => exact ⟨false, e, by simp [Op.equalIn, run_ty hd]⟩
    case gslice => exact ⟨false, e, by simp [Op.equalIn, run_ty hd]⟩
    case nilslice => exact ⟨true, e, by simp [Op.equalIn, run_ty hd]⟩
    case zslice => exact ⟨false, e, by simp [Op.equalIn, run_ty hd]⟩
  case zslice =>
    cases hy <;> first | (exact (no_ok (n := 46) e).elim) | skip
    case nilslice => exact ⟨false, e, by simp [Op.equalIn, run_ty hd]⟩
theorem eqNilM_ok {t : TypeId} {q el : TypeId} (hd : P.underlying t = some (.map q el)) {x y : AV} {u v : Value} (hx : RelV σ x u) (hy : RelV σ y v) {k : Bool → R} (e : eqNilM x y k = .ok) (d : Nat) :
    ∃ b, k b = .ok ∧ (Op.equalIn (d + 1) t u v).run P w = .ok b w := by
  cases hx <;> first | (exact (no_ok (n := 46) e).elim) | skip
  case map =>
    cases hy <;> first | (exact (no_ok (n := 46) e).elim) | skip
    case nilmap => exact ⟨false, e, by simp [Op.equalIn, run_ty hd]⟩
  case nilmap =>
    cases hy <;> first | (exact (no_ok (n := 46) e).elim) | skip
    case map => exact ⟨false, e, by simp [Op.equalIn, run_ty hd]⟩
    case nilmap => exact ⟨true, e, by simp [Op.equalIn, run_ty hd]⟩
theorem eqNilF_ok {t : TypeId} {p q : Array TypeId} {r : Bool} (hd : P.underlying t = some (.func p q r)) {x y : AV} {u v : Value} (hx : RelV σ x u) (hy : RelV σ y v) {k : Bool → R} (e : eqNilF x y k = .ok) (d : Nat) :
    ∃ b, k b = .ok ∧ (Op.equalIn (d + 1) t u v).run P w = .ok b w := by
  cases hx <;> first | (exact (no_ok (n := 46) e).elim) | skip
  case func =>
    cases hy <;> first | (exact (no_ok (n := 46) e).elim) | skip
    case nilfunc => exact ⟨false, e, by simp [Op.equalIn, run_ty hd]⟩
  case nilfunc =>
    cases hy <;> first | (exact (no_ok (n := 46) e).elim) | skip
    case func => exact ⟨false, e, by simp [Op.equalIn, run_ty hd]⟩
    case nilfunc => exact ⟨true, e, by simp [Op.equalIn, run_ty hd]⟩

theorem eqF_ok (h : RepC P σ s w) (f : Nat) : ∀ d, f ≤ d → EqOk P σ w d (eqF P s f) := by
  induction f with
  | zero => intro d _ t x y u v k _ _ e; exact (no_ok e).elim
  | succ f ih =>
    intro d hd t x y u v k hx hy e
    obtain ⟨d, rfl⟩ : ∃ d', d = d' + 1 := ⟨d - 1, by omega⟩
    have hih := ih d (by omega)
    obtain ⟨D, hD, e1⟩ := tyk_ok (show tyk P t (fun D => eqD P s (eqF P s f) t D x y k) = .ok from e)
    cases D <;> simp only [eqD] at e1 <;> first | (exact (no_ok e1).elim) | skip
    case bool =>
      obtain ⟨a, rfl, e2⟩ := AV.onBool_ok e1
      obtain ⟨b, rfl, e3⟩ := AV.onBool_ok e2
      cases hx; cases hy
      rw [fB_eq] at e3
      exact ⟨_, e3, by simp [Op.equalIn, run_ty hD]⟩
    case int q =>
      obtain ⟨p, a, rfl, e2⟩ := AV.onInt_ok e1
      obtain ⟨p', b, rfl, e3⟩ := AV.onInt_ok e2
      cases hx; cases hy
      obtain ⟨hp, e4⟩ := ifk_no e3
      have hp : p = p' := by simpa using hp
      subst hp
      rw [fB_eq] at e4
      exact ⟨_, e4, by simp [Op.equalIn, run_ty hD]; rfl⟩
    case string =>
      obtain ⟨l, a, rfl, e2⟩ := AV.onStr_ok e1
      obtain ⟨m, b, rfl, e3⟩ := AV.onStr_ok e2
      cases hx; cases hy
      rename_i x y
      rw [fB_eq, str_beq] at e3
      exact ⟨_, e3, by simp [Op.equalIn, run_ty hD, beq_toListBytes, ByteArray.toList_eq]⟩
    case pointer el => exact eqPtr_ok h hD hx hy e1 d
    case interface ms =>
      cases hx <;> first | (exact (no_ok (n := 46) e1).elim) | skip
      case iface tx vx ux hx =>
        cases hy <;> first | (exact (no_ok (n := 46) e1).elim) | skip
        case iface ty vy uy hy =>
          simp only [eqIface] at e1
          rw [ifk_eq] at e1
          split at e1
          · rename_i ht
            have ht := Nat.eq_of_beq_eq_true ht
            subst ht
            obtain ⟨i, hi, e2⟩ := optk_ok e1
            obtain ⟨hc, e3⟩ := ifk_no e2
            obtain ⟨b, h1, h2⟩ := hih _ _ _ _ _ _ hx hy e3
            exact ⟨b, h1, by simp [Op.equalIn, run_ty hD, run_ti hi, hc, h2]⟩
          · rename_i ht
            have ht : tx ≠ ty := fun hh => ht (by subst hh; exact Nat.beq_refl _)
            exact ⟨false, e1, by simp [Op.equalIn, run_ty hD, ht]⟩
        case niliface => exact ⟨false, e1, by simp [Op.equalIn, run_ty hD]⟩
      case niliface =>
        cases hy <;> first | (exact (no_ok (n := 46) e1).elim) | skip
        case iface ty vy uy hy => exact ⟨false, e1, by simp [Op.equalIn, run_ty hD]⟩
        case niliface => exact ⟨true, e1, by simp [Op.equalIn, run_ty hD]⟩
    case struct fs =>
      obtain ⟨xs, rfl, e2⟩ := AV.onAgg_ok e1
      obtain ⟨ys, rfl, e3⟩ := AV.onAgg_ok e2
      cases hx with
      | agg _ us hx =>
      cases hy with
      | agg _ vs hy =>
      rw [ifk_eq] at e3
      split at e3
      · exact (no_ok e3).elim
      · rename_i hs
        have hs : P.stoodInHeld t = false := by simpa using hs
        obtain ⟨b, h1, h2⟩ := eqFields_ok hih hx hy e3
        have hf : P.fieldsOf t = fs := by simp [Program.fieldsOf, hD]
        refine ⟨b, h1, ?_⟩
        rw [run_equalIn_struct w d t us vs (by rw [hf]; exact hD) hs, hf]
        exact h2
    case slice el => exact eqNilS_ok hD hx hy e1 d
    case map q el => exact eqNilM_ok hD hx hy e1 d
    case func p q r => exact eqNilF_ok hD hx hy e1 d
theorem eqk_ok (h : RepC P σ s w) {t : TypeId} {x y : AV} {u v : Value} (hx : RelV σ x u) (hy : RelV σ y v) {k : Bool → R} (e : eqk P s t x y k = .ok) : ∃ b, k b = .ok ∧ (Op.equal t u v).run P w = .ok b w :=
  eqF_ok h 8 Op.maxDepth (by decide) t x y u v k hx hy e

-- '==' and its kin
theorem eqOrk_ok {op : BinOp} {r : (Bool → R) → R} {k : AV → R} (e : eqOrk op r k = .ok) : (op = .eql ∧ r (fun b => k (.bool b)) = .ok) ∨ (op = .neq ∧ r (fun b => k (.bool !b)) = .ok) := by
  have key : (fun b : Bool => (Bool.rec (k (.bool true)) (k (.bool false)) b : R)) = fun b => k (.bool !b) := by funext b; cases b <;> rfl
  cases op <;> first
    | (exact .inl ⟨rfl, e⟩)
    | (refine .inr ⟨rfl, ?_⟩; rw [← key]; exact e)
    | (have e' : R.no 62 = R.ok := e; cases e')

def _root_.Go.Value.odd (v : Value) : Bool := match v with | .int _ _ => false | .string _ => false | .float _ _ => false | .complex _ _ _ => false | _ => true
theorem binOp_eql_odd {t : TypeId} {u v : Value} (h : u.odd = true) : binOp .eql t u v = (do pure (.bool (← Op.equal t u v))) := by
  cases u <;> first | rfl | (cases h; done)
theorem binOp_neq_odd {t : TypeId} {u v : Value} (h : u.odd = true) : binOp .neq t u v = (do pure (.bool (!(← Op.equal t u v)))) := by
  cases u <;> first | rfl | (cases h; done)
theorem binOther_ok (h : RepC P σ s w) {op : BinOp} {t : TypeId} {x y : AV} {u v : Value} (hx : RelV σ x u) (hy : RelV σ y v) (ho : u.odd = true) {k : AV → R} (e : binOther P s op t x y k = .ok) :
    ∃ b z, k b = .ok ∧ RelV σ b z ∧ (binOp op t u v).run P w = .ok z w ∧ (op = .eql ∨ op = .neq) := by
  rcases eqOrk_ok e with ⟨rfl, e1⟩ | ⟨rfl, e1⟩
  · obtain ⟨b, e2, hr⟩ := eqk_ok h hx hy e1; exact ⟨_, _, e2, .bool _, by rw [binOp_eql_odd ho]; simp [hr], .inl rfl⟩
  · obtain ⟨b, e2, hr⟩ := eqk_ok h hx hy e1; exact ⟨_, _, e2, .bool _, by rw [binOp_neq_odd ho]; simp [hr], .inr rfl⟩
theorem eqk_top {P : Program} {s : St} {t : TypeId} {y : AV} {k : Bool → R} (e : eqk P s t .top y k = .ok) : False := by
  obtain ⟨D, hD, e1⟩ := tyk_ok (show tyk P t (fun D => eqD P s (eqF P s 7) t D .top y k) = .ok from e)
  cases D <;> exact no_ok e1
theorem eqk_tuple {P : Program} {s : St} {t : TypeId} {y : AV} {l : List AV} {k : Bool → R} (e : eqk P s t (.tuple l) y k = .ok) : False := by
  obtain ⟨D, hD, e1⟩ := tyk_ok (show tyk P t (fun D => eqD P s (eqF P s 7) t D (.tuple l) y k) = .ok from e)
  cases D <;> exact no_ok e1
theorem eqGuard_plain {op : BinOp} {t : TypeId} {x y : Operand} {u v : Value} (h1 : u ≠ .nilIface) (h2 : ∀ c, u ≠ .agg c) : eqGuard op t x y u v = pure () := by
  cases op <;> first | rfl | (cases u <;> first | rfl | exact absurd rfl h1 | exact absurd rfl (h2 _))

theorem cmpBd_ok {m n : Int} {lo hi : Option Int} {k : AV → R} (hl : ∀ l, lo = some l → l ≤ n) (hh : ∀ h, hi = some h → n < h) (e : cmpBd m lo hi k = .ok) : ∃ r, k r = .ok ∧ RelV σ r (.bool (decide (m ≤ n))) := by
  have high : ∀ (e : (Option.rec (motive := fun _ => R) (k .abool) (fun h => ifk (decide (h ≤ m)) (k (.bool false)) (k .abool)) hi : R) = .ok), ∃ r, k r = .ok ∧ RelV σ r (.bool (decide (m ≤ n))) := fun e => by
    cases hi with
    | none => exact ⟨_, e, .abool _⟩
    | some h =>
      have e1 : ifk (decide (h ≤ m)) (k (.bool false)) (k .abool) = .ok := e
      rw [ifk_eq] at e1
      split at e1
      · rename_i hc
        have hc : h ≤ m := by simpa using hc
        have := hh h rfl
        refine ⟨_, e1, ?_⟩
        rw [show decide (m ≤ n) = false from by simp; omega]
        exact .bool _
      · exact ⟨_, e1, .abool _⟩
  cases lo with
  | none => exact high e
  | some l =>
    have e1 : ifk (decide (m ≤ l)) (k (.bool true)) (Option.rec (motive := fun _ => R) (k .abool) (fun h => ifk (decide (h ≤ m)) (k (.bool false)) (k .abool)) hi) = .ok := e
    rw [ifk_eq] at e1
    split at e1
    · rename_i hc
      have hc : m ≤ l := by simpa using hc
      have := hl l rfl
      refine ⟨_, e1, ?_⟩
      rw [show decide (m ≤ n) = true from by simp; omega]
      exact .bool _
    · exact high e1
theorem binOpk_ok (h : RepC P σ s w) {op : BinOp} {t : TypeId} {x y : Operand} {a b : AV} {u v : Value} (ha : RelV σ a u) (hb : RelV σ b v) {k : AV → R} (e : binOpk P s op t x y a b k = .ok) :
    ∃ r z, k r = .ok ∧ RelV σ r z ∧ (eqGuard op t x y u v).run P w = .ok () w ∧ (binOp op t u v).run P w = .ok z w := by
  cases ha with
  | int q m =>
    have e0 : b.onInt (fun p n => intsk op q m p n k) (cmpUnk op q m b k) = .ok := e
    by_cases hbi : ∃ p n, b = .int p n
    · obtain ⟨p, n, rfl⟩ := hbi
      have e1 : intsk op q m p n k = .ok := e0
      cases hb
      obtain ⟨r, z, e2, hr, hrun⟩ := intsk_ok (σ := σ) (P := P) (w := w) t e1
      exact ⟨r, z, e2, hr, by rw [eqGuard_at_int]; rfl, hrun⟩
    · have e1 : cmpUnk op q m b k = .ok := by cases b <;> first | exact e0 | exact absurd ⟨_, _, rfl⟩ hbi
      cases b <;> first | (exact (no_ok (n := 62) e1).elim) | skip
      case aint p lo hi =>
        obtain ⟨hc, e2⟩ := ifk_no (show ifk (decide (q = p) && (isLeq op || isGtr op)) (cmpBd m lo hi fun r => k (Bool.rec r r.notB (isGtr op))) (.no 62) = .ok from e1)
        rw [Bool.and_eq_true, decide_eq_true_eq] at hc
        obtain ⟨rfl, hc⟩ := hc
        cases hb with
        | aint _ _ _ n hl hh =>
        obtain ⟨r, e3, hr⟩ := cmpBd_ok (σ := σ) hl hh e2
        have hop : op = .leq ∨ op = .gtr := by cases op <;> first | exact .inl rfl | exact .inr rfl | (cases hc; done)
        rcases hop with rfl | rfl
        · have hz : (binOp .leq t (.int q m) (.int q n)).run P w = .ok (.bool (decide (m ≤ n))) w := by
            classical
            have e9 : intsk .leq q m q n (fun r => if r = .bool (decide (m ≤ n)) then .ok else .no 0) = .ok := by
              show ifk (decide (q = q)) (cmpk (fun a b => decide (a ≤ b)) q m n (fun r => if r = .bool (decide (m ≤ n)) then .ok else .no 0)) (.no 59) = .ok
              rw [ifk_eq, if_pos (by simp)]
              show fB (decide (m ≤ n)) (fun b => if AV.bool b = .bool (decide (m ≤ n)) then .ok else .no 0) = .ok
              rw [fB_eq, if_pos rfl]
            obtain ⟨r, z, e10, hr, hrun⟩ := intsk_ok (σ := σ) (P := P) (w := w) t e9
            by_cases hrr : r = .bool (decide (m ≤ n))
            · subst hrr; cases hr; exact hrun
            · simp only [if_neg hrr] at e10; cases e10
          exact ⟨_, _, e3, hr, by rw [eqGuard_at_int]; rfl, hz⟩
        · have hz : (binOp .gtr t (.int q m) (.int q n)).run P w = .ok (.bool (decide (m > n))) w := by
            classical
            have e9 : intsk .gtr q m q n (fun r => if r = .bool (decide (m > n)) then .ok else .no 0) = .ok := by
              show ifk (decide (q = q)) (cmpk (fun a b => decide (a > b)) q m n (fun r => if r = .bool (decide (m > n)) then .ok else .no 0)) (.no 59) = .ok
              rw [ifk_eq, if_pos (by simp)]
              show fB (decide (m > n)) (fun b => if AV.bool b = .bool (decide (m > n)) then .ok else .no 0) = .ok
              rw [fB_eq, if_pos rfl]
            obtain ⟨r, z, e10, hr, hrun⟩ := intsk_ok (σ := σ) (P := P) (w := w) t e9
            by_cases hrr : r = .bool (decide (m > n))
            · subst hrr; cases hr; exact hrun
            · simp only [if_neg hrr] at e10; cases e10
          refine ⟨_, _, e3, ?_, by rw [eqGuard_at_int]; rfl, hz⟩
          have hb : decide (m > n) = !decide (m ≤ n) := by
            by_cases hmn : m ≤ n
            · rw [decide_eq_true hmn, decide_eq_false (by omega)]; rfl
            · rw [decide_eq_false hmn, decide_eq_true (by omega)]; rfl
          show RelV σ r.notB (.bool (decide (m > n)))
          rw [hb]
          cases hr with
          | top => exact .top _
          | bool => exact .bool _
          | abool => exact .abool _
  | str S =>
    obtain ⟨p, n, rfl, e1⟩ := AV.onStr_ok (show b.onStr (fun l' m' => strOpk op _ _ l' m' k) (.no 62) = .ok from e)
    cases hb with
    | str T =>
    obtain ⟨r, z, e2, hr, hrun⟩ := strOpk_ok (σ := σ) (P := P) (w := w) e1
    refine ⟨r, z, e2, hr, by rw [eqGuard_at_string]; rfl, ?_⟩
    have : binOp op t (.string S) (.string T) = Op.stringOp op S T := by cases op <;> rfl
    rw [this]; exact hrun
  | niliface =>
    have e0 : (Bool.rec (binOther P s op t .niliface b k) (ifk (isConstO x || isConstO y) (binOther P s op t .niliface b k) (.no 60)) b.isNilIface : R) = .ok := e
    cases hn : b.isNilIface
    · rw [hn] at e0
      obtain ⟨r, z, e2, hr, hrun, _⟩ := binOther_ok h .niliface hb rfl e0
      refine ⟨r, z, e2, hr, ?_, hrun⟩
      cases hb <;> first | (have hn' : true = false := hn; cases hn'; done) | skip
      case top v =>
        exfalso
        rcases eqOrk_ok e0 with ⟨_, e1⟩ | ⟨_, e1⟩ <;>
          (obtain ⟨D, hD, e1⟩ := tyk_ok (show tyk P t (fun D => eqD P s (eqF P s 7) t D .niliface .top _) = .ok from e1); cases D <;> exact no_ok e1)
      all_goals (cases op <;> rfl)
    · rw [hn] at e0
      have hbn : b = .niliface := by cases b <;> first | rfl | (cases hn; done)
      subst hbn
      cases hb
      obtain ⟨hc, e1⟩ := ifk_no e0
      have hg : eqGuard op t x y .nilIface .nilIface = pure () := by
        rw [Bool.or_eq_true] at hc
        cases x <;> cases y <;> first | (cases op <;> rfl; done) | (exfalso; rcases hc with hc | hc <;> cases hc)
      obtain ⟨r, z, e2, hr, hrun, _⟩ := binOther_ok h .niliface .niliface rfl e1
      exact ⟨r, z, e2, hr, by rw [hg]; rfl, hrun⟩
  | agg l c hl =>
    obtain ⟨hg, e1⟩ : P.eqGuardType P.depth t = false ∧ binOther P s op t (.agg l) b k = .ok := by
      have e0 : ifk (P.eqGuardType P.depth t) (.no 61) (binOther P s op t (.agg l) b k) = .ok := e
      rw [ifk_eq] at e0
      split at e0
      · exact (no_ok e0).elim
      · rename_i hh; exact ⟨by simpa using hh, e0⟩
    obtain ⟨r, z, e2, hr, hrun, _⟩ := binOther_ok h (.agg l c hl) hb rfl e1
    refine ⟨r, z, e2, hr, ?_, hrun⟩
    by_cases hv : ∃ d, v = .agg d
    · obtain ⟨d, rfl⟩ := hv
      exact run_eqGuard_agg w op t x y c d hg
    · have : eqGuard op t x y (.agg c) v = pure () := by cases op <;> first | rfl | (cases v <;> first | rfl | exact absurd ⟨_, rfl⟩ hv)
      rw [this]; rfl
  | top u =>
    exfalso
    rcases eqOrk_ok (show eqOrk op (eqk P s t .top b) k = .ok from e) with ⟨_, e1⟩ | ⟨_, e1⟩ <;> exact eqk_top e1
  | aint p lo hi n _ _ =>
    exfalso
    rcases eqOrk_ok (show eqOrk op (eqk P s t (.aint p lo hi) b) k = .ok from e) with ⟨_, e1⟩ | ⟨_, e1⟩ <;>
      (obtain ⟨D, hD, e1⟩ := tyk_ok (show tyk P t (fun D => eqD P s (eqF P s 7) t D (.aint p lo hi) b _) = .ok from e1); cases D <;> first | exact no_ok e1 | (cases b <;> exact no_ok e1))
  | _ =>
    obtain ⟨r, z, e2, hr, hrun, _⟩ := binOther_ok h (op := op) (t := t) (k := k) (by first | assumption | (constructor <;> assumption) | constructor) hb (by rfl) e
    exact ⟨r, z, e2, hr, by rw [eqGuard_plain (by simp) (by simp)]; rfl, hrun⟩
end
end Go.Ev

/- Operations: keys and maps. -/
namespace Go.Ev
open Go

/-- what is asked of a program -/
structure Fit (P : Program) : Prop where
  fields : ∀ t fs, t < P.types.size → P.underlying t = some (.struct fs) → ∀ f ∈ fs.toList, (P.info? f.type).isSome = true
  zero : ∀ t i z, t < P.types.size → P.info? t = some i → i.zero = some z → z.cells.size = i.size
  elem : ∀ t e i, t < P.types.size → P.underlying t = some (.slice e) → P.info? e = some i → i.zero.isSome = true
  name : ∀ (f : FuncId) (fn : Func), P.funcs[f]? = some fn → fn.body.isSome = true → (fn.name == "runtime.NumGoroutine") = false
  mixed : P.follows .mixedOrders = true

section
variable {P : Program} {σ : Sg} {s : St} {w : World}

-- alike
theorem beqall_ok {p : AV → AV → Bool} (hp : ∀ x y, p x y = true → x = y) : ∀ (a b : List AV), AV.beqF.all p a b = true → a = b
  | [], [], _ => rfl
  | [], _ :: _, h => by cases h
  | _ :: _, [], h => by cases h
  | x :: xs, y :: ys, h => by
    simp only [AV.beqF.all, Bool.and_eq_true] at h
    rw [hp _ _ h.1, beqall_ok hp xs ys h.2]
theorem nbeq {a b : Nat} (h : Nat.beq a b = true) : a = b := Nat.eq_of_beq_eq_true h
theorem abeq {a b : Adr} (h : a.beq b = true) : a = b := (Adr.beq_iff _ _).1 h
theorem beqF_ok (f : Nat) : ∀ x y, AV.beqF f x y = true → x = y := by
  induction f with
  | zero => intro x y h; cases h
  | succ f ih =>
    intro x y h
    have hfn : ∀ fn a b y, (∀ g c d, y ≠ .func g c d) → AV.beqF (f + 1) (.func fn a b) y = true → False := by
      intro fn a b y hy h
      cases fn <;> cases y <;> first | (have h' : false = true := h; cases h'; done) | exact hy _ _ _ rfl
    cases x <;> cases y <;> first
      | (have h' : false = true := h; cases h'; done)
      | rfl
      | (refine (hfn _ _ _ _ ?_ h).elim; intro _ _ _ hh; cases hh; done)
      | skip
    case aint p l1 h1 q l2 h2 =>
      have h' : (l1.isNone && h1.isNone && l2.isNone && h2.isNone && decide (p = q)) = true := h
      simp only [Bool.and_eq_true, Option.isNone_iff_eq_none, decide_eq_true_eq] at h'
      obtain ⟨⟨⟨⟨rfl, rfl⟩, rfl⟩, rfl⟩, rfl⟩ := h'
      rfl
    case bool a b => have h' : (a == b) = true := h; rw [beq_iff_eq] at h'; rw [h']
    case int p a q b =>
      have h' : (decide (p = q) && decide (a = b)) = true := h
      simp only [Bool.and_eq_true, decide_eq_true_eq] at h'
      rw [h'.1, h'.2]
    case str l a m b =>
      have h' : (Nat.beq l m && Nat.beq a b) = true := h
      rw [Bool.and_eq_true] at h'
      rw [nbeq h'.1, nbeq h'.2]
    case ptr a i b j =>
      have h' : (a.beq b && Nat.beq i j) = true := h
      rw [Bool.and_eq_true] at h'
      rw [abeq h'.1, nbeq h'.2]
    case slice a i l c b j m d =>
      have h' : (a.beq b && Nat.beq i j && Nat.beq l m && Nat.beq c d) = true := h
      simp only [Bool.and_eq_true] at h'
      rw [abeq h'.1.1.1, nbeq h'.1.1.2, nbeq h'.1.2, nbeq h'.2]
    case gslice a i l c b j m d =>
      have h' : (a.beq b && Nat.beq i j && Nat.beq l m && Nat.beq c d) = true := h
      simp only [Bool.and_eq_true] at h'
      rw [abeq h'.1.1.1, nbeq h'.1.1.2, nbeq h'.1.2, nbeq h'.2]
    case map a b => have h' : a.beq b = true := h; rw [abeq h']
    case func f1 a b g1 c d =>
      cases f1 <;> cases g1 <;> first | (have h' : false = true := h; cases h'; done) | skip
      rename_i f1 g1
      have h' : (Nat.beq f1 g1 && AV.beqF.all (AV.beqF f) a c && AV.beqF.all (AV.beqF f) b d) = true := h
      simp only [Bool.and_eq_true] at h'
      rw [nbeq h'.1.1, beqall_ok ih _ _ h'.1.2, beqall_ok ih _ _ h'.2]
    case iface t v u x =>
      have h' : (Nat.beq t u && AV.beqF f v x) = true := h
      rw [Bool.and_eq_true] at h'
      rw [nbeq h'.1, ih _ _ h'.2]
    case agg a b => have h' : AV.beqF.all (AV.beqF f) a b = true := h; rw [beqall_ok ih _ _ h']
    case tuple a b => have h' : AV.beqF.all (AV.beqF f) a b = true := h; rw [beqall_ok ih _ _ h']

theorem str_inj {x y : ByteArray} (hl : x.data.toList.length = y.data.toList.length) (hp : packL x.data.toList = packL y.data.toList) : x = y := by
  have := packL_inj hl hp
  cases x; cases y; simp at this; rw [this]
theorem key0_ok {x : AV} (hk : x.key0 = true) {u v : Value} (hu : RelV σ x u) (hv : RelV σ x v) : u = v ∧ ∀ n, Instr.sameBits n u v = true := by
  cases hu <;> first | (have hk' : false = true := hk; cases hk'; done) | skip
  case bool => cases hv; exact ⟨rfl, fun n => by cases n <;> simp [Instr.sameBits]⟩
  case int => cases hv; exact ⟨rfl, fun n => by cases n <;> simp [Instr.sameBits]⟩
  case str S =>
    generalize hl : S.data.toList.length = l at hv
    generalize hp : packL S.data.toList = p at hv
    cases hv with
    | str T =>
    have := str_inj hl hp
    subst this
    exact ⟨rfl, fun n => by cases n <;> simp [Instr.sameBits, beq_toListBytes]⟩
  case ptr a off c sh sz h =>
    cases hv with
    | ptr _ _ c' sh' sz' h' =>
    rw [h] at h'; cases h'
    exact ⟨rfl, fun n => by cases n <;> simp [Instr.sameBits]⟩
  case nilptr => cases hv; exact ⟨rfl, fun n => by cases n <;> simp [Instr.sameBits]⟩
  case niliface => cases hv; exact ⟨rfl, fun n => by cases n <;> simp [Instr.sameBits]⟩
theorem key1_ok {x : AV} (hk : x.key1 = true) {u v : Value} (hu : RelV σ x u) (hv : RelV σ x v) : u = v ∧ ∀ n, Instr.sameBits (n + 1) u v = true := by
  by_cases hi : ∃ t y, x = .iface t y
  · obtain ⟨t, y, rfl⟩ := hi
    cases hu with
    | iface _ _ u hu =>
    cases hv with
    | iface _ _ v hv =>
    obtain ⟨rfl, hb⟩ := key0_ok (x := y) hk hu hv
    exact ⟨rfl, fun n => by simp [Instr.sameBits, hb]⟩
  · have hk' : x.key0 = true := by cases x <;> first | exact hk | exact absurd ⟨_, _, rfl⟩ hi
    obtain ⟨h1, h2⟩ := key0_ok hk' hu hv
    exact ⟨h1, fun n => h2 _⟩
theorem keys1_ok {l : List AV} (hk : keys1 l = true) {u v : List Value} (hu : RelL σ l u) (hv : RelL σ l v) : u = v ∧ ∀ n, ((u.zip v).all fun (x, y) => Instr.sameBits (n + 1) x y) = true := by
  induction l generalizing u v with
  | nil => cases hu; cases hv; exact ⟨rfl, fun _ => rfl⟩
  | cons a l ih =>
    cases hu with
    | cons _ x _ xs hx hxs =>
    cases hv with
    | cons _ y _ ys hy hys =>
    have e : Bool.rec (motive := fun _ => Bool) false (keys1 l) a.key1 = true := hk
    cases ha : a.key1
    · rw [ha] at e; cases e
    · rw [ha] at e
      obtain ⟨rfl, h1⟩ := key1_ok ha hx hy
      obtain ⟨rfl, h2⟩ := ih e hxs hys
      exact ⟨rfl, fun n => by simp only [List.zip_cons_cons, List.all_cons, h1, Bool.true_and]; exact h2 n⟩
theorem key2_ok {x : AV} (hk : x.key2 = true) {u v : Value} (hu : RelV σ x u) (hv : RelV σ x v) : u = v ∧ ∀ n, Instr.sameBits (n + 2) u v = true := by
  by_cases hi : ∃ l, x = .agg l
  · obtain ⟨l, rfl⟩ := hi
    cases hu with
    | agg _ u hu =>
    cases hv with
    | agg _ v hv =>
    obtain ⟨h1, h2⟩ := keys1_ok (l := l) hk hu hv
    have h1 : u = v := by cases u; cases v; simpa using h1
    subst h1
    exact ⟨rfl, fun n => by simp only [Instr.sameBits, beq_self_eq_true, Bool.true_and]; exact h2 n⟩
  · have hk' : x.key1 = true := by cases x <;> first | exact hk | exact absurd ⟨_, rfl⟩ hi
    obtain ⟨h1, h2⟩ := key1_ok hk' hu hv
    exact ⟨h1, fun n => h2 _⟩

-- keys
def KeyOk (P : Program) (σ : Sg) (w : World) (d : Nat) (ih : TypeId → AV → R → R) : Prop :=
  ∀ t x u r, RelV σ x u → ih t x r = .ok → r = .ok ∧ ∀ b, (Instr.checkKey b d t u).run P w = .ok () w
theorem run_forUnit {α : Type} (w : World) (g : α → Sem Unit) : ∀ (l : List α), (∀ a ∈ l, (g a).run P w = .ok () w) →
    (forIn l PUnit.unit fun a _ => (do g a; pure (ForInStep.yield PUnit.unit) : Sem (ForInStep PUnit))).run P w = .ok PUnit.unit w
  | [], _ => rfl
  | a :: l, h => by
    simp only [List.forIn_cons, Sem.run_bind, h a (by simp), Result.andThen_ok, Sem.run_pure]
    exact run_forUnit w g l fun b hb => h b (by simp [hb])
theorem keyFields_ok {ih : TypeId → AV → R → R} {d : Nat} (hih : KeyOk P σ w d ih) {xs : List AV} {us : Array Value} (hx : RelL σ xs us.toList) {r : R} {fs : List Field} (e : keyFields P ih xs r fs = .ok) :
    r = .ok ∧ ∀ b, ∀ f ∈ fs, (if f.name ≠ "_" then (do Instr.checkKey b d f.type (← part f.type us f.offset)) else pure ()).run P w = .ok () w := by
  induction fs with
  | nil => exact ⟨e, by simp⟩
  | cons f fs ihf =>
    have e1 : ifk (f.name == "_") (keyFields P ih xs r fs) (partk P f.type xs f.offset fun x => ih f.type x (keyFields P ih xs r fs)) = .ok := e
    rw [ifk_eq] at e1
    split at e1
    · rename_i hn
      have hn : f.name = "_" := by simpa using hn
      obtain ⟨h1, h2⟩ := ihf e1
      refine ⟨h1, fun b g hg => ?_⟩
      rcases List.mem_cons.1 hg with rfl | hg
      · simp [hn]
      · exact h2 b g hg
    · rename_i hn
      have hn : f.name ≠ "_" := by simpa using hn
      obtain ⟨x, u, e2, hxu, r1⟩ := partk_ok (P := P) (w := w) hx e1
      obtain ⟨e3, r2⟩ := hih _ _ _ _ hxu e2
      obtain ⟨h1, h2⟩ := ihf e3
      refine ⟨h1, fun b g hg => ?_⟩
      rcases List.mem_cons.1 hg with rfl | hg
      · simp only [ne_eq, hn, not_false_eq_true, if_true, Sem.run_bind, r1, Result.andThen_ok]; exact r2 b
      · exact h2 b g hg
theorem keyF_ok (f : Nat) : ∀ d, f ≤ d → KeyOk P σ w d (keyF P f) := by
  induction f with
  | zero => intro d _ t x u r _ e; exact (no_ok e).elim
  | succ f ih =>
    intro d hd t x u r hx e
    obtain ⟨d, rfl⟩ : ∃ d', d = d' + 1 := ⟨d - 1, by omega⟩
    have hih := ih d (by omega)
    obtain ⟨D, hD, e1⟩ := tyk_ok (show tyk P t (fun D => keyD P (keyF P f) D x r) = .ok from e)
    have other : ∀ {r : R}, ifk x.isTop (.no 51) r = .ok → r = .ok := fun {r} h => by
      rw [ifk_eq] at h; split at h
      · exact (no_ok h).elim
      · exact h
    cases D
    case struct fs =>
      obtain ⟨xs, rfl, e2⟩ := AV.onAgg_ok (show x.onAgg (fun xs => keyFields P (keyF P f) xs r fs.toList) (.no 51) = .ok from e1)
      cases hx with
      | agg _ us hx =>
      obtain ⟨h1, h2⟩ := keyFields_ok hih hx e2
      refine ⟨h1, fun b => ?_⟩
      simp only [Instr.checkKey, Sem.run_bind, run_ty hD, Result.andThen_ok]
      rw [← Array.forIn_toList]
      have := run_forUnit (P := P) w (fun f : Field => if f.name ≠ "_" then (do Instr.checkKey b d f.type (← part f.type us f.offset)) else pure ()) fs.toList (h2 b)
      have hfun : (fun (f : Field) (_ : PUnit) => (if f.name ≠ "_" then (do let x ← part f.type us f.offset; Instr.checkKey b d f.type x; pure (ForInStep.yield PUnit.unit)) else pure (ForInStep.yield PUnit.unit) : Sem (ForInStep PUnit))) =
          fun f _ => (do (if f.name ≠ "_" then (do Instr.checkKey b d f.type (← part f.type us f.offset)) else pure ()); pure (ForInStep.yield PUnit.unit)) := by
        funext f _
        split <;> simp
      rw [hfun, this]
      rfl
    case array => exact (no_ok (n := 51) e1).elim
    case interface => exact (no_ok (n := 51) e1).elim
    all_goals
      refine ⟨other e1, fun b => ?_⟩
      simp only [Instr.checkKey, Sem.run_bind, run_ty hD, Result.andThen_ok]
      rfl

-- maps
theorem run_getObj {c : Nat} {O : Obj} (h : w.heap[c]? = some O) (hn : ∀ a b d, O ≠ .cells a b d) : (getObj c).run P w = .ok O w := by
  simp only [getObj, Sem.run, h]
theorem run_setObj {c : Nat} {O O' : Obj} (h : w.heap[c]? = some O) (hn : ∀ a b d, O ≠ .cells a b d) : (setObj c O').run P w = .ok () (w.upd c O') := by
  simp only [setObj, Sem.run, h]
  rfl
theorem objk_ok {a : Adr} {k : AObj → R} (e : objk s a k = .ok) : ∃ o, T.get a s.heap = some o ∧ k o = .ok := optk_ok e
theorem mapk_ok (h : RepC P σ s w) {a : Adr} {c sh sz : Nat} (ha : σ a = .at c sh sz) {k : List (AV × AV) → Nat → R} (e : mapk s a k = .ok) :
    ∃ es clk en, k es clk = .ok ∧ T.get a s.heap = some (.map es clk) ∧ w.heap[c]? = some (.map en clk) ∧ EsRel σ es en.toList ∧ (∀ e ∈ en.toList, e.born < clk) ∧ (en.toList.map (·.born)).Nodup := by
  obtain ⟨o, h1, e1⟩ := objk_ok e
  obtain ⟨es, clk, rfl, e2⟩ := AObj.onMap_ok e1
  obtain ⟨O, h2, h3⟩ := h.obj a c sh sz _ ha h1
  cases h3 with
  | map _ _ en _ _ he hb hn => exact ⟨es, clk, en, e2, h1, h2, he, hb, hn⟩

theorem sameNow_ok {D : TypeDesc} {t : TypeId} (hD : P.underlying t = some D) {u v : Value} {b b' : Bool} (h : Instr.sameNow D u v = some b) (hr : (Op.equal t u v).run P w = .ok b' w) : b = b' := by
  obtain ⟨n, hn⟩ : ∃ n, Op.maxDepth = n + 1 := ⟨9999, rfl⟩
  have this := hr
  rw [Op.equal, hn] at this
  clear hr
  cases D <;> cases u <;> cases v <;> first | (cases h; done) | skip
  all_goals
    simp only [Op.equalIn, Sem.run_bind, run_ty hD, Result.andThen_ok] at this
    simp only [Instr.sameNow] at h
  · injection h with h; subst h; simpa using this
  · split at h
    · rename_i hk; injection h with h; subst h; simpa [hk] using this
    · cases h
  · injection h with h; subst h; simpa using this

theorem findF_ok (h : RepC P σ s w) {t : TypeId} {D : TypeDesc} (hD : P.underlying t = some D) {x : AV} {u : Value} (hx : RelV σ x u) {found : Nat → AV × AV → R} {none : R} :
    ∀ {es : List (AV × AV)} {en : List MapEntry} (_ : EsRel σ es en) (i : Nat) (_ : findF es P s t x i found none = .ok),
      (∃ j y e, es[j]? = some y ∧ en[j]? = some e ∧ found (i + j) y = .ok ∧ RelV σ y.1 e.key ∧ RelV σ y.2 e.val ∧ (Instr.findAsking t u en i).run P w = .ok (some (i + j, e.val)) w ∧ (Instr.findNow D u en i = Option.none ∨ Instr.findNow D u en i = some (some (i + j, e.val)))) ∨
      (none = .ok ∧ (Instr.findAsking t u en i).run P w = .ok Option.none w ∧ (Instr.findNow D u en i = Option.none ∨ Instr.findNow D u en i = some Option.none)) := by
  intro es
  induction es with
  | nil => intro en he i e; cases he; exact .inr ⟨e, rfl, .inr rfl⟩
  | cons y es ih =>
    intro en he i e
    cases he with
    | cons k v en0 _ en hk hv he =>
    have e1 : eqk P s t x k (fun b => Bool.rec (fN (Nat.add i 1) fun i => findF es P s t x i found none) (found i (k, v)) b) = .ok := e
    obtain ⟨b, e2, hr⟩ := eqk_ok h hx hk e1
    cases b
    · have e3 : fN (Nat.add i 1) (fun i => findF es P s t x i found none) = .ok := e2
      rw [fN_eq] at e3
      have hstep : Instr.findNow D u (en0 :: en) i = Option.none ∨ Instr.findNow D u (en0 :: en) i = Instr.findNow D u en (i + 1) := by
        simp only [Instr.findNow]
        cases hn : Instr.sameNow D u en0.key with
        | none => exact .inl rfl
        | some b => have := sameNow_ok hD hn hr; subst this; exact .inr rfl
      have ha : (Instr.findAsking t u (en0 :: en) i).run P w = (Instr.findAsking t u en (i + 1)).run P w := by simp [Instr.findAsking, hr]
      rcases ih he (i + 1) e3 with ⟨j, y, e, h1, h2, h3, h4, h5, h6, h7⟩ | ⟨h1, h2, h3⟩
      · refine .inl ⟨j + 1, y, e, by simpa using h1, by simpa using h2, by rw [← Nat.add_assoc, Nat.add_right_comm]; exact h3, h4, h5, ?_, ?_⟩
        · rw [ha, h6]; congr 3; omega
        · have : i + (j + 1) = i + 1 + j := by omega
          rw [this]
          rcases hstep with hs | hs
          · exact .inl hs
          · rw [hs]; exact h7
      · refine .inr ⟨h1, by rw [ha]; exact h2, ?_⟩
        rcases hstep with hs | hs
        · exact .inl hs
        · rw [hs]; exact h3
    · refine .inl ⟨0, (k, v), en0, rfl, rfl, e2, hk, hv, by simp [Instr.findAsking, hr], ?_⟩
      simp only [Instr.findNow]
      cases hn : Instr.sameNow D u en0.key with
      | none => exact .inl rfl
      | some b => have := sameNow_ok hD hn hr; subst this; exact .inr rfl
theorem findk_ok (h : RepC P σ s w) {t : TypeId} {D : TypeDesc} (hD : P.underlying t = some D) {x : AV} {u : Value} (hx : RelV σ x u) {es : List (AV × AV)} {en : List MapEntry} (he : EsRel σ es en) {found : Nat → AV × AV → R} {none : R}
    (e : findk P s t x es found none = .ok) :
    (∃ j y e, es[j]? = some y ∧ en[j]? = some e ∧ found j y = .ok ∧ RelV σ y.1 e.key ∧ RelV σ y.2 e.val ∧ (Instr.findKey t u en).run P w = .ok (some (j, e.val)) w) ∨ (none = .ok ∧ (Instr.findKey t u en).run P w = .ok Option.none w) := by
  rcases findF_ok h hD hx he 0 e with ⟨j, y, e, h1, h2, h3, h4, h5, h6, h7⟩ | ⟨h1, h2, h3⟩
  · rw [Nat.zero_add] at h3 h6 h7
    refine .inl ⟨j, y, e, h1, h2, h3, h4, h5, ?_⟩
    simp only [Instr.findKey, Sem.run_bind, run_ty hD, Result.andThen_ok]
    rcases h7 with h7 | h7 <;> rw [h7]
    · exact h6
    · rfl
  · refine .inr ⟨h1, ?_⟩
    simp only [Instr.findKey, Sem.run_bind, run_ty hD, Result.andThen_ok]
    rcases h3 with h3 | h3 <;> rw [h3]
    · exact h2
    · rfl
theorem findk_ty {t : TypeId} {x : AV} {u : Value} {r : R} (_hx : RelV σ x u) (e : keyF P 8 t x r = .ok) : ∃ D, P.underlying t = some D := by
  obtain ⟨D, hD, _⟩ := tyk_ok (show tyk P t (fun D => keyD P (keyF P 7) D x r) = .ok from e)
  exact ⟨D, hD⟩

theorem lkNone_ok (σ : Sg) {e : TypeId} {ok : Bool} {k : AV → R} (h : lkNone P e ok k = .ok) :
    ∃ i z r, P.info? e = some i ∧ i.zero = some z ∧ k r = .ok ∧ RelV σ r (if ok then .tuple #[z, .bool false] else z) := by
  obtain ⟨i, z, a, hi, hz, e1, hr⟩ := zerok_ok σ (show zerok P e (fun z => Bool.rec (k z) (k (.tuple [z, .bool false])) ok) = .ok from h)
  cases ok
  · exact ⟨i, z, a, hi, hz, e1, hr⟩
  · exact ⟨i, z, _, hi, hz, e1, .tuple _ _ (.cons _ _ _ _ hr (.cons _ _ _ _ (.bool _) .nil))⟩
theorem lookupk_ok (h : RepC P σ s w) {t : TypeId} {x i : AV} {u v : Value} (hx : RelV σ x u) (hi : RelV σ i v) {ok : Bool} {k : AV → R} (e : lookupk P s t x i ok k = .ok) :
    ∃ r z, k r = .ok ∧ RelV σ r z ∧ (Instr.lookup t u v ok).run P w = .ok z w := by
  obtain ⟨d, hd, e1⟩ := tyk_ok e
  obtain ⟨q, el, rfl, e2⟩ := evonMap_ok e1
  obtain ⟨D, hD⟩ := findk_ty hi e2
  obtain ⟨e3, hk⟩ := keyF_ok (P := P) (σ := σ) (w := w) 8 10000 (by omega) _ _ _ _ hi e2
  cases hn : x.isNilMap
  · rw [hn] at e3
    obtain ⟨a, rfl, e4⟩ := AV.onMap_ok e3
    cases hx with
    | map _ c sh sz ha =>
    obtain ⟨es, clk, en, e5, _, h2, he, _, _⟩ := mapk_ok h ha (show mapk s a (fun es _ => findk P s q i es (fun _ v => lkSome ok k v.2) (lkNone P el ok k)) = .ok from e4)
    have hg := run_getObj (P := P) h2 (by intros; simp)
    rcases findk_ok h hD hi he e5 with ⟨j, y, e, h1, h3, h4, h5, h6, h7⟩ | ⟨h1, h3⟩
    · have e6 : (Bool.rec (k y.2) (k (.tuple [y.2, .bool true])) ok : R) = .ok := h4
      refine ⟨if ok then .tuple [y.2, .bool true] else y.2, if ok then .tuple #[e.val, .bool true] else e.val, by cases ok <;> exact e6, ?_, ?_⟩
      · cases ok
        · exact h6
        · exact .tuple _ _ (.cons _ _ _ _ h6 (.cons _ _ _ _ (.bool _) .nil))
      · simp [Instr.lookup, run_ty hd, hg, hk, h7]
    · obtain ⟨i0, z, r, hi0, hz, e6, hr⟩ := lkNone_ok σ h1
      exact ⟨r, _, e6, hr, by simp [Instr.lookup, run_ty hd, hg, hk, h3, run_zero hi0 hz]⟩
  · rw [hn] at e3
    have hxn : x = .nilmap := by cases x <;> first | rfl | (cases hn; done)
    subst hxn
    cases hx
    obtain ⟨i0, z, r, hi0, hz, e6, hr⟩ := lkNone_ok σ (show lkNone P el ok k = .ok from e3)
    have hf : (Instr.findKey q v []).run P w = .ok Option.none w := by simp [Instr.findKey, run_ty hD, Instr.findNow]
    exact ⟨r, _, e6, hr, by simp [Instr.lookup, run_ty hd, hk, hf, run_zero hi0 hz]⟩
end
end Go.Ev

/- Operations: changes of maps, lengths. -/
namespace Go.Ev
open Go

section
variable {P : Program} {σ : Sg} {s : St} {w : World}

theorem EsRel.append {x y : List (AV × AV)} {a b : List MapEntry} (h : EsRel σ x a) (h' : EsRel σ y b) : EsRel σ (x ++ y) (a ++ b) := by
  induction h with
  | nil => exact h'
  | cons k v e xs es hk hv t ih => exact .cons _ _ _ _ _ hk hv ih
theorem EsRel.length {x : List (AV × AV)} {a : List MapEntry} (h : EsRel σ x a) : x.length = a.length := by
  induction h with
  | nil => rfl
  | cons k v e xs es hk hv t ih => simp [ih]
theorem EsRel.modify {x : List (AV × AV)} {a : List MapEntry} (h : EsRel σ x a) {k v : AV} {u z : Value} (hk : RelV σ k u) (hv : RelV σ v z) (n : Nat) :
    EsRel σ (x.set n (k, v)) (a.modify n fun e => { e with key := u, val := z }) := by
  induction h generalizing n with
  | nil => simpa using EsRel.nil
  | cons k' v' e xs es hk' hv' t ih =>
    cases n with
    | zero => exact .cons k v { e with key := u, val := z } xs es hk hv t
    | succ n => exact .cons _ _ _ _ _ hk' hv' (ih n)
theorem EsRel.erase {x : List (AV × AV)} {a : List MapEntry} (h : EsRel σ x a) (n : Nat) : EsRel σ (x.eraseIdx n) (a.eraseIdx n) := by
  induction h generalizing n with
  | nil => simpa using EsRel.nil
  | cons k' v' e xs es hk' hv' t ih =>
    cases n with
    | zero => exact t
    | succ n => exact .cons _ _ _ _ _ hk' hv' (ih n)
theorem born_modify (l : List MapEntry) (n : Nat) (u z : Value) : (l.modify n fun e => { e with key := u, val := z }).map (·.born) = l.map (·.born) := by
  induction l generalizing n with
  | nil => simp
  | cons e l ih =>
    cases n with
    | zero => simp
    | succ n => simp [ih]
theorem removeNthk_ok {α : Type} {n : Nat} {l : List α} {k : List α → R} (h : removeNthk n l k = .ok) : k (l.eraseIdx n) = .ok := by
  induction n generalizing l k with
  | zero => cases l with
    | nil => exact (no_ok h).elim
    | cons x xs => exact h
  | succ n ih => cases l with
    | nil => exact (no_ok h).elim
    | cons x xs => exact ih (l := xs) (k := fun r => k (x :: r)) h

/-- a change, and nothing else -/
def Did (P : Program) (σ : Sg) (s : St) (w : World) (s' : St) (w' : World) : Prop := Rep P σ s' w' ∧ Ext σ s w σ s' w'

theorem muAt_ok (h : Rep P σ s w) {q : TypeId} {a : Adr} {c sh sz : Nat} (ha : σ a = .at c sh sz) {i x : AV} {v z : Value} (hi : RelV σ i v) (hx : RelV σ x z) {D : TypeDesc} (hD : P.underlying q = some D) {k : St → R} (e : muAt P s q i x k a = .ok) :
    ∃ s' w' en clk, k s' = .ok ∧ w.heap[c]? = some (.map en clk) ∧ Did P σ s w s' w' ∧
      (do match ← Instr.findKey q v en.toList with
          | some (i, _) => do
            let key ← Instr.keyThatStays (((en[i]?).map (·.key)).getD v) v
            setObj c (.map (en.modify i fun e => { e with key, val := z }) clk)
          | none => setObj c (.map (en.push { key := v, val := z, born := clk }) (clk + 1)) : Sem Unit).run P w = .ok () w' := by
  obtain ⟨es, clk, en, e1, h1, h2, he, hb, hn⟩ := mapk_ok h.toRepC ha (show mapk s a (fun es c => findk P s q i es (fun n y => ifk (AV.beqF 6 i y.1 && i.key2) (setNthk n (i, x) es fun es => putObjk s a (some (.map es c)) k) (.no 118)) (appk es [(i, x)] fun es => fN (Nat.succ c) fun c => putObjk s a (some (.map es c)) k)) = .ok from e)
  have hset : ∀ O, (setObj c O).run P w = .ok () (w.upd c O) := fun O => run_setObj h2 (by intros; simp)
  rcases findk_ok h.toRepC hD hi he e1 with ⟨j, y, en0, g1, g2, g3, g4, g5, g6⟩ | ⟨g1, g2⟩
  · obtain ⟨hc, e2⟩ := ifk_no g3
    rw [Bool.and_eq_true] at hc
    have hy := beqF_ok 6 _ _ hc.1
    rw [← hy] at g4
    obtain ⟨hkey, hsame⟩ := key2_ok hc.2 g4 hi
    obtain ⟨hlt, e3⟩ := setNthk_ok e2
    rw [putObjk_eq] at e3
    refine ⟨_, w.upd c (.map (en.modify j fun e => { e with key := v, val := z }) clk), en, clk, e3, h2, ⟨h.put ha ?_ (by rw [h1]; simp), .put h ha (by rw [h1]; simp)⟩, ?_⟩
    · have hm : (en.modify j fun e => { e with key := v, val := z }).toList = en.toList.modify j fun e => { e with key := v, val := z } := by simp
      refine .map _ _ _ _ _ (by rw [hm]; exact he.modify hi hx j) ?_ ?_
      · rw [hm]
        intro e' he'
        have : e'.born ∈ (en.toList.modify j fun e => { e with key := v, val := z }).map (·.born) := List.mem_map_of_mem he'
        rw [born_modify] at this
        obtain ⟨e'', h3, h4⟩ := List.mem_map.1 this
        rw [← h4]; exact hb _ h3
      · rw [hm, born_modify]; exact hn
    · have hg2 : en[j]? = some en0 := by simpa using g2
      have hk : (Instr.keyThatStays en0.key v).run P w = .ok v w := by simp only [Instr.keyThatStays, hsame 9998, if_true, Sem.run_pure]
      simp only [Sem.run_bind, g6, Result.andThen_ok, hg2, Option.map_some, Option.getD_some, hk, hset]
  · rw [appk_eq, fN_eq, putObjk_eq] at g1
    refine ⟨_, w.upd c (.map (en.push { key := v, val := z, born := clk }) (clk + 1)), en, clk, g1, h2, ⟨h.put ha ?_ (by rw [h1]; simp), .put h ha (by rw [h1]; simp)⟩, ?_⟩
    · have hm : (en.push { key := v, val := z, born := clk }).toList = en.toList ++ [{ key := v, val := z, born := clk }] := by simp
      refine .map _ _ _ _ _ (by rw [hm]; exact he.append (.cons _ _ { key := v, val := z, born := clk } _ _ hi hx .nil)) ?_ ?_
      · rw [hm]
        intro e' he'
        rcases List.mem_append.1 he' with h3 | h3
        · have := hb _ h3; exact Nat.lt_succ_of_lt this
        · rw [List.mem_singleton.1 h3]; exact Nat.lt_succ_self _
      · rw [hm, List.map_append, List.nodup_append]
        refine ⟨hn, by simp, ?_⟩
        intro b hb' b' hb''
        obtain ⟨e', h3, rfl⟩ := List.mem_map.1 hb'
        have h4 : b' = clk := by simpa using hb''
        have := hb _ h3
        omega
    · simp only [Sem.run_bind, g2, Result.andThen_ok, hset]
theorem mapUpdatek_ok (h : Rep P σ s w) {t : TypeId} {m i x : AV} {u v z : Value} (hm : RelV σ m u) (hi : RelV σ i v) (hx : RelV σ x z) {k : St → R} (e : mapUpdatek P s t m i x k = .ok) :
    ∃ s' w', k s' = .ok ∧ Did P σ s w s' w' ∧ (Instr.mapUpdate t u v z).run P w = .ok () w' := by
  obtain ⟨d, hd, e1⟩ := tyk_ok e
  obtain ⟨q, el, rfl, e2⟩ := evonMap_ok e1
  obtain ⟨D, hD⟩ := findk_ty hi e2
  obtain ⟨e3, hk⟩ := keyF_ok (P := P) (σ := σ) (w := w) 8 10000 (by omega) _ _ _ _ hi e2
  obtain ⟨a, rfl, e4⟩ := AV.onMap_ok e3
  cases hm with
  | map _ c sh sz ha =>
  obtain ⟨s', w', en, clk, e5, h2, hdid, hrun⟩ := muAt_ok h ha hi hx hD e4
  refine ⟨s', w', e5, hdid, ?_⟩
  simp only [Instr.mapUpdate, Sem.run_bind, run_ty hd, Result.andThen_ok, run_getObj h2 (by intros; simp), hk]
  rw [Sem.run_bind] at hrun
  exact hrun

theorem l1_ok {l : List AV} {k : AV → R} (e : l1 l k = .ok) : ∃ x, l = [x] ∧ k x = .ok := by
  match l, e with
  | [], e => exact (no_ok e).elim
  | [x], e => exact ⟨x, rfl, e⟩
  | _ :: _ :: _, e => exact (no_ok e).elim
theorem l2_ok {l : List AV} {k : AV → AV → R} (e : l2 l k = .ok) : ∃ x y, l = [x, y] ∧ k x y = .ok := by
  match l, e with
  | [], e => exact (no_ok e).elim
  | x :: r, e =>
    obtain ⟨y, rfl, e'⟩ := l1_ok (show l1 r (k x) = .ok from e)
    exact ⟨x, y, rfl, e'⟩
theorem rel1 {x : AV} {args : Array Value} (h : RelL σ [x] args.toList) : ∃ u, args = #[u] ∧ RelV σ x u := by
  generalize hl : args.toList = l at h
  cases h with
  | cons _ u _ _ hx t => cases t; exact ⟨u, by cases args; simp at hl; rw [hl], hx⟩
theorem rel2 {x y : AV} {args : Array Value} (h : RelL σ [x, y] args.toList) : ∃ u v, args = #[u, v] ∧ RelV σ x u ∧ RelV σ y v := by
  generalize hl : args.toList = l at h
  cases h with
  | cons _ u _ _ hx t => cases t with
    | cons _ v _ _ hy t => cases t; exact ⟨u, v, by cases args; simp at hl; rw [hl], hx, hy⟩
theorem nth0 {α : Type} {l : Array α} {k : α → R} (e : nthk 0 l.toList k = .ok) : ∃ x, l[0]? = some x ∧ k x = .ok := by
  obtain ⟨x, h, e⟩ := nthk_ok e
  exact ⟨x, by simpa using h, e⟩

theorem deletek_ok (h : Rep P σ s w) {ts : Array TypeId} {ty : TypeId} {m i : AV} {u v : Value} (hm : RelV σ m u) (hi : RelV σ i v) {k : AV → St → R} (e : deletek P s ts.toList m i k = .ok) :
    ∃ s' w', k (.tuple []) s' = .ok ∧ Did P σ s w s' w' ∧ (Builtin.delete_ ts ty #[u, v]).run P w = .ok (.tuple #[]) w' := by
  obtain ⟨t, ht, e1⟩ := nth0 e
  obtain ⟨d, hd, e2⟩ := tyk_ok e1
  cases d <;> cases m <;> first | (exact (no_ok (n := 106) e2).elim) | skip
  case map.map q el a =>
    have e2' : keyF P 8 q i (mapk s a fun es c => findk P s q i es (fun n _ => removeNthk n es fun es => putObjk s a (some (.map es c)) fun s => k (.tuple []) s) (k (.tuple []) s)) = .ok := e2
    obtain ⟨D, hD⟩ := findk_ty hi e2'
    obtain ⟨e3, hk⟩ := keyF_ok (P := P) (σ := σ) (w := w) 8 10000 (by omega) _ _ _ _ hi e2'
    cases hm with
    | map _ c sh sz ha =>
    obtain ⟨es, clk, en, e4, h1, h2, he, hb, hn⟩ := mapk_ok h.toRepC ha e3
    have hset : ∀ O, (setObj c O).run P w = .ok () (w.upd c O) := fun O => run_setObj h2 (by intros; simp)
    rcases findk_ok h.toRepC hD hi he e4 with ⟨j, y, en0, g1, g2, g3, g4, g5, g6⟩ | ⟨g1, g2⟩
    · have g3 := removeNthk_ok g3
      rw [putObjk_eq] at g3
      have hm : (en.eraseIdxIfInBounds j).toList = en.toList.eraseIdx j := by simp
      refine ⟨_, w.upd c (.map (en.eraseIdxIfInBounds j) clk), g3, ⟨h.put ha (.map _ _ _ _ _ (by rw [hm]; exact he.erase j) ?_ ?_) (by rw [h1]; simp), .put h ha (by rw [h1]; simp)⟩, ?_⟩
      · rw [hm]; intro e' he'; exact hb _ (List.mem_of_mem_eraseIdx he')
      · rw [hm]; exact ((List.eraseIdx_sublist _ _).map _).nodup hn
      · simp [Builtin.delete_, ht, run_ty hd, run_getObj h2 (by intros; simp), hk, g6, hset]
    · refine ⟨s, w, g1, ⟨h, .refl _ _ _⟩, ?_⟩
      have : w.upd c (.map en clk) = w := by
        unfold World.upd
        congr 1
        apply Array.ext'
        simp only [Array.toList_setIfInBounds]
        apply List.ext_getElem?
        intro j
        rw [List.getElem?_set]
        split
        · rename_i hj; subst hj
          have h' : w.heap.toList[c]? = some (.map en clk) := by simpa using h2
          rw [h']; simp [lt_of_get h2]
        · rfl
      simp [Builtin.delete_, ht, run_ty hd, run_getObj h2 (by intros; simp), hk, g2, hset, this]
  case map.nilmap q el =>
    have e2' : keyF P 8 q i (k (.tuple []) s) = .ok := e2
    obtain ⟨e3, hk⟩ := keyF_ok (P := P) (σ := σ) (w := w) 8 10000 (by omega) _ _ _ _ hi e2'
    cases hm
    exact ⟨s, w, e3, ⟨h, .refl _ _ _⟩, by simp [Builtin.delete_, ht, run_ty hd, hk]⟩

theorem clearOpk_ok (h : Rep P σ s w) {ts : Array TypeId} {ty : TypeId} {m : AV} {u : Value} (hm : RelV σ m u) {k : AV → St → R} (e : clearOpk s m k = .ok) (hts : ∃ t d, ts[0]? = some t ∧ P.underlying t = some d) :
    ∃ s' w', k (.tuple []) s' = .ok ∧ Did P σ s w s' w' ∧ (Builtin.clear_ ts ty #[u]).run P w = .ok (.tuple #[]) w' := by
  obtain ⟨t, d, ht, hd⟩ := hts
  cases m <;> first | (exact (no_ok (n := 107) e).elim) | skip
  case map a =>
    cases hm with
    | map _ c sh sz ha =>
    obtain ⟨es, clk, en, e4, h1, h2, he, hb, hn⟩ := mapk_ok h.toRepC ha (show mapk s a (fun _ c => putObjk s a (some (.map [] c)) fun s => k (.tuple []) s) = .ok from e)
    have hset : ∀ O, (setObj c O).run P w = .ok () (w.upd c O) := fun O => run_setObj h2 (by intros; simp)
    rw [putObjk_eq] at e4
    refine ⟨_, w.upd c (.map #[] clk), e4, ⟨h.put ha (.map _ _ _ _ _ .nil (by simp) (by simp)) (by rw [h1]; simp), .put h ha (by rw [h1]; simp)⟩, ?_⟩
    cases d <;> simp [Builtin.clear_, ht, run_ty hd, run_getObj h2 (by intros; simp), hset]
  case nilmap =>
    cases hm
    exact ⟨s, w, e, ⟨h, .refl _ _ _⟩, by cases d <;> simp [Builtin.clear_, ht, run_ty hd]⟩
end
end Go.Ev

/- Operations: lengths, places, parts. -/
namespace Go.Ev
open Go

section
variable {P : Program} {σ : Sg} {s : St} {w : World}

theorem evsli_ok {d : TypeDesc} {k0 : R} {k1 k2 : TypeId → R} {k3 : Nat → TypeId → R} {k4 : R} (e : d.evsli k0 k1 k2 k3 k4 = .ok) :
    (d = .string ∧ k0 = .ok) ∨ (∃ t, d = .slice t ∧ k1 t = .ok) ∨ (∃ t, d = .pointer t ∧ k2 t = .ok) ∨ (∃ n t, d = .array n t ∧ k3 n t = .ok) ∨ k4 = .ok := by
  cases d <;> first | exact .inl ⟨rfl, e⟩ | exact .inr (.inl ⟨_, rfl, e⟩) | exact .inr (.inr (.inl ⟨_, rfl, e⟩)) | exact .inr (.inr (.inr (.inl ⟨_, _, rfl, e⟩))) | exact .inr (.inr (.inr (.inr e)))
theorem evix_ok {d : TypeDesc} {k0 : Nat → TypeId → R} {k1 : TypeId → R} {k2 k4 : R} (e : d.evix k0 k1 k2 k4 = .ok) :
    (∃ n t, d = .array n t ∧ k0 n t = .ok) ∨ (∃ t, d = .slice t ∧ k1 t = .ok) ∨ (d = .string ∧ k2 = .ok) ∨ k4 = .ok := by
  cases d <;> first | exact .inr (.inr (.inl ⟨rfl, e⟩)) | exact .inr (.inl ⟨_, rfl, e⟩) | exact .inl ⟨_, _, rfl, e⟩ | exact .inr (.inr (.inr e))

theorem lenBd_ok (h : RepC P σ s w) {ts : Array TypeId} {ty t : TypeId} (ht : ts[0]? = some t) {d : TypeDesc} (hd : P.underlying t = some d) {x : AV} {u : Value} (hx : RelV σ x u) {k : AV → R} (e : lenBd P s x k d = .ok) :
    ∃ r z, k r = .ok ∧ RelV σ r z ∧ (Builtin.len_ ts ty #[u]).run P w = .ok z w := by
  cases d <;> first | (exact (no_ok (n := 109) e).elim) | skip
  case array n el => exact ⟨_, _, e, .int _ _, by simp [Builtin.len_, ht, run_ty hd, goInt]⟩
  case pointer el =>
    obtain ⟨d, hd2, e1⟩ := tyk_ok (show tyk P el (fun d => d.evonArray (fun n _ => lbInt k n) (.no 108)) = .ok from e)
    obtain ⟨n, el2, rfl, e2⟩ := evonArray_ok e1
    exact ⟨_, _, e2, .int _ _, by simp [Builtin.len_, ht, run_ty hd, run_ty hd2, goInt]⟩
  case map q el =>
    have e0 : (Bool.rec (x.onMap (fun a => mapk s a fun es _ => lenk es fun n => lbInt k n) (.no 109)) (lbInt k 0) x.isNilMap : R) = .ok := e
    cases hn : x.isNilMap
    · rw [hn] at e0
      obtain ⟨a, rfl, e1⟩ := AV.onMap_ok e0
      cases hx with
      | map _ c sh sz ha =>
      obtain ⟨es, clk, en, e2, h1, h2, he, hb, hn⟩ := mapk_ok h ha e1
      rw [lenk_eq] at e2
      have hl : es.length = en.size := by rw [he.length]; simp
      exact ⟨_, _, e2, .int _ _, by simp [Builtin.len_, ht, run_ty hd, run_getObj h2 (by intros; simp), goInt, hl]⟩
    · rw [hn] at e0
      have hxn : x = .nilmap := by cases x <;> first | rfl | (cases hn; done)
      subst hxn
      cases hx
      exact ⟨_, _, e0, .int _ _, by simp [Builtin.len_, ht, run_ty hd, goInt]⟩
theorem zOr_ok {x : AV} {y d : R} (e : zOr x y d = .ok) : (x = .zslice ∧ y = .ok) ∨ d = .ok := by
  cases x <;> first | exact .inl ⟨rfl, e⟩ | exact .inr e
theorem lenBk_ok (h : RepC P σ s w) {ts : Array TypeId} {ty : TypeId} {x : AV} {u : Value} (hx : RelV σ x u) {k : AV → R} (e : lenBk P s ts.toList x k = .ok) :
    ∃ r z, k r = .ok ∧ RelV σ r z ∧ (Builtin.len_ ts ty #[u]).run P w = .ok z w := by
  obtain ⟨t, ht, e1⟩ := nth0 e
  obtain ⟨d, hd, e2⟩ := tyk_ok e1
  rcases evsli_ok e2 with ⟨rfl, e3⟩ | ⟨el, rfl, e3⟩ | ⟨el, rfl, e3⟩ | ⟨n, el, rfl, e3⟩ | e3
  · obtain ⟨l, n, rfl, e4⟩ := AV.onStr_ok e3
    cases hx with
    | str S => exact ⟨_, _, e4, .int _ _, by simp [Builtin.len_, ht, run_ty hd, goInt]⟩
  · rcases AV.sl_ok e3 with ⟨rfl, e4⟩ | ⟨a, o, l, c, rfl, e4⟩ | ⟨a, o, l, c, rfl, e4⟩ | e4
    · cases hx; exact ⟨_, _, e4, .int _ _, by simp [Builtin.len_, ht, run_ty hd, goInt]⟩
    · cases hx; exact ⟨_, _, e4, .int _ _, by simp [Builtin.len_, ht, run_ty hd, goInt]⟩
    · cases hx; exact ⟨_, _, e4, .int _ _, by simp [Builtin.len_, ht, run_ty hd, goInt]⟩
    · rcases zOr_ok e4 with ⟨rfl, e5⟩ | e5
      · cases hx; exact ⟨_, _, e5, .int _ _, by simp [Builtin.len_, ht, run_ty hd, goInt]⟩
      · exact (no_ok e5).elim
  · exact lenBd_ok h ht hd hx e3
  · exact lenBd_ok h ht hd hx e3
  · exact lenBd_ok h ht hd hx e3
theorem capBk_ok {ts : Array TypeId} {ty : TypeId} {x : AV} {u : Value} (hx : RelV σ x u) {k : AV → R} (e : capBk P ts.toList x k = .ok) :
    ∃ r z, k r = .ok ∧ RelV σ r z ∧ (Builtin.cap_ ts ty #[u]).run P w = .ok z w := by
  obtain ⟨t, ht, e1⟩ := nth0 e
  obtain ⟨d, hd, e2⟩ := tyk_ok e1
  cases d <;> cases x <;> first | (exact (no_ok (n := 110) e2).elim) | skip
  · cases hx; exact ⟨_, _, e2, .int _ _, by simp [Builtin.cap_, ht, run_ty hd, goInt]⟩
  · cases hx; exact ⟨_, _, e2, .int _ _, by simp [Builtin.cap_, ht, run_ty hd, goInt]⟩
  · cases hx; exact ⟨_, _, e2, .int _ _, by simp [Builtin.cap_, ht, run_ty hd, goInt]⟩
theorem extremek_ok {ts : Array TypeId} {ty : TypeId} {mx : Bool} {l : List AV} {us : Array Value} (hl : RelL σ l us.toList) {k : AV → R} (e : extremek mx l k = .ok) :
    ∃ r z, k r = .ok ∧ RelV σ r z ∧ (if mx then Builtin.max_ ts ty us else Builtin.min_ ts ty us).run P w = .ok z w := by
  generalize hul : us.toList = ul at hl
  have key : ∀ (r : List AV) (rs : List Value) (_ : RelL σ r rs) (q : IntKind) (n : Int) (_ : (List.rec (motive := fun _ => Int → R) (fun n => k (.int q n)) (fun v _ ih n => (match v with
      | .int _ m => Bool.rec (ih n) (ih m) (Bool.rec (decide (m < n)) (decide (n < m)) mx)
      | _ => .no 111)) r n : R) = .ok), ∃ m, k (.int q m) = .ok ∧ (List.foldlM (if mx then Builtin.max2 else Builtin.min2) (.int q n) rs).run P w = .ok (.int q m) w := by
    intro r
    induction r with
    | nil => intro rs hr q n e; cases hr; exact ⟨n, e, rfl⟩
    | cons v r ih =>
      intro rs hr q n e
      cases hr with
      | cons _ u _ us hv hr =>
      cases v <;> first | (exact (no_ok (n := 111) e).elim) | skip
      case int q' m =>
        cases hv
        cases mx
        · have e' : (Bool.rec (List.rec (motive := fun _ => Int → R) (fun n => k (.int q n)) (fun v _ ih n => (match v with
            | .int _ m => Bool.rec (ih n) (ih m) (Bool.rec (decide (m < n)) (decide (n < m)) false)
            | _ => .no 111)) r n) (List.rec (motive := fun _ => Int → R) (fun n => k (.int q n)) (fun v _ ih n => (match v with
            | .int _ m => Bool.rec (ih n) (ih m) (Bool.rec (decide (m < n)) (decide (n < m)) false)
            | _ => .no 111)) r m) (decide (m < n)) : R) = .ok := e
          by_cases hlt : m < n
          · simp only [hlt, decide_true] at e'
            obtain ⟨z, h1, h2⟩ := ih us hr q m e'
            exact ⟨z, h1, by simpa [Builtin.min2, hlt] using h2⟩
          · simp only [hlt, decide_false] at e'
            obtain ⟨z, h1, h2⟩ := ih us hr q n e'
            exact ⟨z, h1, by simpa [Builtin.min2, hlt] using h2⟩
        · have e' : (Bool.rec (List.rec (motive := fun _ => Int → R) (fun n => k (.int q n)) (fun v _ ih n => (match v with
            | .int _ m => Bool.rec (ih n) (ih m) (Bool.rec (decide (m < n)) (decide (n < m)) true)
            | _ => .no 111)) r n) (List.rec (motive := fun _ => Int → R) (fun n => k (.int q n)) (fun v _ ih n => (match v with
            | .int _ m => Bool.rec (ih n) (ih m) (Bool.rec (decide (m < n)) (decide (n < m)) true)
            | _ => .no 111)) r m) (decide (n < m)) : R) = .ok := e
          by_cases hlt : n < m
          · simp only [hlt, decide_true] at e'
            obtain ⟨z, h1, h2⟩ := ih us hr q m e'
            exact ⟨z, h1, by simpa [Builtin.max2, hlt] using h2⟩
          · simp only [hlt, decide_false] at e'
            obtain ⟨z, h1, h2⟩ := ih us hr q n e'
            exact ⟨z, h1, by simpa [Builtin.max2, hlt] using h2⟩
  cases hl with
  | nil => exact (no_ok (n := 112) e).elim
  | cons v u r rs hv hr =>
    cases v <;> first | (exact (no_ok (n := 112) e).elim) | skip
    case int q n =>
      cases hv
      obtain ⟨m, h1, h2⟩ := key r rs hr q n e
      refine ⟨_, _, h1, .int q m, ?_⟩
      cases mx
      · simpa [Builtin.min_, hul] using h2
      · simpa [Builtin.max_, hul] using h2
theorem sliceDatak_ok {ts : Array TypeId} {ty : TypeId} {x : AV} {u : Value} (hx : RelV σ x u) {k : AV → R} (e : sliceDatak x k = .ok) :
    ∃ r z, k r = .ok ∧ RelV σ r z ∧ (Builtin.unsafeSliceData_ ts ty #[u]).run P w = .ok z w := by
  cases hx <;> first | (exact (no_ok (n := 117) e).elim) | skip
  case nilslice => exact ⟨_, _, e, .nilptr, rfl⟩
  case slice a off len cap c sh sz ha =>
    have e1 : ifk (Nat.beq cap 0) (.no 116) (k (.ptr a off)) = .ok := e
    rw [ifk_eq] at e1; split at e1
    · exact (no_ok e1).elim
    · rename_i hc
      have hc : cap ≠ 0 := fun hh => hc (by rw [hh]; rfl)
      exact ⟨_, _, e1, .ptr _ _ _ _ _ ha, by change Sem.run P (ite (cap ≠ 0) _ _) w = _; rw [if_pos hc]; rfl⟩
  case gslice a off len es c sh sz cap p ha hc hl he hp =>
    have e1 : ifk (Nat.beq len 0) (.no 116) (k (.ptr a off)) = .ok := e
    rw [ifk_eq] at e1; split at e1
    · exact (no_ok e1).elim
    · rename_i hc'
      have hc' : len ≠ 0 := fun hh => hc' (by rw [hh]; rfl)
      have hc0 : cap ≠ 0 := by omega
      rcases hp with hp | hp
      · subst hp; exact ⟨_, _, e1, .ptr _ _ _ _ _ ha, by change Sem.run P (ite (cap ≠ 0) _ _) w = _; rw [if_pos hc0]; rfl⟩
      · exact absurd hp hc0

-- places
theorem fieldAtk_ok {t : TypeId} {i : Nat} {k : Field → R} (e : fieldAtk P t i k = .ok) : ∃ fs f, P.underlying t = some (.struct fs) ∧ fs[i]? = some f ∧ k f = .ok := by
  obtain ⟨d, hd, e1⟩ := tyk_ok e
  obtain ⟨fs, rfl, e2⟩ := evonStruct_ok e1
  obtain ⟨f, hf, e3⟩ := optk_ok e2
  exact ⟨fs, f, hd, hf, e3⟩
theorem fieldAddrk_ok {t : TypeId} {a : AV} {u : Value} (ha : RelV σ a u) {i : Nat} {k : AV → R} (e : fieldAddrk P t a i k = .ok) :
    ∃ r z, k r = .ok ∧ RelV σ r z ∧ (Instr.fieldAt t u i).run P w = .ok z w := by
  obtain ⟨p, off, rfl, e1⟩ := AV.onPtr_ok e
  obtain ⟨fs, f, hd, hf, e2⟩ := fieldAtk_ok e1
  obtain ⟨i0, hi, e3⟩ := szk_ok e2
  cases ha with
  | ptr _ _ c sh sz h =>
  rw [ifk_eq] at e3; split at e3
  · exact (no_ok e3).elim
  · rename_i hz
    have hz : i0.size ≠ 0 := fun hh => hz (by rw [hh]; rfl)
    rw [fN_eq] at e3
    refine ⟨_, _, e3, .ptr _ _ _ _ _ h, ?_⟩
    simp only [Instr.fieldAt, Sem.run_bind, run_ty hd, Result.andThen_ok, hf, Instr.sureAddr, Sem.run_pure, fieldPlace, run_sz hi, Sem.run_ite, hz, if_false, Addr.add_mk]
    simp [Nat.add_assoc]
theorem iaTo_ok {e : TypeId} {p : Adr} {off i len : Nat} {k : AV → R} (h : iaTo P e p off i len k = .ok) : ∃ i0, P.info? e = some i0 ∧ i < len ∧ k (.ptr p (off + i * i0.size)) = .ok := by
  obtain ⟨hb, h1⟩ := ifk_no h
  obtain ⟨i0, hi, h2⟩ := szk_ok h1
  rw [fN_eq] at h2
  exact ⟨i0, hi, by rw [Nat.blt_eq] at hb; exact hb, h2⟩
theorem indexAddrk_ok {t : TypeId} {x i : AV} {u v : Value} (hx : RelV σ x u) (hi : RelV σ i v) {k : AV → R} (e : indexAddrk P t x i k = .ok) :
    ∃ r z, k r = .ok ∧ RelV σ r z ∧ (Instr.indexAt t u v).run P w = .ok z w := by
  obtain ⟨d, hd, e1⟩ := tyk_ok e
  obtain ⟨q, n, rfl, e2⟩ := natk_ok e1
  cases hi
  have hn : ∀ len : Nat, n < len → (0 ≤ (Int.ofNat n) ∧ (Int.ofNat n) < (len : Int)) := fun len hl => ⟨Int.natCast_nonneg _, Int.ofNat_lt.2 hl⟩
  rcases evix_ok e2 with ⟨m, el, rfl, e3⟩ | ⟨el, rfl, e3⟩ | ⟨rfl, e3⟩ | e3
  · obtain ⟨p, off, rfl, e4⟩ := AV.onPtr_ok e3
    obtain ⟨i0, hi0, hl, e5⟩ := iaTo_ok e4
    cases hx with
    | ptr _ _ c sh sz h =>
    refine ⟨_, _, e5, .ptr _ _ _ _ _ h, ?_⟩
    simp only [Instr.indexAt, asIntOf, Sem.run_bind, Sem.run_pure, Result.andThen_ok, run_ty hd, Instr.sureAddr, Sem.run_ite, hn _ hl, and_self, if_true, run_sz hi0, Addr.add_mk]
    simp [Nat.add_assoc]
  · rcases AV.sl_ok e3 with ⟨rfl, e4⟩ | ⟨a, o, l, c, rfl, e4⟩ | ⟨a, o, l, c, rfl, e4⟩ | e4
    · exact (no_ok e4).elim
    · obtain ⟨i0, hi0, hl, e5⟩ := iaTo_ok e4
      cases hx with
      | slice _ _ _ _ c sh sz h =>
      refine ⟨_, _, e5, .ptr _ _ _ _ _ h, ?_⟩
      simp only [Instr.indexAt, asIntOf, Sem.run_bind, Sem.run_pure, Result.andThen_ok, run_ty hd, Instr.sureAddr, Sem.run_ite, hn _ hl, and_self, if_true, run_sz hi0, Addr.add_mk]
      simp [Nat.add_assoc]
    · obtain ⟨i0, hi0, hl, e5⟩ := iaTo_ok e4
      cases hx with
      | gslice _ _ _ _ c sh sz cap p h hc hlc he hp =>
      rcases hp with hp | hp
      · subst hp
        refine ⟨_, _, e5, .ptr _ _ _ _ _ h, ?_⟩
        simp only [Instr.indexAt, asIntOf, Sem.run_bind, Sem.run_pure, Result.andThen_ok, run_ty hd, Instr.sureAddr, Sem.run_ite, hn _ hl, and_self, if_true, run_sz hi0, Addr.add_mk]
        simp [Nat.add_assoc]
      · omega
    · exact (no_ok e4).elim
  · exact (no_ok e3).elim
  · exact (no_ok e3).elim
theorem indexk_ok {t : TypeId} {x i : AV} {u v : Value} (hx : RelV σ x u) (hi : RelV σ i v) {k : AV → R} (e : indexk P t x i k = .ok) :
    ∃ r z, k r = .ok ∧ RelV σ r z ∧ (Instr.index t u v).run P w = .ok z w := by
  obtain ⟨d, hd, e1⟩ := tyk_ok e
  obtain ⟨q, n, rfl, e2⟩ := natk_ok e1
  cases hi
  have hn : ∀ len : Nat, n < len → (0 ≤ (Int.ofNat n) ∧ (Int.ofNat n) < (len : Int)) := fun len hl => ⟨Int.natCast_nonneg _, Int.ofNat_lt.2 hl⟩
  rcases evix_ok e2 with ⟨m, el, rfl, e3⟩ | ⟨el, rfl, e3⟩ | ⟨rfl, e3⟩ | e3
  · obtain ⟨cs, rfl, e4⟩ := AV.onAgg_ok e3
    obtain ⟨hb, e5⟩ := ifk_no (show ifk (Nat.blt n m) (szk P el fun z => fN (Nat.mul n z) fun o => partk P el cs o k) (.no 86) = .ok from e4)
    obtain ⟨i0, hi0, e6⟩ := szk_ok e5
    rw [fN_eq] at e6
    rw [Nat.blt_eq] at hb
    cases hx with
    | agg _ us hx =>
    obtain ⟨r, z, e7, hr, hrun⟩ := partk_ok (P := P) (w := w) hx e6
    refine ⟨r, z, e7, hr, ?_⟩
    have hrun' : (part el us (n * i0.size)).run P w = .ok z w := hrun
    simp only [Instr.index, asIntOf, Sem.run_bind, Sem.run_pure, Result.andThen_ok, run_ty hd, Sem.run_ite, hn _ hb, and_self, if_true, run_sz hi0]
    simpa using hrun'
  · exact (no_ok e3).elim
  · obtain ⟨l, m, rfl, e4⟩ := AV.onStr_ok e3
    obtain ⟨hb, e5⟩ := ifk_no (show ifk (Nat.blt n l) (fN (Nat.mod (Nat.div m (Nat.pow 256 n)) 256) fun b => k (.int .u8 (.ofNat b))) (.no 87) = .ok from e4)
    rw [fN_eq] at e5
    rw [Nat.blt_eq] at hb
    cases hx with
    | str S =>
    have hlt : n < S.size := by simpa using hb
    have hget : S.data.toList[n]? = some S[n] := by
      have : n < S.data.toList.length := hb
      rw [List.getElem?_eq_getElem this]; rfl
    have hp := packL_get _ _ _ hget
    refine ⟨_, .int .u8 (S[n].toNat : Int), e5, ?_, ?_⟩
    · have : Nat.mod (Nat.div (packL S.data.toList) (Nat.pow 256 n)) 256 = S[n].toNat := hp
      rw [this]; exact .int _ _
    · have hS : (if 0 ≤ Int.ofNat n then S[(Int.ofNat n).toNat]? else none) = some S[n] := by
        have h0 : 0 ≤ Int.ofNat n := Int.natCast_nonneg n
        rw [if_pos h0]
        show S[n]? = _
        simp [hlt]
      simp only [Instr.index, asIntOf, Sem.run_bind, Sem.run_pure, Result.andThen_ok, run_ty hd]
      rw [hS]
      rfl
  · exact (no_ok e3).elim
end
end Go.Ev
