/- The evaluator's operations agree with the machine's: slices and maps. -/
import Derived.Test.YtlohkhfopnkcmaaGreatDoorEvC
import Derived.Laws.Append
import Derived.Laws.BytesString

/- Operations: slices of slices and texts. -/
namespace Go.Ev
open Go

section
variable {P : Program} {σ : Sg} {s : St} {w : World}

def IsNat (A : Act) (o : Option Operand) (d n : Nat) : Prop := match o with
  | none => n = d
  | some x => ∃ q, A.eval x = .int q (.ofNat n)
def KnowsO (σ : Sg) (fr : T AV) (A : Act) (o : Option Operand) : Prop := ∀ x, o = some x → Knows σ fr A x
theorem onatk_ok (h : RepC P σ s w) {A : Act} {fr : T AV} {o : Option Operand} (hf : KnowsO σ fr A o) {d : Nat} {k : Nat → R} (e : onatk P fr o d k = .ok) : ∃ n, k n = .ok ∧ IsNat A o d n := by
  cases o with
  | none => exact ⟨d, e, rfl⟩
  | some x =>
    obtain ⟨v, e1, hr⟩ := opk_ok h (hf x rfl) (show opk x P fr (fun a => natk a k) = .ok from e)
    obtain ⟨q, n, rfl, e2⟩ := natk_ok e1
    generalize hu : A.eval x = u at hr
    cases hr
    exact ⟨n, e2, q, hu⟩
theorem sliceBound_ok {q : IntKind} {n y : Nat} {c : BoundsCode} (h : n ≤ y) : (Instr.sliceBound (.int q (n : Int)) y c).run P w = .ok n w := by
  have h1 : 0 ≤ (n : Int) ∧ (n : Int) ≤ (y : Int) := ⟨Int.natCast_nonneg _, Int.ofNat_le.2 h⟩
  simp only [Instr.sliceBound, asIntOf, Sem.run_bind, Sem.run_pure, Result.andThen_ok, h1, and_self, if_true]
  rfl
theorem sliceBounds_ok {A : Act} {lo hi mx : Option Operand} {iss : Bool} {len cap a b c : Nat} (h1 : IsNat A lo 0 a) (h2 : IsNat A hi len b) (h3 : IsNat A mx cap c) (bad : badMax hi mx = false) (hab : a ≤ b) (hbc : b ≤ c) (hc : c ≤ cap) :
    (Instr.sliceBounds iss len cap (lo.map A.eval) (hi.map A.eval) (mx.map A.eval)).run P w = .ok (a, b, c) w := by
  cases mx with
  | none =>
    have h3 : c = cap := h3
    subst h3
    cases hi with
    | none =>
      have h2 : b = len := h2
      subst h2
      cases lo with
      | none => have h1 : a = 0 := h1; subst h1; simp [Instr.sliceBounds]
      | some x => obtain ⟨q, hq⟩ := h1; simp [Instr.sliceBounds, hq, sliceBound_ok hab]
    | some y =>
      obtain ⟨q', hq'⟩ := h2
      cases lo with
      | none => have h1 : a = 0 := h1; subst h1; simp [Instr.sliceBounds, hq', sliceBound_ok hbc]
      | some x => obtain ⟨q, hq⟩ := h1; simp [Instr.sliceBounds, hq, hq', sliceBound_ok hab, sliceBound_ok hbc]
  | some z =>
    obtain ⟨q3, hq3⟩ := h3
    cases hi with
    | none => cases bad
    | some y =>
      obtain ⟨q', hq'⟩ := h2
      cases lo with
      | none => have h1 : a = 0 := h1; subst h1; simp [Instr.sliceBounds, hq', hq3, sliceBound_ok hbc, sliceBound_ok hc]
      | some x => obtain ⟨q, hq⟩ := h1; simp [Instr.sliceBounds, hq, hq', hq3, sliceBound_ok hab, sliceBound_ok hbc, sliceBound_ok hc]

theorem slTo_ok {z : Nat} {p : Adr} {off a b c : Nat} {k : AV → R} (e : slTo z p off a b c k = .ok) : k (.slice p (if c = a ∨ c < a then off else off + a * z) (b - a) (c - a)) = .ok := by
  unfold slTo at e
  rw [fN_eq, fN_eq, ifk_eq] at e
  split at e
  · rename_i h
    have h := nbeq h
    have h' : c - a = 0 := h
    rw [if_pos (by omega)]
    exact e
  · rename_i h
    have h' : ¬ c - a = 0 := fun hh => h (by show Nat.beq (c - a) 0 = true; rw [hh]; rfl)
    rw [fN_eq] at e
    rw [if_neg (by omega)]
    exact e

theorem slEx_ok (h : RepC P σ s w) {A : Act} {fr : T AV} {lo hi mx : Option Operand} (f1 : KnowsO σ fr A lo) (f2 : KnowsO σ fr A hi) (f3 : KnowsO σ fr A mx) (bad : badMax hi mx = false) {e : TypeId} {p : Adr} {off len cap c0 sh sz : Nat} (ha : σ p = .at c0 sh sz) {k : AV → R}
    (h0 : slEx P e mx fr lo hi p off len cap k = .ok) : ∃ i a b c, P.info? e = some i ∧ (∀ iss, (Instr.sliceBounds iss len cap (lo.map A.eval) (hi.map A.eval) (mx.map A.eval)).run P w = .ok (a, b, c) w) ∧
      ∃ r, k r = .ok ∧ RelV σ r (.slice (some (if c = a then ⟨c0, sh + off, none⟩ else (⟨c0, sh + off, none⟩ : Addr).add (a * i.size))) (b - a) (c - a)) := by
  obtain ⟨a, e1, n1⟩ := onatk_ok h f1 h0
  obtain ⟨b, e2, n2⟩ := onatk_ok h f2 e1
  obtain ⟨c, e3, n3⟩ := onatk_ok h f3 e2
  obtain ⟨hb, e4⟩ := ifk_no e3
  simp only [Bool.and_eq_true] at hb
  have h1 := Nat.le_of_ble_eq_true hb.1.1
  have h2 := Nat.le_of_ble_eq_true hb.1.2
  have h3 := Nat.le_of_ble_eq_true hb.2
  obtain ⟨i, hi, e5⟩ := szk_ok e4
  have e6 := slTo_ok e5
  refine ⟨i, a, b, c, hi, fun iss => sliceBounds_ok n1 n2 n3 bad h1 h2 h3, _, e6, ?_⟩
  by_cases hca : c = a
  · rw [if_pos (.inl hca), if_pos hca]; exact .slice _ _ _ _ _ _ _ ha
  · rw [if_neg (by omega), if_neg hca, Addr.add_mk, Nat.add_assoc]; exact .slice _ _ _ _ _ _ _ ha

theorem slicek_ok (h : RepC P σ s w) {A : Act} {fr : T AV} {lo hi mx : Option Operand} (f1 : KnowsO σ fr A lo) (f2 : KnowsO σ fr A hi) (f3 : KnowsO σ fr A mx) {t : TypeId} {x : AV} {u : Value} (hx : RelV σ x u) {k : AV → R}
    (e : slicek P s t fr x lo hi mx k = .ok) : ∃ r z, k r = .ok ∧ RelV σ r z ∧ (Instr.sliceAt t u (lo.map A.eval) (hi.map A.eval) (mx.map A.eval)).run P w = .ok z w := by
  unfold slicek at e
  rw [ifk_eq] at e
  split at e
  · exact (no_ok e).elim
  rename_i hbad
  have bad : badMax hi mx = false := by simpa using hbad
  obtain ⟨d, hd, e1⟩ := tyk_ok e
  rcases evsli_ok e1 with ⟨rfl, e2⟩ | ⟨el, rfl, e2⟩ | ⟨el, rfl, e2⟩ | ⟨n, el, rfl, e2⟩ | e2
  · -- a text
    cases mx with
    | some m => exact (no_ok (n := 70) e2).elim
    | none =>
    obtain ⟨l, n, rfl, e3⟩ := AV.onStr_ok (show x.onStr (fun l n => onatk P fr lo 0 fun a => onatk P fr hi l fun b => ifk (Nat.ble a b && Nat.ble b l) (fN (Nat.sub b a) fun m => fN (Nat.mod (Nat.div n (Nat.pow 256 a)) (Nat.pow 256 m)) fun n => k (.str m n)) (.no 71)) (.no 79) = .ok from e2)
    cases hx with
    | str S =>
    obtain ⟨a, e4, n1⟩ := onatk_ok h f1 e3
    obtain ⟨b, e5, n2⟩ := onatk_ok h f2 e4
    obtain ⟨hb, e6⟩ := ifk_no e5
    rw [Bool.and_eq_true] at hb
    have h1 := Nat.le_of_ble_eq_true hb.1
    have h2 := Nat.le_of_ble_eq_true hb.2
    rw [fN_eq, fN_eq] at e6
    have hl : S.data.toList.length = S.size := by simp
    rw [hl] at n2 h2
    have hb := sliceBounds_ok (P := P) (w := w) (A := A) (lo := lo) (hi := hi) (mx := none) (iss := false) (len := S.size) (cap := S.size) n1 n2 rfl bad h1 h2 (Nat.le_refl _)
    refine ⟨_, .string (S.extract a b), e6, ?_, ?_⟩
    · have hd2 : (S.extract a b).data.toList = (S.data.toList.drop a).take (b - a) := by
        rw [ByteArray.data_extract, Array.toList_extract, List.extract_eq_take_drop]
      apply str_of
      · rw [hd2]; simp; show _ = b - a; omega
      · rw [hd2, packL_take _ _ (by simp; omega), packL_drop _ _ (by rw [hl]; omega)]
        rfl
    · simp only [Option.map_none] at hb ⊢
      simp [Instr.sliceAt, Instr.slice, run_ty hd, hb]
  · -- a slice
    rcases AV.sl_ok e2 with ⟨rfl, e3⟩ | ⟨p, off, len, cap, rfl, e3⟩ | ⟨p, off, len, es, rfl, e3⟩ | e3
    · cases hx
      obtain ⟨i, hi0, e4⟩ := szk_ok e3
      obtain ⟨a, e5, n1⟩ := onatk_ok h f1 e4
      obtain ⟨b, e6, n2⟩ := onatk_ok h f2 e5
      obtain ⟨c, e7, n3⟩ := onatk_ok h f3 e6
      obtain ⟨hb, e8⟩ := ifk_no e7
      simp only [Bool.and_eq_true] at hb
      have h1 := nbeq hb.1.1
      have h2 := nbeq hb.1.2
      have h3 := nbeq hb.2
      subst h1; subst h2; subst h3
      have hb := sliceBounds_ok (P := P) (w := w) (iss := true) n1 n2 n3 bad (Nat.le_refl _) (Nat.le_refl _) (Nat.le_refl _)
      exact ⟨_, _, e8, .nilslice, by simp [Instr.sliceAt, Instr.slice, run_ty hd, hb, run_sz hi0]⟩
    · cases hx with
      | slice _ _ _ _ c0 sh sz ha =>
      obtain ⟨i, a, b, c, hi0, hb, r, e4, hr⟩ := slEx_ok h f1 f2 f3 bad ha e3
      refine ⟨r, _, e4, hr, ?_⟩
      simp only [Instr.sliceAt, Instr.slice, Sem.run_bind, run_ty hd, Result.andThen_ok, hb, run_sz hi0, Sem.run_pure]
      by_cases hca : c = a
      · simp [hca]
      · simp [hca]
    · cases hx with
      | gslice _ _ _ _ c0 sh sz cap q ha hc hlc he hp =>
      obtain ⟨i, hi0, e4⟩ := szk_ok e3
      obtain ⟨hz, e5⟩ := ifk_no e4
      rw [Bool.and_eq_true] at hz
      have hz1 := nbeq hz.1
      subst hz1
      obtain ⟨a, e6, n1⟩ := onatk_ok h f1 e5
      obtain ⟨b, e7, n2⟩ := onatk_ok h f2 e6
      cases mx with
      | none =>
        obtain ⟨hab, e8⟩ := ifk_no (show ifk (Nat.ble a b) (cellsk s p fun _ _ _ vs => lenk vs fun f => ifk (Nat.ble (Nat.add off (Nat.mul b i.size)) f) (fN (Nat.sub b a) fun l => fN (Nat.add off (Nat.mul a i.size)) fun off => k (.gslice p off l i.size)) (.no 77)) (.no 76) = .ok from e7)
        have hab := Nat.le_of_ble_eq_true hab
        obtain ⟨o, ho, e9⟩ := objk_ok e8
        obtain ⟨el', g, fz, vs, rfl, e10⟩ := AObj.onCells_ok e9
        rw [lenk_eq] at e10
        obtain ⟨hf, e11⟩ := ifk_no e10
        have hf : off + b * i.size ≤ vs.length := Nat.le_of_ble_eq_true hf
        rw [fN_eq, fN_eq] at e11
        obtain ⟨cs, fr', g2, hs, hlen, _, _, _, _, _⟩ := h.cells ha ho
        have hbc : b ≤ cap := by
          have : b * i.size ≤ cap * i.size := by omega
          exact Nat.le_of_mul_le_mul_right this he
        have hb := sliceBounds_ok (P := P) (w := w) (iss := true) (cap := cap) n1 n2 (mx := none) rfl bad hab hbc (Nat.le_refl _)
        refine ⟨_, .slice (some (if cap = a then q else q.add (a * i.size))) (b - a) (cap - a), e11, ?_, ?_⟩
        · refine .gslice _ _ _ _ c0 sh sz (cap - a) _ ha ?_ (by show b - a ≤ cap - a; omega) he ?_
          · show (cap - a) * i.size + (sh + (off + a * i.size)) = sz
            have : cap * i.size = (cap - a) * i.size + a * i.size := by rw [← Nat.add_mul]; congr 1; omega
            omega
          · by_cases hca : cap = a
            · exact .inr (by omega)
            · rw [if_neg hca]
              rcases hp with hp | hp
              · subst hp; exact .inl (by rw [Addr.add_mk, Nat.add_assoc]; rfl)
              · exact .inr (by omega)
        · simp only [Instr.sliceAt, Instr.slice, Sem.run_bind, run_ty hd, Result.andThen_ok, hb, run_sz hi0, Sem.run_pure]
          by_cases hca : cap = a
          · simp [hca]
          · simp [hca]
      | some m =>
        obtain ⟨v, e8, hv⟩ := opk_ok h (f3 m rfl) (show opk m P fr (fun m => natk m fun c => ifk (Nat.ble a b && Nat.ble b c) (cellsk s p fun _ _ _ vs => lenk vs fun f => ifk (Nat.ble (Nat.add off (Nat.mul c i.size)) f) (ifk (Nat.beq a c) (k .zslice) (slTo i.size p off a b c k)) (.no 75)) (.no 76)) = .ok from e7)
        obtain ⟨q3, c, rfl, e9⟩ := natk_ok e8
        have n3 : IsNat A (some m) cap c := by
          generalize hu : A.eval m = u at hv
          cases hv
          exact ⟨q3, hu⟩
        obtain ⟨hab, e10⟩ := ifk_no e9
        rw [Bool.and_eq_true] at hab
        have h1 := Nat.le_of_ble_eq_true hab.1
        have h2 := Nat.le_of_ble_eq_true hab.2
        obtain ⟨o, ho, e11⟩ := objk_ok e10
        obtain ⟨el', g, fz, vs, rfl, e12⟩ := AObj.onCells_ok e11
        rw [lenk_eq] at e12
        obtain ⟨hf, e13⟩ := ifk_no e12
        have hf : off + c * i.size ≤ vs.length := Nat.le_of_ble_eq_true hf
        obtain ⟨cs, fr', g2, hs, hlen, _, _, _, _, _⟩ := h.cells ha ho
        have hcc : c ≤ cap := by
          have : c * i.size ≤ cap * i.size := by omega
          exact Nat.le_of_mul_le_mul_right this he
        have hb := sliceBounds_ok (P := P) (w := w) (iss := true) (cap := cap) n1 n2 (mx := some m) n3 bad h1 h2 hcc
        rw [ifk_eq] at e13
        split at e13
        · rename_i hac
          have hac := nbeq hac
          subst hac
          have hba : b = a := by omega
          subst hba
          refine ⟨_, .slice (some q) 0 0, e13, .zslice _, ?_⟩
          simp only [Instr.sliceAt, Instr.slice, Sem.run_bind, run_ty hd, Result.andThen_ok, hb, run_sz hi0, Sem.run_pure]
          simp
        rename_i hac
        have hac : ¬ c = a := fun hh => hac (by subst hh; exact Nat.beq_refl _)
        have e14 := slTo_ok e13
        have hq : q = ⟨c0, sh + off, none⟩ := by
          rcases hp with hp | hp
          · exact hp
          · omega
        subst hq
        refine ⟨_, .slice (some ((⟨c0, sh + off, none⟩ : Addr).add (a * i.size))) (b - a) (c - a), e14, ?_, ?_⟩
        · rw [if_neg (by omega), Addr.add_mk, Nat.add_assoc]
          exact .slice _ _ _ _ _ _ _ ha
        · simp only [Instr.sliceAt, Instr.slice, Sem.run_bind, run_ty hd, Result.andThen_ok, hb, run_sz hi0, Sem.run_pure]
          simp [hac]
    · rcases zOr_ok e3 with ⟨rfl, e4⟩ | e4
      · cases hx with
        | zslice q =>
        obtain ⟨i, hi0, e5⟩ := szk_ok (show szk P el (fun _ => onatk P fr lo 0 fun a => onatk P fr hi 0 fun b => onatk P fr mx 0 fun c => ifk (Nat.beq a 0 && Nat.beq b 0 && Nat.beq c 0) (k .zslice) (.no 72)) = .ok from e4)
        obtain ⟨a, e5, n1⟩ := onatk_ok h f1 e5
        obtain ⟨b, e6, n2⟩ := onatk_ok h f2 e5
        obtain ⟨c, e7, n3⟩ := onatk_ok h f3 e6
        obtain ⟨hb, e8⟩ := ifk_no e7
        simp only [Bool.and_eq_true] at hb
        have h1 := nbeq hb.1.1
        have h2 := nbeq hb.1.2
        have h3 := nbeq hb.2
        subst h1; subst h2; subst h3
        have hb := sliceBounds_ok (P := P) (w := w) (iss := true) n1 n2 n3 bad (Nat.le_refl _) (Nat.le_refl _) (Nat.le_refl _)
        exact ⟨_, _, e8, .zslice q, by simp [Instr.sliceAt, Instr.slice, run_ty hd, hb, run_sz hi0]⟩
      · exact (no_ok e4).elim
  · -- a pointer to an array
    obtain ⟨d, hd2, e3⟩ := tyk_ok e2
    obtain ⟨n, el2, rfl, e4⟩ := evonArray_ok e3
    obtain ⟨p, off, rfl, e5⟩ := AV.onPtr_ok (show x.onPtr (fun p off => slEx P el2 mx fr lo hi p off n n k) (.no 79) = .ok from e4)
    cases hx with
    | ptr _ _ c0 sh sz ha =>
    obtain ⟨i, a, b, c, hi0, hb, r, e6, hr⟩ := slEx_ok h f1 f2 f3 bad ha e5
    refine ⟨r, _, e6, hr, ?_⟩
    simp only [Instr.sliceAt, Instr.slice, Sem.run_bind, run_ty hd, run_ty hd2, asAddr, Result.andThen_ok, hb, run_sz hi0, Sem.run_pure]
  · -- an array's place
    obtain ⟨p, off, rfl, e5⟩ := AV.onPtr_ok (show x.onPtr (fun p off => slEx P el mx fr lo hi p off n n k) (.no 79) = .ok from e2)
    cases hx with
    | ptr _ _ c0 sh sz ha =>
    obtain ⟨i, a, b, c, hi0, hb, r, e6, hr⟩ := slEx_ok h f1 f2 f3 bad ha e5
    refine ⟨r, _, e6, hr, ?_⟩
    simp only [Instr.sliceAt, Instr.sureAddr, Sem.run_bind, run_ty hd, Result.andThen_ok, hb, run_sz hi0, Sem.run_pure]
  · exact (no_ok e2).elim
end
end Go.Ev

/- Operations: bytes and texts, appending. -/
namespace Go.Ev
open Go

section
variable {P : Program} {σ : Sg} {s : St} {w : World}

def byteAV (b : UInt8) : AV := .int .u8 (.ofNat b.toNat)
def byteVal (b : UInt8) : Value := .int .u8 (b.toNat : Int)
theorem bytes_rel (σ : Sg) (l : List UInt8) : RelL σ (l.map byteAV) (l.map byteVal) := by
  induction l with
  | nil => exact .nil
  | cons b l ih => exact .cons _ _ _ _ (.int _ _) ih
theorem bytesF_eq (n : Nat) : ∀ (L : List UInt8) (k : List AV → R), n ≤ L.length → bytesF n (packL L) k = k ((L.take n).map byteAV) := by
  induction n with
  | zero => intro L k _; rfl
  | succ n ih =>
    intro L k h
    cases L with
    | nil => simp at h
    | cons b L =>
      show fN (Nat.mod (packL (b :: L)) 256) (fun c => fN (Nat.div (packL (b :: L)) 256) fun m => bytesF n m fun r => k (.int .u8 (.ofNat c) :: r)) = _
      have hb := b.toNat_lt
      have m1 : Nat.mod (packL (b :: L)) 256 = b.toNat := by show packL (b :: L) % 256 = _; rw [packL_cons]; omega
      have d1 : Nat.div (packL (b :: L)) 256 = packL L := by show packL (b :: L) / 256 = _; rw [packL_cons]; omega
      rw [fN_eq, fN_eq, m1, d1, ih L _ (by simpa using h)]
      rfl
theorem textk_ok {l : List AV} {vs : List Value} (h : RelL σ l vs) {k : Nat → Nat → R} (e : textk l k = .ok) : ∃ bs : List UInt8, vs = bs.map byteVal ∧ k bs.length (packL bs) = .ok := by
  induction l generalizing vs k with
  | nil => cases h; exact ⟨[], rfl, e⟩
  | cons v l ih =>
    cases h with
    | cons _ u _ us hv ht =>
    obtain ⟨bs, rfl, e1⟩ := ih ht (k := textStep v k) e
    cases hv with
    | int q z =>
      cases q <;> first | (exact (no_ok (n := 64) e1).elim) | skip
      cases z with
      | negSucc z => exact (no_ok (n := 64) e1).elim
      | ofNat b =>
        have e2 : fN (Nat.add bs.length 1) (fun n => fN (Nat.add b (Nat.mul 256 (packL bs))) fun m => ifk (Nat.blt b 256) (k n m) (.no 64)) = .ok := e1
        rw [fN_eq, fN_eq] at e2
        obtain ⟨hb, e3⟩ := ifk_no e2
        rw [Nat.blt_eq] at hb
        have hbb : (UInt8.ofNat b).toNat = b := by simp; omega
        refine ⟨UInt8.ofNat b :: bs, ?_, ?_⟩
        · simp only [List.map_cons, byteVal, hbb]; rfl
        · rw [packL_cons, hbb]; exact e3
    | _ => exact (no_ok (n := 64) e1).elim

theorem foldl_push (bs : List UInt8) : ∀ acc : ByteArray, ((bs.map fun b => (b.toNat : Int)).foldl (fun r n => r.push (UInt8.ofNat n.toNat)) acc).data.toList = acc.data.toList ++ bs := by
  induction bs with
  | nil => intro acc; simp
  | cons b bs ih => intro acc; simp only [List.map_cons, List.foldl_cons]; rw [ih]; simp
theorem run_toString {a : Addr} {len cap : Nat} {bs : List UInt8} (h : (loadCells a len).run P w = .ok (bs.map byteVal).toArray w) :
    ∃ S : ByteArray, S.data.toList = bs ∧ (Conv.bytesToString (.slice (some a) len cap)).run P w = .ok (.string S) w := by
  have h2 : (bs.map byteVal) = (bs.map fun b => (b.toNat : Int)).map (Value.int .u8) := by rw [List.map_map]; rfl
  rw [h2] at h
  exact ⟨_, by rw [foldl_push]; simp, run_bytesToString w a len cap _ h⟩

theorem AV.onStr_z {v : AV} {k : Nat → Nat → R} {y : R} {n : Nat} (h : v.onStr k (zOr v y (.no n)) = .ok) : (∃ l m, v = .str l m ∧ k l m = .ok) ∨ (v = .zslice ∧ y = .ok) := by
  cases v <;> first | exact .inl ⟨_, _, rfl, h⟩ | exact .inr ⟨rfl, h⟩ | (have h' : R.no n = R.ok := h; cases h')
theorem lenOfk_ok {a : AV} {u : Value} (ha : RelV σ a u) {k : Nat → R} (e : lenOfk a k = .ok) : ∃ n, k n = .ok ∧ (∀ w, (Builtin.lenOf u).run P w = .ok n w) ∧
    ((∃ S : ByteArray, u = .string S ∧ n = S.size ∧ a = .str S.data.toList.length (packL S.data.toList)) ∨ (∃ p c, u = .slice p n c)) := by
  rcases AV.sl_ok e with ⟨rfl, e1⟩ | ⟨p, o, l, c, rfl, e1⟩ | ⟨p, o, l, c, rfl, e1⟩ | e1
  · cases ha; exact ⟨0, e1, fun _ => rfl, .inr ⟨_, _, rfl⟩⟩
  · cases ha; exact ⟨l, e1, fun _ => rfl, .inr ⟨_, _, rfl⟩⟩
  · cases ha; exact ⟨l, e1, fun _ => rfl, .inr ⟨_, _, rfl⟩⟩
  · rcases AV.onStr_z e1 with ⟨l, n, rfl, e2⟩ | ⟨rfl, e2⟩
    · cases ha with
      | str S =>
      have : S.data.toList.length = S.size := by simp
      rw [this] at e2
      exact ⟨S.size, e2, fun _ => rfl, .inl ⟨S, rfl, rfl, rfl⟩⟩
    · cases ha; exact ⟨0, e2, fun _ => rfl, .inr ⟨_, _, rfl⟩⟩
theorem firstk_ok (h : RepC P σ s w) {size n : Nat} {a : AV} {u : Value} (ha : RelV σ a u) (hn : ∀ S : ByteArray, u = .string S → n ≤ S.size) {k : List AV → R} (e : firstk s size n a k = .ok) :
    ∃ l vs, k l = .ok ∧ l.length = n * size ∧ RelL σ l vs ∧ ∀ d, (Builtin.firstCells size n u).run P (w.draw d) = .ok vs.toArray (w.draw d) := by
  rcases AV.sl_ok e with ⟨rfl, e1⟩ | ⟨p, o, l, c, rfl, e1⟩ | ⟨p, o, l, c, rfl, e1⟩ | e1
  · obtain ⟨hz, e2⟩ := ifk_no e1
    have hz := nbeq hz
    subst hz
    cases ha
    exact ⟨[], [], e2, by simp, .nil, fun _ => rfl⟩
  · rw [fN_eq] at e1
    cases ha with
    | slice _ _ _ _ c0 sh sz hp =>
    obtain ⟨r, vs, e2, hl, hr, _, hrun⟩ := loadk_ok h hp e1
    exact ⟨r, vs, e2, hl, hr, hrun⟩
  · rw [fN_eq] at e1
    cases ha with
    | gslice _ _ _ _ c0 sh sz cap q hp hc hlc he hq =>
    obtain ⟨r, vs, e2, hl, hr, hle, hrun⟩ := loadk_ok h hp e1
    rcases hq with hq | hq
    · subst hq; exact ⟨r, vs, e2, hl, hr, hrun⟩
    · -- nothing can be loaded
      subst hq
      have h0 : n * size = 0 := by have : Nat.mul n size = n * size := rfl; omega
      have hr0 : r = [] := List.length_eq_zero_iff.1 (hl.trans h0)
      subst hr0
      cases hr
      refine ⟨[], [], e2, hl, .nil, fun d => ?_⟩
      simp only [Builtin.firstCells, h0]
      rfl
  · rcases AV.onStr_z e1 with ⟨l, m, rfl, e2⟩ | ⟨rfl, e2⟩
    rotate_left
    · obtain ⟨hz, e3⟩ := ifk_no e2
      have hz := nbeq hz
      subst hz
      cases ha
      exact ⟨[], [], e3, by simp, .nil, fun _ => by simp only [Builtin.firstCells, Nat.zero_mul]; rfl⟩
    obtain ⟨hz, e3⟩ := ifk_no e2
    have hz := nbeq hz
    subst hz
    cases ha with
    | str S =>
    have hn := hn S rfl
    rw [bytesF_eq _ _ _ (by simpa using hn)] at e3
    refine ⟨_, _, e3, by simp; omega, bytes_rel σ _, fun d => ?_⟩
    simp only [Builtin.firstCells, Sem.run_pure]
    congr 1
    apply Array.ext'
    simp only [Array.toList_map, ByteArray.data_extract, Array.toList_extract, List.extract_eq_take_drop, List.drop_zero, Nat.sub_zero]
    rfl
end
end Go.Ev

/- Operations: conversions, copies. -/
namespace Go.Ev
open Go

/-- a new state of all -/
def Did2 (P : Program) (σ : Sg) (s : St) (w : World) (τ : Sg) (s' : St) (w' : World) : Prop := Rep P τ s' w' ∧ Ext σ s w τ s' w'

section
variable {P : Program} {σ : Sg} {s : St} {w : World}

theorem Did2.refl (h : Rep P σ s w) : Did2 P σ s w σ s w := ⟨h, .refl _ _ _⟩
theorem Did2.trans {τ υ : Sg} {t r : St} {u x : World} (h : Did2 P σ s w τ t u) (h' : Did2 P τ t u υ r x) : Did2 P σ s w υ r x := ⟨h'.1, h.2.trans h'.2⟩
theorem Did2.draw (h : Rep P σ s w) (n : Nat) : Did2 P σ s w σ s (w.draw n) := ⟨h.draw n, .draw _ _ _ _⟩

theorem modify_last {α : Type} (l : List α) (x : α) (f : α → α) : (l ++ [x]).modify l.length f = l ++ [f x] := by
  induction l with
  | nil => rfl
  | cons y l ih => simp [ih]
theorem modify_push {α : Type} (h : Array α) (x : α) (f : α → α) : (h.push x).modify h.size f = h.push (f x) := by
  apply Array.ext'
  simp only [Array.toList_modify, Array.toList_push]
  have := modify_last h.toList x f
  simpa using this
theorem run_stringToBytes (w : World) (e : TypeId) (S : ByteArray) : ∃ d cap, S.size ≤ cap ∧ (Conv.stringToBytes e S).run P w = .ok (.slice (some ⟨w.heap.size, 0, none⟩) S.size cap)
    ((w.draw d).push (.cells ((S.data.toList.map byteVal).toArray ++ Array.replicate (cap - S.size) (.int .u8 0)) e (cap, cap + 1))) := by
  have hc : S.size ≤ (Question.appendCap S.size 0 e).cut (w.tape w.drawn (.appendCap S.size 0 e)) := by simp only [Question.cut]; omega
  generalize hcap : (Question.appendCap S.size 0 e).cut (w.tape w.drawn (.appendCap S.size 0 e)) = cap at hc
  refine ⟨w.drawn + 1, cap, hc, ?_⟩
  have hmap : (S.data.map fun b => Value.int .u8 (b.toNat : Int)) = (S.data.toList.map byteVal).toArray := by
    apply Array.ext'; simp only [Array.toList_map]; rfl
  have hsz : ((S.data.toList.map byteVal).toArray ++ Array.replicate (cap - S.size) (Value.int .u8 0)).size = cap := by
    simp only [Array.size_append, List.size_toArray, List.length_map, Array.size_replicate]
    have : S.data.toList.length = S.size := by simp
    omega
  simp only [Conv.stringToBytes, Sem.run_bind, run_choose, Question.forced, Bool.false_eq_true, if_false, Result.andThen_ok, hcap, newRow, run_newObj, Sem.run_pure, markStringish, run_shape, hmap]
  have hshape : (World.shape? { { w with drawn := w.drawn + 1 } with heap := w.heap.push (.cells ((S.data.toList.map byteVal).toArray ++ Array.replicate (cap - S.size) (Value.int .u8 0)) e) } w.heap.size) = some (e, cap) := by
    simp only [World.shape?, Array.getElem?_push_size]
    rw [hsz]
  simp only [hshape, run_freeze, Result.andThen_ok]
  congr 1
  simp only [World.freeze, World.push, World.draw]
  rw [if_neg (by omega)]
  congr 1
  exact modify_push _ _ _

theorem loadk_len (_h : RepC P σ s w) : True := trivial

theorem convertk_ok (h : Rep P σ s w) {src dst : TypeId} {a : AV} {u : Value} (ha : RelV σ a u) {k : AV → St → R} (e : convertk P s src dst a k = .ok) :
    ∃ v z s' w' τ, k v s' = .ok ∧ Did2 P σ s w τ s' w' ∧ RelV τ v z ∧ (convert src dst u).run P w = .ok z w' := by
  obtain ⟨d, hd, e1⟩ := tyk_ok e
  obtain ⟨d', hd', e2⟩ := tyk_ok e1
  split at e2
  · -- to a number
    cases ha
    have e3 := wrapk_ok e2
    refine ⟨_, _, s, w, σ, e3, .refl h, .int _ _, ?_⟩
    simp [convert, run_ty hd, run_ty hd', Conv.intToInt]
  · cases ha with
    | str S =>
    refine ⟨_, .string S, s, w, σ, e2, .refl h, .str S, ?_⟩
    cases d <;> simp [convert, run_ty hd, run_ty hd']
  · rename_i t p off
    obtain ⟨i, hi, e3⟩ := szk_ok e2
    obtain ⟨o, ho, e4⟩ := objk_ok e3
    obtain ⟨el, g, fz, vs, rfl, e5⟩ := AObj.onCells_ok e4
    rw [lenk_eq] at e5
    obtain ⟨hb, e6⟩ := ifk_no e5
    rw [Bool.and_eq_true, Nat.blt_eq, Nat.blt_eq] at hb
    cases ha with
    | ptr _ _ c sh sz hp =>
    obtain ⟨cs, fr, h2, hs, hlen, _⟩ := h.cells hp ho
    refine ⟨_, _, s, w, σ, e6, .refl h, .ptr _ _ _ _ _ hp, ?_⟩
    have hsh : w.shape? c = some (el, cs.size) := by simp [World.shape?, h2]
    have hz : i.size ≠ 0 := by omega
    have hlt : ¬ cs.size ≤ sh + off := by omega
    simp [convert, run_ty hd, run_ty hd', Conv.unsafePointer, Conv.seenAt, viewAt_cells h2, cellsIn, hsh, run_sz hi, hz, hlt]
  · rename_i t p off
    obtain ⟨i, hi, e3⟩ := szk_ok e2
    obtain ⟨o, ho, e4⟩ := objk_ok e3
    obtain ⟨el, g, fz, vs, rfl, e5⟩ := AObj.onCells_ok e4
    rw [lenk_eq] at e5
    obtain ⟨hb, e6⟩ := ifk_no e5
    simp only [Bool.and_eq_true, Nat.blt_eq, Bool.not_eq_true'] at hb
    cases ha with
    | ptr _ _ c sh sz hp =>
    obtain ⟨cs, fr, h2, hs, hlen, hg, _⟩ := h.cells hp ho
    obtain ⟨hsh0, hvl⟩ := hg hb.1.1
    refine ⟨_, _, s, w, σ, e6, .refl h, .ptr _ _ _ _ _ hp, ?_⟩
    have hsh : w.shape? c = some (el, cs.size) := by simp [World.shape?, h2]
    have hz : i.size ≠ 0 := by omega
    have hla : liesAt P P.depth el (cs.size / P.cellsOf el) (sh + off) t 1 = true := by
      rw [hs, ← hvl, hsh0, Nat.zero_add]; exact hb.2
    simp [convert, run_ty hd, run_ty hd', Conv.unsafePointer, Conv.seenAt, viewAt_cells h2, hsh, run_sz hi, hz, variablesAt, hla]
  · rename_i el l n
    obtain ⟨d2, hd2, e3⟩ := tyk_ok e2
    cases ha with
    | str S =>
    cases d2 <;> first | (exact (no_ok (n := 65) e3).elim) | skip
    case int q =>
      cases q <;> first | (exact (no_ok (n := 65) e3).elim) | skip
      have e4 : bytesF S.data.toList.length (packL S.data.toList) (fun cs => newk s (.cells el true 1 cs) fun a s => k (.gslice a 0 S.data.toList.length 1) s) = .ok := e3
      rw [bytesF_eq _ _ _ (Nat.le_refl _), newk_eq, List.take_length] at e4
      obtain ⟨dd, cap, hcap, hrun⟩ := run_stringToBytes (P := P) w el S
      have hls : S.data.toList.length = S.size := by simp
      have hsz : ((S.data.toList.map byteVal).toArray ++ Array.replicate (cap - S.size) (Value.int .u8 0)).size = cap := by
        simp only [Array.size_append, List.size_toArray, List.length_map, Array.size_replicate, hls]; omega
      have hdraw := Did2.draw h dd
      have hro : RelO (σ.upd s.nx (.at (w.draw dd).heap.size 0 cap)) (.cells el true 1 (S.data.toList.map byteAV)) 0 cap (.cells ((S.data.toList.map byteVal).toArray ++ Array.replicate (cap - S.size) (Value.int .u8 0)) el (cap, cap + 1)) := by
        refine .cells _ _ _ _ _ _ _ _ hsz (by simp only [List.length_map, hls]; omega) (by simp) ?_ (by simp) (fun o ho1 ho2 => .inr ho1) (by simp)
        have : ((((S.data.toList.map byteVal).toArray ++ Array.replicate (cap - S.size) (Value.int .u8 0)).toList.drop 0).take (S.data.toList.map byteAV).length) = S.data.toList.map byteVal := by
          simp only [List.drop_zero, Array.toList_append, List.length_map]
          rw [List.take_append_of_le_length (by simp)]
          rw [List.take_of_length_le (by simp)]
        rw [this]; exact bytes_rel _ _
      obtain ⟨r1, r2⟩ := hdraw.1.new hro
      refine ⟨_, .slice (some ⟨w.heap.size, 0, none⟩) S.size cap, _, _, _, e4, ⟨r1, hdraw.2.trans r2⟩, ?_, ?_⟩
      · rw [hls]; refine .gslice _ _ _ _ w.heap.size 0 cap cap _ (Sg.upd_self _ _ _) (by omega) (by omega) (by omega) (.inl rfl)
      · cases d <;> simp [convert, run_ty hd, run_ty hd', run_ty hd2, hrun]
  · rename_i el
    obtain ⟨d2, hd2, e3⟩ := tyk_ok e2
    cases ha
    cases d2 <;> first | (exact (no_ok (n := 66) e3).elim) | skip
    case int q =>
      cases q <;> first | (exact (no_ok (n := 66) e3).elim) | skip
      refine ⟨_, .string .empty, s, w, σ, e3, .refl h, .str .empty, ?_⟩
      simp [convert, run_ty hd, run_ty hd', run_ty hd2, Conv.bytesToString]
  · rename_i el p off len cap
    obtain ⟨d2, hd2, e3⟩ := tyk_ok e2
    cases ha with
    | slice _ _ _ _ c sh sz hp =>
    cases d2 <;> first | (exact (no_ok (n := 66) e3).elim) | skip
    case int q =>
      cases q <;> first | (exact (no_ok (n := 66) e3).elim) | skip
      obtain ⟨r, vs, e4, hl, hr, _, hrun⟩ := loadk_ok (P := P) h.toRepC hp (show loadk s p off len (fun cs => textk cs fun l n => k (.str l n) s) = .ok from e3)
      obtain ⟨bs, rfl, e5⟩ := textk_ok hr e4
      obtain ⟨S, hS, hrun2⟩ := run_toString (P := P) (w := w) (cap := cap) (hrun w.drawn)
      refine ⟨_, .string S, s, w, σ, e5, .refl h, by rw [← hS]; exact .str S, ?_⟩
      rw [run_convert_bytes_string w src dst el _ _ _ hd hd2 hd']
      exact hrun2
  · rename_i el p off len cap'
    obtain ⟨d2, hd2, e3⟩ := tyk_ok e2
    cases ha with
    | gslice _ _ _ _ c sh sz cap q hp hc hlc he hq =>
    cases d2 <;> first | (exact (no_ok (n := 66) e3).elim) | skip
    case int q =>
      cases q <;> first | (exact (no_ok (n := 66) e3).elim) | skip
      obtain ⟨r, vs, e4, hl, hr, hle, hrun⟩ := loadk_ok (P := P) h.toRepC hp (show loadk s p off len (fun cs => textk cs fun l n => k (.str l n) s) = .ok from e3)
      obtain ⟨bs, rfl, e5⟩ := textk_ok hr e4
      rcases hq with hq | hq
      · subst hq
        obtain ⟨S, hS, hrun2⟩ := run_toString (P := P) (w := w) (cap := cap) (hrun w.drawn)
        refine ⟨_, .string S, s, w, σ, e5, .refl h, by rw [← hS]; exact .str S, ?_⟩
        rw [run_convert_bytes_string w src dst el _ _ _ hd hd2 hd']
        exact hrun2
      · subst hq
        have h0 : len = 0 := by omega
        subst h0
        have hb : bs = [] := by
          have := hr.length
          rw [hl] at this
          simpa using this.symm
        subst hb
        refine ⟨_, .string .empty, s, w, σ, e5, .refl h, .str .empty, ?_⟩
        rw [run_convert_bytes_string w src dst el _ _ _ hd hd2 hd']
        rfl
  · exact (no_ok e2).elim

-- copies
theorem cpTo_ok (h : Rep P σ s w) {x : AV} {u : Value} {n : Nat} {cp : Option Addr × Nat} (hx : RelV σ x u) (hu : u = .slice cp.1 n cp.2) {c : Nat} {cs : List AV} {vs : List Value} (hr : RelL σ cs vs) (hc0 : n = 0 → cs = []) {k : AV → St → R} (e : cpTo s x c cs k = .ok) :
    ∃ s' w', k (.int .i64 (.ofNat c)) s' = .ok ∧ Did P σ s w s' w' ∧ (match cp.1 with | some a => storeCells a vs | none => pure () : Sem Unit).run P w = .ok () w' := by
  obtain ⟨base, cap⟩ := cp
  rcases AV.sl_ok e with ⟨rfl, e1⟩ | ⟨p, o, l, c', rfl, e1⟩ | ⟨p, o, l, c', rfl, e1⟩ | e1
  · cases hx; cases hu
    exact ⟨s, w, e1, ⟨h, .refl _ _ _⟩, rfl⟩
  · cases hx with
    | slice _ _ _ _ c0 sh sz hp =>
    cases hu
    obtain ⟨s', w', e2, hrun, hrep, hext⟩ := storek_ok (P := P) h hp hr e1
    exact ⟨s', w', e2, ⟨hrep, hext⟩, hrun⟩
  · cases hx with
    | gslice _ _ _ _ c0 sh sz cap' q hp hc hlc he hq =>
    cases hu
    obtain ⟨s', w', e2, hrun, hrep, hext⟩ := storek_ok (P := P) h hp hr e1
    rcases hq with hq | hq
    · subst hq; exact ⟨s', w', e2, ⟨hrep, hext⟩, hrun⟩
    · have := hc0 (by omega)
      subst this
      cases hr
      refine ⟨s', w', e2, ⟨hrep, hext⟩, ?_⟩
      have hw : w = w' := by simpa [storeCells] using hrun
      rw [← hw]; rfl
  · exact (no_ok e1).elim

theorem copyk_ok (h : Rep P σ s w) {ts : Array TypeId} {ty : TypeId} {x y : AV} {u v : Value} (hx : RelV σ x u) (hy : RelV σ y v) {k : AV → St → R} (e : copyk P s ts.toList x y k = .ok) :
    ∃ r z s' w', k r s' = .ok ∧ Did P σ s w s' w' ∧ RelV σ r z ∧ (Builtin.copy_ ts ty #[u, v]).run P w = .ok z w' := by
  obtain ⟨t, ht, e1⟩ := nth0 e
  obtain ⟨d, hd, e2⟩ := tyk_ok e1
  obtain ⟨el, rfl, e3⟩ := evonSlice_ok e2
  obtain ⟨i, hi, e4⟩ := szk_ok e3
  obtain ⟨n, e5, hn, hnu⟩ := lenOfk_ok (P := P) hx e4
  obtain ⟨m, e6, hm, hmv⟩ := lenOfk_ok (P := P) hy e5
  rw [fN_eq] at e6
  obtain ⟨cs, vs, e7, hl, hr, hrun⟩ := firstk_ok h.toRepC hy (n := Nat.min n m) (size := i.size) (fun S hS => by
    rcases hmv with ⟨S', h1, h2, _⟩ | ⟨p, c, h1⟩
    · rw [hS] at h1; cases h1; rw [h2]; exact Nat.min_le_right _ _
    · rw [hS] at h1; cases h1) e6
  have hrun := hrun w.drawn
  have hrun : (Builtin.firstCells i.size (Nat.min n m) v).run P w = .ok vs.toArray w := hrun
  rcases hnu with ⟨S, rfl, _, hxs⟩ | ⟨p, c, rfl⟩
  · subst hxs
    exact (no_ok (n := 100) e7).elim
  · obtain ⟨s', w', e8, hdid, hst⟩ := cpTo_ok h hx (cp := (p, c)) rfl hr (fun h0 => by
      subst h0
      have : Nat.min 0 m * i.size = 0 := by simp
      rw [this] at hl
      exact List.length_eq_zero_iff.1 hl) e7
    refine ⟨_, _, s', w', e8, hdid, .int _ _, ?_⟩
    have hmin : Nat.min m n = Nat.min n m := Nat.min_comm m n
    cases p with
    | none =>
      have : w = w' := by simpa using hst
      subst this
      simp [Builtin.copy_, ht, run_ty hd, hm, hmin, run_sz hi, hrun, goInt]
    | some a =>
      have hst : (storeCells a vs).run P w = .ok () w' := hst
      simp [Builtin.copy_, ht, run_ty hd, hm, hmin, run_sz hi, hrun, goInt, hst]
end
end Go.Ev

/- Operations: appending. -/
namespace Go.Ev
open Go

/-- what appending comes to -/
def appTail (el : TypeId) (i : TypeInfo) (z : Value) (base : Option Addr) (sLen sCap n : Nat) (appended : Sem (Array Value)) : Sem Value :=
  if sLen + n ≤ sCap then do
    let new ← appended
    if let some a := base then storeCells (a.add (sLen * i.size)) new.toList
    pure (.slice base (sLen + n) sCap)
  else do
    let newCap ← choose (.appendCap (sLen + n) sCap el)
    let old ← Builtin.firstCells i.size sLen (.slice base sLen sCap)
    let new ← appended
    pure (.slice (some (← newRow el (old ++ new ++ Builtin.zeroCells z.cells (newCap - (sLen + n))))) (sLen + n) newCap)

section
variable {P : Program} {σ : Sg} {s : St} {w : World}

theorem app_more {ts : Array TypeId} {ty t el : TypeId} {i : TypeInfo} {z : Value} (ht : ts[0]? = some t) (hd : P.underlying t = some (.slice el)) (hi : P.info? el = some i) (hz : i.zero = some z)
    (hts : ts[1]? = none ∨ ∃ u D, ts[1]? = some u ∧ P.underlying u = some D ∧ ∀ q, D ≠ .int q) {base : Option Addr} {sLen sCap n : Nat} {v : Value} (hn : ∀ w, (Builtin.lenOf v).run P w = .ok n w)
    (hm : sLen + n ≤ 1048576 ∨ sLen + n ≤ sCap) (hb : i.bytes ≤ 65536) :
    (Builtin.append_ ts ty #[.slice base sLen sCap, v]).run P w = (appTail el i z base sLen sCap n (Builtin.firstCells i.size n v)).run P w := by
  by_cases hle : sLen + n ≤ sCap
  · rcases hts with h | ⟨u, D, h, hD, hq⟩
    · cases base <;> simp [Builtin.append_, appTail, ht, h, run_ty hd, run_sz hi, hn, hle]
    · have hnint : (match D with | .int _ => true | _ => false) = false := by cases D <;> first | rfl | exact absurd rfl (hq _)
      cases base <;> simp [Builtin.append_, appTail, ht, h, run_ty hd, run_ty hD, run_sz hi, hn, hle]
  · have hm : sLen + n ≤ 1048576 := hm.resolve_right hle
    have hfit := growslice_fits (need := sLen + n) (old := sCap) (bytes := i.bytes) (by omega) (by
      have : (sLen + n) * i.bytes ≤ 1048576 * 65536 := Nat.mul_le_mul hm hb
      omega)
    have h63 : ¬ (9223372036854775807 < ((sLen : Int) + (n : Int))) := by omega
    have h48 : ¬ (281474976710656 < Builtin.nextslicecap (sLen + n) sCap * i.bytes) := by omega
    rcases hts with h | ⟨u, D, h, hD, hq⟩
    · simp [Builtin.append_, appTail, ht, h, run_ty hd, run_sz hi, run_ti hi, run_zero hi hz, hn, hle, h63, h48, Question.forced]
    · have hnint : (match D with | .int _ => true | _ => false) = false := by cases D <;> first | rfl | exact absurd rfl (hq _)
      simp [Builtin.append_, appTail, ht, h, run_ty hd, run_ty hD, run_sz hi, run_ti hi, run_zero hi hz, hn, hle, h63, h48, Question.forced]

theorem app_make {ts : Array TypeId} {ty t el u : TypeId} {q' : IntKind} {i : TypeInfo} {z : Value} (ht : ts[0]? = some t) (hd : P.underlying t = some (.slice el)) (hi : P.info? el = some i) (hz : i.zero = some z)
    (hu : ts[1]? = some u) (hD : P.underlying u = some (.int q')) {base : Option Addr} {sLen sCap n : Nat} {q : IntKind} (hn : n ≤ 1048576)
    (hm : sLen + n ≤ 1048576 ∨ sLen + n ≤ sCap) (hb : i.bytes ≤ 65536) :
    (Builtin.append_ ts ty #[.slice base sLen sCap, .int q (n : Int)]).run P w = (appTail el i z base sLen sCap n (if n * i.size = 0 then pure #[] else pure (Builtin.zeroCells z.cells n))).run P w := by
  have hwrap : IntKind.i64.wrap (n : Int) = n := by
    unfold IntKind.wrap
    have : (n : Int) % 18446744073709551616 = n := by omega
    simp [IntKind.bits, IntKind.signed]
    omega
  have hneg : ¬ ((n : Int) < 0) := by omega
  have hb48 : ¬ (281474976710656 < (n : Int) * (i.bytes : Int)) := by
    have : n * i.bytes ≤ 1048576 * 65536 := Nat.mul_le_mul hn hb
    have h2 := Int.ofNat_le.2 this
    rw [Int.natCast_mul] at h2
    omega
  have hz0 : (if n * i.size = 0 then pure #[] else (do pure (Builtin.zeroCells (← zeroValue el).cells n)) : Sem (Array Value)).run P = (if n * i.size = 0 then pure #[] else pure (Builtin.zeroCells z.cells n) : Sem (Array Value)).run P := by
    funext w
    split
    · rfl
    · simp [run_zero hi hz]
  by_cases hle : sLen + n ≤ sCap
  · simp [Builtin.append_, appTail, ht, hu, run_ty hd, run_ty hD, run_sz hi, run_ti hi, run_zero hi hz, hle, asInt, asIntOf, hwrap, hneg, hb48]
    cases base <;> rfl
  · have hm : sLen + n ≤ 1048576 := hm.resolve_right hle
    have hfit := growslice_fits (need := sLen + n) (old := sCap) (bytes := i.bytes) (by omega) (by
      have : (sLen + n) * i.bytes ≤ 1048576 * 65536 := Nat.mul_le_mul hm hb
      omega)
    have h63 : ¬ (9223372036854775807 < ((sLen : Int) + (n : Int))) := by omega
    have h48 : ¬ (281474976710656 < Builtin.nextslicecap (sLen + n) sCap * i.bytes) := by omega
    simp [Builtin.append_, appTail, ht, hu, run_ty hd, run_ty hD, run_sz hi, run_ti hi, run_zero hi hz, hle, h63, h48, Question.forced, asInt, asIntOf, hwrap, hneg, hb48]

/-- an object is taken over by a new one, in its block -/
theorem Rep.take (h : Rep P σ s w) {a : Adr} {c sh sz sh' : Nat} (ha : σ a = .at c sh sz) (hlive : T.get a s.heap ≠ none) {o : AObj} {O : Obj} (ho : RelO (σ.upd s.nx (.at c sh' sz)) o sh' sz O) :
    Did2 P σ s w (σ.upd s.nx (.at c sh' sz)) ((s.put a none).new o) (w.upd c O) := by
  have hf : σ s.nx = .none := h.free (Nat.le_refl _)
  have hle := Sg.le_upd hf (.at c sh' sz)
  have hk := h.kill (a := a)
  have hane : a ≠ s.nx := fun x => by rw [x, hf] at ha; cases ha
  have hget : ∀ b, b ≠ s.nx → T.get b ((s.put a none).new o).heap = T.get b (s.put a none).heap := fun b hb => T.get_set_ne _ (Ne.symm hb) _
  have hgetn : T.get s.nx ((s.put a none).new o).heap = some o := T.get_set_self (some o) s.nx _
  have hgeta : T.get a (s.put a none).heap = none := T.get_set_self none a s.heap
  have hgetb : ∀ b, b ≠ a → T.get b (s.put a none).heap = T.get b s.heap := fun b hb => T.get_set_ne none (Ne.symm hb) s.heap
  have hc := h.lt _ _ _ _ ha
  -- whoever else lives, lives elsewhere
  have els : ∀ b c' s1 s2, σ b = .at c' s1 s2 → T.get b (s.put a none).heap ≠ none → c ≠ c' := by
    intro b c' s1 s2 e l hcc
    subst hcc
    by_cases hb : b = a
    · subst hb; exact l hgeta
    · rw [hgetb b hb] at l
      exact hb (h.inj _ _ _ _ _ _ _ e ha l hlive)
  refine ⟨⟨⟨?_, ?_, ?_, ?_⟩, ?_, ?_, ?_⟩, ⟨hle, ?_, ?_, ?_, ?_, ?_, rfl, rfl, rfl, rfl, ?_⟩⟩
  · intro g hg; obtain ⟨sz, e⟩ := h.glob g hg; exact ⟨sz, hle _ _ _ _ e⟩
  · intro b c' s1 s2 o' e eo
    by_cases hb : b = s.nx
    · subst hb
      rw [Sg.upd_self] at e; cases e
      rw [hgetn] at eo; cases eo
      exact ⟨O, upd_get _ _ _ hc, ho⟩
    · rw [Sg.upd_ne _ _ hb] at e
      rw [hget b hb] at eo
      have hne := els b c' s1 s2 e (by rw [eo]; simp)
      obtain ⟨O', h2, h3⟩ := hk.obj b c' s1 s2 o' e eo
      exact ⟨O', (upd_get_ne _ _ _ _ hne).trans h2, h3.mono hle⟩
  · intro b c' s1 s2 e
    show c' < (w.heap.setIfInBounds c O).size
    rw [Array.size_setIfInBounds]
    by_cases hb : b = s.nx
    · subst hb; rw [Sg.upd_self] at e; cases e; exact hc
    · rw [Sg.upd_ne _ _ hb] at e; exact h.lt _ _ _ _ e
  · intro x y c' s1 s2 s3 s4 e1 e2 l1 l2
    by_cases hx : x = s.nx
    · by_cases hy : y = s.nx
      · rw [hx, hy]
      · subst hx
        rw [Sg.upd_self] at e1; cases e1
        rw [Sg.upd_ne _ _ hy] at e2; rw [hget y hy] at l2
        exact absurd rfl (els y c s3 s4 e2 l2)
    · rw [Sg.upd_ne _ _ hx] at e1; rw [hget x hx] at l1
      by_cases hy : y = s.nx
      · subst hy
        rw [Sg.upd_self] at e2; cases e2
        exact absurd rfl (els x c s1 s2 e1 l1)
      · rw [Sg.upd_ne _ _ hy] at e2; rw [hget y hy] at l2
        exact hk.inj x y c' _ _ _ _ e1 e2 l1 l2
  · intro b e
    show b.nat < (s.nx.succ).nat
    rw [Adr.nat_succ]
    by_cases hb : b = s.nx
    · subst hb; omega
    · rw [Sg.upd_ne _ _ hb] at e; have := h.fresh b e; omega
  · show s.bd ≤ (s.nx.succ).nat
    rw [Adr.nat_succ]; have := h.bd; omega
  · intro b hb
    have hb' : (s.nx.succ).nat ≤ b.nat := hb
    rw [Adr.nat_succ] at hb'
    rw [hget b (fun x => by subst x; omega)]
    exact hk.over b (by show s.nx.nat ≤ b.nat; omega)
  · intro b hb e
    have hbn : b ≠ s.nx := fun x => by subst x; omega
    have hba : b ≠ a := fun x => by subst x; rw [ha] at e; cases e
    exact ⟨by rw [Sg.upd_ne _ _ hbn]; exact e, by rw [hget b hbn, hgetb b hba]⟩
  · show s.nx.nat ≤ (s.nx.succ).nat
    rw [Adr.nat_succ]; omega
  · show w.heap.size ≤ (w.heap.setIfInBounds c O).size
    simp
  · intro c' hc' hn
    exact upd_get_ne _ _ _ _ (fun hcc => hn a sh sz (hcc ▸ ha))
  · intro b c' s1 s2 e hc'
    by_cases hb : b = s.nx
    · subst hb; rw [Sg.upd_self] at e; cases e; exact ⟨a, sh, sz, ha⟩
    · rw [Sg.upd_ne _ _ hb] at e; exact ⟨b, s1, s2, e⟩
  · intro e
    have e' : (s.put a none).wl = false := e
    obtain ⟨w1, w2⟩ := wl_lt e'
    refine ⟨w1, fun hb b hlt => ?_⟩
    have hba : b ≠ a := Ne.symm (w2 hb b hlt)
    have hbn : b ≠ s.nx := fun x => by subst x; have := h.bd; omega
    refine ⟨by rw [hget b hbn, hgetb b hba], fun c' s1 s2 e1 l => upd_get_ne _ _ _ _ (els b c' s1 s2 e1 (by rw [hgetb b hba]; exact l))⟩

theorem zeroCells_toList (z : Array Value) (n : Nat) : (Builtin.zeroCells z n).toList = (List.replicate n z.toList).flatten := by
  apply List.ext_getElem?
  intro j
  unfold Builtin.zeroCells
  simp only [Array.toList_map, Array.toList_range]
  induction n generalizing j with
  | zero => simp
  | succ n ih =>
    rw [List.replicate_succ, List.flatten_cons]
    rcases Nat.lt_or_ge j z.size with hj | hj
    · rw [List.getElem?_append_left (by simpa using hj)]
      have : j < (n + 1) * z.size := by rw [Nat.add_mul]; omega
      simp [this, Nat.mod_eq_of_lt hj, hj]
    · rw [List.getElem?_append_right (by simpa using hj), ← ih]
      have hl : z.toList.length = z.size := by simp
      rw [hl]
      by_cases hlt : j < (n + 1) * z.size
      · have h2 : j - z.size < n * z.size := by rw [Nat.add_mul] at hlt; omega
        have hm : j % z.size = (j - z.size) % z.size := Nat.mod_eq_sub_mod hj
        simp [hlt, h2, hm]
      · have h2 : ¬ j - z.size < n * z.size := by rw [Nat.add_mul] at hlt; omega
        rw [List.getElem?_eq_none (by simp; omega), List.getElem?_eq_none (by simp; omega)]

theorem RelL.replicate {l : List AV} {vs : List Value} (h : RelL σ l vs) (n : Nat) : RelL σ (List.replicate n l).flatten (List.replicate n vs).flatten := by
  induction n with
  | zero => exact .nil
  | succ n ih => rw [List.replicate_succ, List.flatten_cons, List.replicate_succ, List.flatten_cons]; exact h.append ih
theorem RelL.take {l : List AV} {vs : List Value} (h : RelL σ l vs) : vs.take l.length = vs := List.take_of_length_le (by rw [h.length]; omega)

/-- a new row of cells, of which the first ones are known -/
theorem apNew_ok (hP : Fit P) (h : Rep P σ s w) {e : TypeId} {i : TypeInfo} {z : Value} (hlt : e < P.types.size) (hi : P.info? e = some i) (hz : i.zero = some z) {m fz cap : Nat} (_hfz : fz ≤ 1) {vs : List AV} {us : List Value} (hr : RelL σ vs us) (hl : vs.length = m * i.size) (hm : m ≤ cap) (h0 : 0 < i.size)
    {k : AV → St → R} (e0 : apNew s e i.size m fz vs k = .ok) : ∃ r s' w' τ, k r s' = .ok ∧ Did2 P σ s w τ s' w' ∧ m ≤ 1048576 ∧ RelV τ r (.slice (some ⟨w.heap.size, 0, none⟩) m cap) ∧
      w' = w.push (.cells (us.toArray ++ Builtin.zeroCells z.cells (cap - m)) e) := by
  obtain ⟨hb, e1⟩ := ifk_no e0
  have hb := Nat.le_of_ble_eq_true hb
  rw [newk_eq] at e1
  have hzs := hP.zero _ _ _ hlt hi hz
  have hsz : (us.toArray ++ Builtin.zeroCells z.cells (cap - m)).size = cap * i.size := by
    have h1 : us.length = m * i.size := by rw [← hr.length, hl]
    have h2 : (Builtin.zeroCells z.cells (cap - m)).size = (cap - m) * i.size := by simp [Builtin.zeroCells, hzs]
    have h3 : (us.toArray ++ Builtin.zeroCells z.cells (cap - m)).size = us.length + (Builtin.zeroCells z.cells (cap - m)).size := by simp
    rw [h3, h1, h2, ← Nat.add_mul]; congr 1; omega
  have hml : m * i.size ≤ cap * i.size := Nat.mul_le_mul_right _ hm
  have ho : RelO (σ.upd s.nx (.at w.heap.size 0 (cap * i.size))) (.cells e true fz vs) 0 (cap * i.size) (.cells (us.toArray ++ Builtin.zeroCells z.cells (cap - m)) e) := by
    refine .cells _ _ _ _ _ _ _ _ hsz (by omega) (by simp) ?_ (fun _ => rfl) (fun o _ ho2 => by simp at ho2) (fun _ => by simp)
    have : (((us.toArray ++ Builtin.zeroCells z.cells (cap - m)).toList.drop 0).take vs.length) = us := by
      simp only [List.drop_zero, Array.toList_append]
      rw [List.take_append_of_le_length (by simp [hr.length]), hr.length]
      simp
    rw [this]
    exact hr.mono (Sg.le_upd (h.free (Nat.le_refl _)) _)
  obtain ⟨r1, r2⟩ := h.new ho
  exact ⟨_, _, _, _, e1, ⟨r1, r2⟩, hb, .gslice _ _ _ _ w.heap.size 0 _ cap _ (Sg.upd_self _ _ _) (by omega) hm h0 (.inl rfl), rfl⟩
end
end Go.Ev

/- Operations: appending, to its end; texts of bytes in place. -/
namespace Go.Ev
open Go

section
variable {P : Program} {σ : Sg} {s : St} {w : World}

theorem appTail_grow {el : TypeId} {i : TypeInfo} {z : Value} {base : Option Addr} {sLen sCap n : Nat} {app : Sem (Array Value)} {old vs : List Value} (hg : ¬ sLen + n ≤ sCap)
    (hold : ∀ d, (Builtin.firstCells i.size sLen (.slice base sLen sCap)).run P (w.draw d) = .ok old.toArray (w.draw d)) (happ : ∀ d, app.run P (w.draw d) = .ok vs.toArray (w.draw d)) :
    ∃ d cap, sLen + n ≤ cap ∧ (appTail el i z base sLen sCap n app).run P w = .ok (.slice (some ⟨w.heap.size, 0, none⟩) (sLen + n) cap) ((w.draw d).push (.cells ((old ++ vs).toArray ++ Builtin.zeroCells z.cells (cap - (sLen + n))) el)) := by
  have hc : sLen + n ≤ (Question.appendCap (sLen + n) sCap el).cut (w.tape w.drawn (.appendCap (sLen + n) sCap el)) := by simp only [Question.cut]; omega
  generalize hcap : (Question.appendCap (sLen + n) sCap el).cut (w.tape w.drawn (.appendCap (sLen + n) sCap el)) = cap at hc
  have h1 := hold (w.drawn + 1)
  have h2 := happ (w.drawn + 1)
  refine ⟨w.drawn + 1, cap, hc, ?_⟩
  have hd : ({ w with drawn := w.drawn + 1 } : World) = w.draw (w.drawn + 1) := rfl
  simp only [appTail, hg, if_false, Sem.run_bind, run_choose, Question.forced, Bool.false_eq_true, Result.andThen_ok, hcap, hd, h1, h2, newRow, run_newObj, Sem.run_pure]
  simp only [List.append_toArray]
  rfl
theorem appTail_stay {el : TypeId} {i : TypeInfo} {z : Value} {base : Option Addr} {sLen sCap n : Nat} {app : Sem (Array Value)} {vs : List Value} {w' : World} (hg : sLen + n ≤ sCap)
    (happ : app.run P w = .ok vs.toArray w) (hst : (match base with | some a => storeCells (a.add (sLen * i.size)) vs | none => pure () : Sem Unit).run P w = .ok () w') :
    (appTail el i z base sLen sCap n app).run P w = .ok (.slice base (sLen + n) sCap) w' := by
  cases base with
  | none =>
    have : w = w' := by simpa using hst
    subst this
    simp [appTail, hg, happ]
  | some a =>
    have hst : (storeCells (a.add (sLen * i.size)) vs).run P w = .ok () w' := hst
    simp [appTail, hg, happ, hst]

/-- in place: what is written behind what is known -/
theorem run_behind (h : Rep P σ s w) {a : Adr} {c sh sz : Nat} (ha : σ a = .at c sh sz) {el : TypeId} {g : Bool} {fz : Nat} {vs : List AV} (he : T.get a s.heap = some (.cells el g fz vs)) (hfz : fz ≤ 1) {off : Nat} {old new : List AV} {us ns : List Value}
    (ho : RelL σ old us) (hn : RelL σ new ns) (hp : plains new = true) (hfit : sh + off + old.length + new.length ≤ sz) (hload : (loadCells ⟨c, sh + off, none⟩ old.length).run P w = .ok us.toArray w) (_hg : g = true) :
    ∃ O, (storeCells ⟨c, sh + off + old.length, none⟩ ns).run P w = .ok () (w.upd c O) ∧ RelO σ (.cells el true fz (old ++ new)) (sh + off) sz O := by
  obtain ⟨cs, fr, h2, hs, hlen, hg', hv, hf, hf', hf1⟩ := h.cells ha he
  have hol := ho.length
  have hnl := hn.length
  have hrun := run_storeCells_blk P c (sh + off + old.length) el fr ns 0 cs w h2 (by omega) (fun j hj1 hj2 hz => by
    rcases hf' j hz.1 hz.2 with hh | hh <;> omega) (plains_one hn hp)
  refine ⟨_, hrun, ?_⟩
  have hcl : cs.toList.length = sz := by simpa using hs
  have hus : us = (cs.toList.drop (sh + off)).take old.length := by
    have := run_loadCells_blk P (w := w) h2 (sh + off) old.length (by omega)
    rw [this] at hload
    injection hload with h1 h3
    exact (List.toArray_inj h1).symm
  refine .cells _ _ _ _ _ _ _ _ ?_ ?_ (by simp) ?_ hf (fun o h1 h2 => ?_) (fun hne => ?_)
  · simp; omega
  · simp; omega
  · have : ((cs.toList.take (sh + off + old.length + 0) ++ ns ++ cs.toList.drop (sh + off + old.length + 0 + ns.length)).toArray.toList.drop (sh + off)).take (old ++ new).length = us ++ ns := by
      rw [hus]
      simp only [Nat.add_zero, List.append_assoc, List.length_append]
      rw [List.drop_append_of_le_length (by simp; omega)]
      have d1 : List.drop (sh + off) (cs.toList.take (sh + off + old.length)) = (cs.toList.drop (sh + off)).take old.length := by rw [List.drop_take]; congr 1; omega
      rw [d1]
      have l1 : ((cs.toList.drop (sh + off)).take old.length).length = old.length := by simp; omega
      have t1 : ∀ (A X : List Value) (p : Nat), (A ++ X).take (A.length + p) = A ++ X.take p := fun A X p => by rw [List.take_append, List.take_of_length_le (by omega)]; congr 2; omega
      have := t1 ((cs.toList.drop (sh + off)).take old.length) (ns ++ cs.toList.drop (sh + off + old.length + ns.length)) new.length
      rw [l1] at this
      rw [this, hnl]
      congr 1
      simp
    rw [this]
    exact ho.append hn
  · rcases hf' o h1 h2 with hh | hh
    · exact .inl (by omega)
    · exact .inr hh
  · have := hf1 hne; omega

theorem apTo_ok (hP : Fit P) (h : Rep P σ s w) {x : AV} {u : Value} (hx : RelV σ x u) {el : TypeId} {i : TypeInfo} {zv : Value} (hlt : el < P.types.size) (hi : P.info? el = some i) (hz : i.zero = some zv) {n : Nat} {new : List AV} {vs : List Value} (hl : new.length = n * i.size) (hr : RelL σ new vs) (h0 : 0 < i.size)
    {app : Sem (Array Value)} (happ : ∀ d, app.run P (w.draw d) = .ok vs.toArray (w.draw d)) {k : AV → St → R} (e : apTo s x k el i.size n new = .ok) :
    ∃ base sLen sCap, u = .slice base sLen sCap ∧ (sLen + n ≤ 1048576 ∨ sLen + n ≤ sCap) ∧ ∃ r y s' w' τ, k r s' = .ok ∧ Did2 P σ s w τ s' w' ∧ RelV τ r y ∧ (appTail el i zv base sLen sCap n app).run P w = .ok y w' := by
  have happw : app.run P w = .ok vs.toArray w := happ w.drawn
  have hvl := hr.length
  rcases AV.sl_ok e with ⟨rfl, e1⟩ | ⟨p, off, len, cap, rfl, e1⟩ | ⟨p, off, len, es, rfl, e1⟩ | e1
  · -- nil
    cases hx
    have e2 : ifk (Nat.beq n 0) (k .nilslice s) (apNew s el i.size n 0 new k) = .ok := e1
    rw [ifk_eq] at e2
    split at e2
    · rename_i hn
      have hn := nbeq hn
      subst hn
      exact ⟨none, 0, 0, rfl, .inl (by omega), _, _, s, w, σ, e2, .refl h, .nilslice, appTail_stay (by omega) happw rfl⟩
    · rename_i hn
      have hn : n ≠ 0 := fun hh => hn (by subst hh; rfl)
      obtain ⟨d, cap, hcap, hrun⟩ := appTail_grow (P := P) (w := w) (el := el) (i := i) (z := zv) (base := none) (sLen := 0) (sCap := 0) (n := n) (app := app) (old := []) (vs := vs) (by omega) (fun d => rfl) happ
      have hd := Did2.draw h d
      obtain ⟨r, s', w', τ, e3, hdid, hm, hrel, hw⟩ := apNew_ok hP hd.1 hlt hi hz (by omega) hr hl (cap := cap) (by omega) h0 e2
      refine ⟨none, 0, 0, rfl, .inl (by omega), r, _, s', w', τ, e3, hd.trans hdid, hrel, ?_⟩
      rw [hrun, hw]
      simp only [Nat.zero_add, List.nil_append]
      rfl
  · -- all known
    cases hx with
    | slice _ _ _ _ c sh sz ha =>
    rw [show apEx s el i.size n new k p off len cap = fN (Nat.add len n) (fun m => ifk (Nat.ble m cap) (fN (Nat.add off (Nat.mul len i.size)) fun o => storek s p o new fun s => k (.slice p off m cap) s)
      (fN (Nat.mul len i.size) fun c => loadk s p off c fun old => appk old new fun vs => apNew s el i.size m 0 vs k)) from rfl, fN_eq, ifk_eq] at e1
    split at e1
    · rename_i hle
      have hle : len + n ≤ cap := Nat.le_of_ble_eq_true hle
      rw [fN_eq] at e1
      obtain ⟨s', w', e2, hst, hrep, hext⟩ := storek_ok (P := P) h ha hr e1
      refine ⟨_, len, cap, rfl, .inr hle, _, .slice (some ⟨c, sh + off, none⟩) (len + n) cap, s', w', σ, e2, ⟨hrep, hext⟩, .slice _ _ _ _ _ _ _ ha, appTail_stay hle happw ?_⟩
      show (storeCells ((⟨c, sh + off, none⟩ : Addr).add (len * i.size)) vs).run P w = .ok () w'
      rw [Addr.add_mk, Nat.add_assoc]
      exact hst
    · rename_i hle
      have hle : ¬ len + n ≤ cap := fun hh => hle (Nat.ble_eq_true_of_le hh)
      rw [fN_eq] at e1
      obtain ⟨old, us, e2, hol, hor, hsz, hload⟩ := loadk_ok (P := P) h.toRepC ha e1
      rw [appk_eq] at e2
      obtain ⟨d, ncap, hcap, hrun⟩ := appTail_grow (P := P) (w := w) (el := el) (i := i) (z := zv) (base := some ⟨c, sh + off, none⟩) (sLen := len) (sCap := cap) (n := n) (app := app) (old := us) (vs := vs) hle (fun d => hload d) happ
      have hd := Did2.draw h d
      have hol' : old.length = len * i.size := hol
      obtain ⟨r, s', w', τ, e3, hdid, hm, hrel, hw⟩ := apNew_ok hP hd.1 hlt hi hz (by omega) (hor.append hr) (m := len + n) (by rw [List.length_append, hol', hl, Nat.add_mul]) (cap := ncap) hcap h0 e2
      refine ⟨_, len, cap, rfl, .inl hm, r, _, s', w', τ, e3, hd.trans hdid, hrel, ?_⟩
      rw [hrun, hw]
      rfl
  · -- with a capacity that is not known
    cases hx with
    | gslice _ _ _ _ c sh sz cap q ha hc hlc he hq =>
    obtain ⟨hes, e2⟩ := ifk_no (show ifk (Nat.beq es i.size) (fN (Nat.add len n) fun m => cellsk s p fun e' g fz vs => lenk vs fun f =>
      ifk (Nat.ble (Nat.add off (Nat.mul m i.size)) f) (fN (Nat.add off (Nat.mul len i.size)) fun o => storek s p o new fun s => k (.gslice p off m i.size) s)
      (ifk (Nat.beq el e' && g && Nat.ble fz 1 && plains new) (fN (Nat.mul len i.size) fun c => loadk s p off c fun old => appk old new fun vs => putObjk s p none fun s => apNew s el i.size m fz vs k) (.no 97))) (.no 98) = .ok from e1)
    have hes := nbeq hes
    subst hes
    rw [fN_eq] at e2
    obtain ⟨o, ho, e3⟩ := objk_ok e2
    obtain ⟨el', g, fz, cs, rfl, e4⟩ := AObj.onCells_ok e3
    rw [lenk_eq, ifk_eq] at e4
    obtain ⟨ccs, fr, h2, hs, hlen, _⟩ := h.cells ha ho
    split at e4
    · rename_i hf
      have hf : off + (len + n) * i.size ≤ cs.length := Nat.le_of_ble_eq_true hf
      have hle : len + n ≤ cap := Nat.le_of_mul_le_mul_right (by omega : (len + n) * i.size ≤ cap * i.size) he
      rw [fN_eq] at e4
      obtain ⟨s', w', e5, hst, hrep, hext⟩ := storek_ok (P := P) h ha hr e4
      refine ⟨_, len, cap, rfl, .inr hle, _, .slice (some q) (len + n) cap, s', w', σ, e5, ⟨hrep, hext⟩, .gslice _ _ _ _ c sh sz cap q ha hc hle he hq, appTail_stay hle happw ?_⟩
      show (storeCells (q.add (len * i.size)) vs).run P w = .ok () w'
      rcases hq with hq | hq
      · subst hq
        rw [Addr.add_mk, Nat.add_assoc]
        exact hst
      · have hn0 : n = 0 := by omega
        subst hn0
        have hv0 : vs = [] := List.length_eq_zero_iff.1 (by rw [← hvl, hl]; simp)
        subst hv0
        have : w = w' := by simpa [storeCells] using hst
        subst this
        rfl
    · rename_i hf
      obtain ⟨hb, e5⟩ := ifk_no e4
      simp only [Bool.and_eq_true] at hb
      have hel := nbeq hb.1.1.1
      subst hel
      have hfz := Nat.le_of_ble_eq_true hb.1.2
      have hpl := hb.2
      have hgt := hb.1.1.2
      rw [fN_eq] at e5
      obtain ⟨old, us, e6, hol, hor, hsz, hload⟩ := loadk_ok (P := P) h.toRepC ha e5
      rw [appk_eq, putObjk_eq] at e6
      have hol' : old.length = len * i.size := hol
      have hlive : T.get p s.heap ≠ none := by rw [ho]; simp
      by_cases hle : len + n ≤ cap
      · -- in its place
        have hsum : (len + n) * i.size = len * i.size + n * i.size := Nat.add_mul _ _ _
        have hcs : (len + n) * i.size ≤ cap * i.size := Nat.mul_le_mul_right _ hle
        have hfit : sh + off + old.length + new.length ≤ sz := by rw [hol', hl]; omega
        obtain ⟨O, hst, hro⟩ := run_behind (P := P) h ha ho hfz hor hr hpl hfit (by have h3 := hload w.drawn; rw [← hol] at h3; exact h3) hgt
        have hfree : σ s.nx = .none := h.free (Nat.le_refl _)
        have htake := h.take (sh' := sh + off) ha hlive (hro.mono (Sg.le_upd hfree _))
        obtain ⟨hb, e7⟩ := ifk_no (show ifk (Nat.ble (Nat.add len n) 1048576) (newk (s.put p none) (.cells el true fz (old ++ new)) fun a s => k (.gslice a 0 (Nat.add len n) i.size) s) (.no 96) = .ok from e6)
        rw [newk_eq] at e7
        refine ⟨_, len, cap, rfl, .inr hle, _, .slice (some q) (len + n) cap, _, _, _, e7, htake, .gslice _ _ _ _ c (sh + off) sz cap _ (Sg.upd_self _ _ _) (by omega) hle he (hq.imp (fun hh => by rw [hh]; rfl) id), appTail_stay hle happw ?_⟩
        show (storeCells (q.add (len * i.size)) vs).run P w = .ok () _
        rcases hq with hq | hq
        · rw [hq, Addr.add_mk, ← hol']
          exact hst
        · have h1 : n = 0 := by omega
          subst h1
          have hv0 : vs = [] := List.length_eq_zero_iff.1 (by rw [← hvl, hl]; simp)
          subst hv0
          have hw : w = w.upd c O := by simpa [storeCells] using hst
          rw [← hw]
          rfl
      · -- in a new one
        have hold : ∀ d, (Builtin.firstCells i.size len (.slice (some q) len cap)).run P (w.draw d) = .ok us.toArray (w.draw d) := fun d => by
          rcases hq with hq | hq
          · subst hq; exact hload d
          · have h1 : len = 0 := by omega
            subst h1
            have hu0 : us = [] := List.length_eq_zero_iff.1 (by rw [← hor.length, hol']; simp)
            subst hu0
            simp only [Builtin.firstCells, Nat.zero_mul]
            rfl
        obtain ⟨d, ncap, hcap, hrun⟩ := appTail_grow (P := P) (w := w) (el := el) (i := i) (z := zv) (base := some q) (sLen := len) (sCap := cap) (n := n) (app := app) (old := us) (vs := vs) hle hold happ
        have hk : Did2 P σ s w σ (s.put p none) w := ⟨h.kill, .kill _ _ _ ha⟩
        have hd := hk.trans (Did2.draw hk.1 d)
        obtain ⟨r, s', w', τ, e7, hdid, hm, hrel, hw⟩ := apNew_ok hP hd.1 hlt hi hz hfz (hor.append hr) (m := len + n) (by rw [List.length_append, hol', hl, Nat.add_mul]) (cap := ncap) hcap h0 e6
        refine ⟨_, len, cap, rfl, .inl hm, r, _, s', w', τ, e7, hd.trans hdid, hrel, ?_⟩
        rw [hrun, hw]
        rfl
  · -- one without room
    cases x <;> first | (exact (no_ok (n := 99) e1).elim) | skip
    case zslice =>
    cases hx with
    | zslice q =>
    have e2 : ifk (Nat.beq n 0) (k .zslice s) (apNew s el i.size n 0 new k) = .ok := e1
    rw [ifk_eq] at e2
    split at e2
    · rename_i hn
      have hn := nbeq hn
      subst hn
      have hv0 : vs = [] := List.length_eq_zero_iff.1 (by rw [← hvl, hl]; simp)
      subst hv0
      exact ⟨some q, 0, 0, rfl, .inl (by omega), _, _, s, w, σ, e2, .refl h, .zslice _, appTail_stay (by omega) happw rfl⟩
    · rename_i hn
      have hn : n ≠ 0 := fun hh => hn (by subst hh; rfl)
      obtain ⟨d, cap, hcap, hrun⟩ := appTail_grow (P := P) (w := w) (el := el) (i := i) (z := zv) (base := some q) (sLen := 0) (sCap := 0) (n := n) (app := app) (old := []) (vs := vs) (by omega) (fun d => by simp only [Builtin.firstCells, Nat.zero_mul]; rfl) happ
      have hd := Did2.draw h d
      obtain ⟨r, s', w', τ, e3, hdid, hm, hrel, hw⟩ := apNew_ok hP hd.1 hlt hi hz (by omega) hr hl (cap := cap) (by omega) h0 e2
      refine ⟨some q, 0, 0, rfl, .inl (by omega), r, _, s', w', τ, e3, hd.trans hdid, hrel, ?_⟩
      rw [hrun, hw]
      simp only [Nat.zero_add, List.nil_append]
      rfl
end
end Go.Ev
