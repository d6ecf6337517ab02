/- What is known of memory where the call begins. -/
import Derived.Test.YtlohkhfopnkcmaaGreatDoorTab
import Derived.Test.YtlohkhfopnkcmaaGreatDoorFit
import Derived.OpenShut
import Derived.LaidLaws
import Derived.LaidHandle
import Derived.Shelf.Vars
import Derived.Test.YtlohkhfopnkcmaaGreatDoorRows
import Derived.HandedShaped

/- What the row's condition and the world's shape tell of the package-level variables. -/
namespace Go.Ev
open Go
section
variable {H : Type} {enc : TypeId × Value → H} {P : Program} {W : World} {base : Nat} {sp : Nat → Bool} {held : Bool}
theorem int_of_trod {fuel : Nat} {e : TypeId} {k : IntKind} {cs : List Value} {n : Int} {p : List MemPlace} (hu : P.underlying e = some (.int k)) (h : DataW.trod enc P W base sp held fuel e cs = some (.lit (.int k n), p)) : cs = [.int k n] := by
  cases fuel with
  | zero => simp [DataW.trod] at h
  | succ fuel =>
    match cs with
    | [] => simp [DataW.trod, hu] at h
    | _ :: _ :: _ => simp [DataW.trod, hu] at h
    | [c] =>
      cases c <;> simp [DataW.trod, hu] at h
      rename_i k' m
      obtain ⟨⟨rfl, _⟩, rfl, _⟩ := h
      rfl
theorem ints_of_trod {fuel : Nat} {t e : TypeId} {n : Nat} {k : IntKind} {cs : List Value} {ints : List Int} {p : List MemPlace} (ht : P.underlying t = some (.array n e)) (hu : P.underlying e = some (.int k)) (hce : P.cellsOf e = 1) (hct : P.cellsOf t = n)
    (h : DataW.trod enc P W base sp held fuel t cs = some (.agg (ints.map fun i => .lit (.int k i)), p)) : cs = ints.map (.int k ·) := by
  obtain ⟨xs, m, _, hx, hl, hn, hget⟩ := DataW.trod_array ht h
  rw [Prod.mk.injEq, DataW.agg.injEq] at hx
  have hx1 : ints.map (fun i => (DataW.lit (.int k i) : DataW H)) = xs.map (·.1) := hx.1
  have hlen : ints.length = n := by
    have := congrArg List.length hx1
    simpa [hn] using this
  apply List.ext_getElem?
  intro i
  by_cases hi : i < n
  · have h1 := hget i hi
    rw [hce, Nat.mul_one] at h1
    obtain ⟨x, hxi⟩ : ∃ x, xs[i]? = some x := ⟨_, List.getElem?_eq_getElem (by omega)⟩
    have h2 := congrArg (·[i]?) hx1
    simp only [List.getElem?_map, hxi, Option.map_some] at h2
    obtain ⟨z, hz⟩ : ∃ z, ints[i]? = some z := ⟨_, List.getElem?_eq_getElem (by omega)⟩
    rw [hz, Option.map_some, Option.some.injEq] at h2
    rw [hxi] at h1
    obtain ⟨d, q⟩ := x
    have h2 : DataW.lit (.int k z) = d := h2
    subst h2
    have h3 := int_of_trod hu h1
    have h4 := congrArg (·[0]?) h3
    simp only [List.getElem?_take, List.getElem?_drop] at h4
    simp only [Nat.lt_one_iff, if_true, Nat.add_zero] at h4
    rw [h4, List.getElem?_map, hz]; rfl
  · rw [List.getElem?_eq_none (by omega), List.getElem?_eq_none (by rw [List.length_map]; omega)]
theorem relL_ints (σ : Sg) (k : IntKind) : ∀ l : List Int, RelL σ (l.map (AV.int k)) (l.map (Value.int k))
  | [] => .nil
  | n :: l => .cons _ _ _ _ (.int k n) (relL_ints σ k l)
theorem relO_whole {σ : Sg} {el : TypeId} {vs : List AV} {cs : Array Value} (h : RelL σ vs cs.toList) : RelO σ (.cells el false 0 vs) 0 (szOf (some (.cells cs el))) (.cells cs el) := by
  have hl : vs.length = cs.size := by have := h.length; simpa using this
  refine .cells _ _ _ _ _ _ _ _ rfl (by show 0 + vs.length ≤ cs.size; omega) (fun _ => ⟨rfl, hl⟩) ?_ (fun _ => rfl) (fun o h1 h2 => by omega) (fun _ => by omega)
  rw [List.drop_zero, hl, ← Array.length_toList, List.take_length]
  exact h
/-- a variable's cells -/
theorem cells_of_var {n : String} {g : Nat} {cs cs' : Array Value} {t : TypeId} (hg : P.globalNamed n = some g) (hv : W.var? P n = some cs) (hh : W.heap[g]? = some (.cells cs' t)) : cs' = cs := by
  simp only [World.var?, hg, Option.bind_some, hh] at hv
  exact Option.some.inj hv
end
end Go.Ev
namespace Go.Proofs.YtlohkhfopnkcmaaGreatDoor
open Go Go.Ev

noncomputable def gz (g : Nat) : Option (Array Value × TypeId) := ((begin Tryz.prog (fun _ _ => 0) default).world.heap[g]?).bind Obj.row?
theorem glob {W : World} (h : W.ShapedOpen Tryz.prog) {g : Nat} {t : TypeId} (hg : g < 10) (hz : (gz g).map (·.2) = some t) : ∃ cs, W.heap[g]? = some (.cells cs t) := by
  cases hq : gz g with
  | none => rw [hq] at hz; cases hz
  | some p =>
    obtain ⟨z, u⟩ := p
    rw [hq] at hz
    cases hz
    obtain ⟨cs, h1, _⟩ := h.1 g z u (by rw [globals_size]; exact hg) hq
    exact ⟨cs, h1⟩
theorem et : Tryz.prog.globalNamed "errors.errorType" = some 0 := by kernel_rfl
end Go.Proofs.YtlohkhfopnkcmaaGreatDoor

/- What is known of memory where the call begins. -/
namespace Go.Proofs.YtlohkhfopnkcmaaGreatDoor
open Go Go.Ev

def nB32 : List Int := [0, 1, 28, 2, 29, 14, 24, 3, 30, 22, 20, 15, 25, 17, 4, 8, 31, 27, 13, 23, 21, 19, 16, 7, 26, 12, 18, 6, 11, 5, 10, 9]
def nB64 : List Int := [0, 1, 56, 2, 57, 49, 28, 3, 61, 58, 42, 50, 38, 29, 17, 4, 62, 47, 59, 36, 45, 43, 51, 22, 53, 39, 33, 30, 24, 18, 12, 5, 63, 55, 48, 27, 60, 41, 37, 16, 46, 35, 44, 21, 52, 32, 23, 11, 54, 26, 40, 15, 34, 20, 31, 10, 25, 14, 19, 9, 13, 8, 7, 6]
def nPows : List Int := [1, 10, 100, 1000, 10000, 100000, 1000000, 10000000, 100000000, 1000000000, 10000000000, 100000000000, 1000000000000, 10000000000000, 100000000000000, 1000000000000000, 10000000000000000, 100000000000000000, 1000000000000000000, 10000000000000000000]
def nAscii : List Int := [0, 0, 0, 0, 0, 0, 0, 0, 0, 1, 1, 1, 1, 1, 0, 0, 0, 0, 0, 0, 0, 0, 0, 0, 0, 0, 0, 0, 0, 0, 0, 0, 1, 0, 0, 0, 0, 0, 0, 0, 0, 0, 0, 0, 0, 0, 0, 0, 0, 0, 0, 0, 0, 0, 0, 0, 0, 0, 0, 0, 0, 0, 0, 0, 0, 0, 0, 0, 0, 0, 0, 0, 0, 0, 0, 0, 0, 0, 0, 0, 0, 0, 0, 0, 0, 0, 0, 0, 0, 0, 0, 0, 0, 0, 0, 0, 0, 0, 0, 0, 0, 0, 0, 0, 0, 0, 0, 0, 0, 0, 0, 0, 0, 0, 0, 0, 0, 0, 0, 0, 0, 0, 0, 0, 0, 0, 0, 0, 0, 0, 0, 0, 0, 0, 0, 0, 0, 0, 0, 0, 0, 0, 0, 0, 0, 0, 0, 0, 0, 0, 0, 0, 0, 0, 0, 0, 0, 0, 0, 0, 0, 0, 0, 0, 0, 0, 0, 0, 0, 0, 0, 0, 0, 0, 0, 0, 0, 0, 0, 0, 0, 0, 0, 0, 0, 0, 0, 0, 0, 0, 0, 0, 0, 0, 0, 0, 0, 0, 0, 0, 0, 0, 0, 0, 0, 0, 0, 0, 0, 0, 0, 0, 0, 0, 0, 0, 0, 0, 0, 0, 0, 0, 0, 0, 0, 0, 0, 0, 0, 0, 0, 0, 0, 0, 0, 0, 0, 0, 0, 0, 0, 0, 0, 0, 0, 0, 0, 0, 0, 0, 0, 0, 0, 0, 0, 0]
theorem gB32_eq : gB32 = .cells 375 false 0 (nB32.map (AV.int .u8)) := by kernel_rfl
theorem gB64_eq : gB64 = .cells 376 false 0 (nB64.map (AV.int .u8)) := by kernel_rfl
theorem gPows_eq : gPows = .cells 299 false 0 (nPows.map (AV.int .u64)) := by kernel_rfl
theorem gAscii_eq : gAscii = .cells 200 false 0 (nAscii.map (AV.int .u8)) := by kernel_rfl
theorem dB32 : (Rows.laid_math_bits_deBruijn32tab : DataW Unit) = .agg (nB32.map fun i => .lit (.int .u8 i)) := by kernel_rfl
theorem dB64 : (Rows.laid_math_bits_deBruijn64tab : DataW Unit) = .agg (nB64.map fun i => .lit (.int .u8 i)) := by kernel_rfl
theorem dPows : (Rows.laid_internal_strconv_uint64pow10 : DataW Unit) = .agg (nPows.map fun i => .lit (.int .u64 i)) := by kernel_rfl
theorem dAscii : (Rows.laid_strings_asciiSpace : DataW Unit) = .agg (nAscii.map fun i => .lit (.int .u8 i)) := by kernel_rfl

/-- the condition's data part -/
def laidRest : List (String × DataW Unit) := [("math/bits.deBruijn32tab", Rows.laid_math_bits_deBruijn32tab), ("math/bits.deBruijn64tab", Rows.laid_math_bits_deBruijn64tab), ("internal/strconv.uint64pow10", Rows.laid_internal_strconv_uint64pow10), ("strconv.ErrRange", Rows.laid_strconv_ErrRange), ("strconv.ErrSyntax", Rows.laid_strconv_ErrSyntax), ("unicode.White_Space", Rows.laid_unicode_White_Space), ("strings.asciiSpace", Rows.laid_strings_asciiSpace)]
theorem laid_split {W : World} (h : laidMetH Tryz.prog Rows.plainKnownRow.laid W) : laidMet Tryz.prog laidRest W := by
  have e : laidMetH Tryz.prog Rows.plainKnownRow.laid W = (laidMet Tryz.prog laidRest W ∧ handlesMet Tryz.prog [("errors.errorType", Rows.laid_errors_errorType)] W) := by kernel_rfl
  rw [e] at h
  exact h.1

theorem ints_at {W : World} {n : String} {g' g : Nat} {t' t e : TypeId} {k : IntKind} {ints : List Int} {cs : Array Value} {fuel : Nat} {p : List MemPlace} {d : DataW Unit} {o : AObj} (hsh : W.ShapedOpen Tryz.prog)
    (h1 : Tryz.prog.globalNamed n = some g) (h2 : (Tryz.prog.globals[g]?).map (·.type) = some t) (hg : g < 10) (hz : (gz g).map (·.2) = some t)
    (hd : d = .agg (ints.map fun i => .lit (.int k i))) (ho : o = .cells t false 0 (ints.map (AV.int k)))
    (ht : Tryz.prog.underlying t = some (.array ints.length e)) (hu : Tryz.prog.underlying e = some (.int k)) (hce : Tryz.prog.cellsOf e = 1) (hct : Tryz.prog.cellsOf t = ints.length)
    (a1 : Tryz.prog.globalNamed n = some g') (a2 : (Tryz.prog.globals[g']?).map (·.type) = some t') (a3 : W.var? Tryz.prog n = some cs) (a4 : DataW.trod (fun _ => ()) Tryz.prog W 0 (fun _ => true) false fuel t' cs.toList = some (d, p)) :
    ∃ O, W.heap[g]? = some O ∧ ∀ σ : Sg, RelO σ o 0 (szOf (some O)) O := by
  rw [h1] at a1; cases a1
  rw [h2] at a2; cases a2
  obtain ⟨cs', hh⟩ := glob hsh hg hz
  have := cells_of_var h1 a3 hh
  subst this
  rw [hd] at a4
  have hcs := ints_of_trod ht hu hce hct a4
  refine ⟨_, hh, fun σ => ?_⟩
  rw [ho]
  refine relO_whole ?_
  rw [hcs]
  exact relL_ints σ k ints
theorem row407 : ∀ u, Tryz.prog.typeName? 3 u = some "*errors.errorString" → u = 407 := fun u h =>
  typeName_ptr_named (nm := "errors.errorString") (by kernel_rfl) (by kernel_rfl) (by decide) u h
theorem err_at {W : World} {n : String} {g' g : Nat} {t' : TypeId} {cs : Array Value} {fuel : Nat} {p : List MemPlace} {d : DataW Unit} {ms : Array (String × TypeId)} (hsh : W.ShapedOpen Tryz.prog)
    (h1 : Tryz.prog.globalNamed n = some g) (h2 : (Tryz.prog.globals[g]?).map (·.type) = some 35) (hg : g < 10) (hz : (gz g).map (·.2) = some 35) (hi : Tryz.prog.underlying 35 = some (.interface ms))
    (a1 : Tryz.prog.globalNamed n = some g') (a2 : (Tryz.prog.globals[g']?).map (·.type) = some t') (a3 : W.var? Tryz.prog n = some cs) (a4 : DataW.trod (fun _ => ()) Tryz.prog W 0 (fun _ => true) false fuel t' cs.toList = some (.iface "*errors.errorString" d, p)) :
    ∃ O, W.heap[g]? = some O ∧ ∀ σ : Sg, RelO σ gErr 0 (szOf (some O)) O := by
  rw [h1] at a1; cases a1
  rw [h2] at a2; cases a2
  obtain ⟨cs', hh⟩ := glob hsh hg hz
  have := cells_of_var h1 a3 hh
  subst this
  obtain ⟨_, u, v, hcs, hn, _⟩ := iface_of_trod hi a4
  have := row407 u hn
  subst this
  refine ⟨_, hh, fun σ => ?_⟩
  refine relO_whole ?_
  rw [hcs]
  exact .cons _ _ _ _ (.iface _ _ _ (.top v)) .nil
theorem max_cell {W : World} (hsh : W.ShapedOpen Tryz.prog) : ∃ O, W.heap[3]? = some O ∧ ∀ σ : Sg, RelO σ gMax 0 (szOf (some O)) O := by
  cases hq : gz 3 with
  | none => exact absurd hq (by have : (gz 3).isSome = true := by kernel_rfl
                                intro h; rw [h] at this; cases this)
  | some p =>
    obtain ⟨z, u⟩ := p
    have e : (gz 3).map (fun p => (p.1.size, p.2)) = some (1, 3) := by kernel_rfl
    rw [hq] at e
    have e1 : z.size = 1 ∧ u = 3 := by simpa using e
    obtain ⟨hz, rfl⟩ := e1
    obtain ⟨m, hm⟩ := cell_of_shapedOpen_int (k := .i64) hsh (by rw [globals_size]; decide) hq hz (by kernel_rfl) (by kernel_rfl) (by kernel_rfl)
    obtain ⟨cs, hh, hs, _⟩ := hsh.1 3 z 3 (by rw [globals_size]; decide) hq
    refine ⟨_, hh, fun σ => ?_⟩
    refine relO_whole ?_
    have h0 : cs[0]? = some (.int .i64 m) := by simpa [World.cell?, hh] using hm
    have h1 : cs.toList = [.int .i64 m] := by
      apply List.ext_getElem?
      intro i
      cases i with
      | zero => rw [Array.getElem?_toList, h0]; rfl
      | succ i => rw [List.getElem?_eq_none (by simp; omega), List.getElem?_eq_none (by simp)]
    rw [h1]
    exact .cons _ _ _ _ (.aint _ _ _ m (fun _ h => by cases h) (fun _ h => by cases h)) .nil
theorem any_at {W : World} (hsh : W.ShapedOpen Tryz.prog) {g : Nat} {t : TypeId} (hg : g < 10) (hz : (gz g).map (·.2) = some t) : ∃ O, W.heap[g]? = some O ∧ ∀ σ : Sg, RelO σ .any 0 (szOf (some O)) O := by
  obtain ⟨cs, hh⟩ := glob hsh hg hz
  exact ⟨_, hh, fun σ => .any _ _ _⟩

theorem rep_start {W : World} (hsh : W.ShapedOpen Tryz.prog) (hl : laidMetH Tryz.prog Rows.plainKnownRow.laid W) : Rep Tryz.prog (sgG Tryz.prog.globals.size W) (stG objs) W := by
  obtain ⟨ps, hv, _⟩ := laid_split hl
  obtain ⟨_, _, _, _, _, _, a1, a2, a3, a4, hv, _⟩ := hv
  have h6 := ints_at (g := 6) (t := 375) hsh (by kernel_rfl) (by kernel_rfl) (by decide) (by kernel_rfl) dB32 gB32_eq (e := 5) (by kernel_rfl) (by kernel_rfl) (by kernel_rfl) (by kernel_rfl) a1 a2 a3 a4
  obtain ⟨_, _, _, _, _, _, a1, a2, a3, a4, hv, _⟩ := hv
  have h7 := ints_at (g := 7) (t := 376) hsh (by kernel_rfl) (by kernel_rfl) (by decide) (by kernel_rfl) dB64 gB64_eq (e := 5) (by kernel_rfl) (by kernel_rfl) (by kernel_rfl) (by kernel_rfl) a1 a2 a3 a4
  obtain ⟨_, _, _, _, _, _, a1, a2, a3, a4, hv, _⟩ := hv
  have h4 := ints_at (g := 4) (t := 299) hsh (by kernel_rfl) (by kernel_rfl) (by decide) (by kernel_rfl) dPows gPows_eq (e := 211) (by kernel_rfl) (by kernel_rfl) (by kernel_rfl) (by kernel_rfl) a1 a2 a3 a4
  obtain ⟨_, _, _, _, _, _, a1, a2, a3, a4, hv, _⟩ := hv
  have h5 := err_at (g := 5) hsh (by kernel_rfl) (by kernel_rfl) (by decide) (by kernel_rfl) Tryz.underlying35 a1 a2 a3 a4
  obtain ⟨_, _, _, _, _, _, a1, a2, a3, a4, hv, _⟩ := hv
  have h8 := err_at (g := 8) hsh (by kernel_rfl) (by kernel_rfl) (by decide) (by kernel_rfl) Tryz.underlying35 a1 a2 a3 a4
  obtain ⟨_, _, _, _, _, _, _, _, _, _, hv, _⟩ := hv
  obtain ⟨_, _, _, _, _, _, a1, a2, a3, a4, hv, _⟩ := hv
  have h1 := ints_at (g := 1) (t := 200) hsh (by kernel_rfl) (by kernel_rfl) (by decide) (by kernel_rfl) dAscii gAscii_eq (e := 5) (by kernel_rfl) (by kernel_rfl) (by kernel_rfl) (by kernel_rfl) a1 a2 a3 a4
  have h0 := any_at (g := 0) (t := 194) hsh (by decide) (by kernel_rfl)
  have h2 := any_at (g := 2) (t := 292) hsh (by decide) (by kernel_rfl)
  have h9 := any_at (g := 9) (t := 292) hsh (by decide) (by kernel_rfl)
  have h3 := max_cell hsh
  refine rep_stG (by rw [globals_size]; rfl) fun g o ho => ?_
  unfold objs at ho
  match g, ho with
  | 0, ho => cases ho; obtain ⟨O, x, y⟩ := h0; exact ⟨O, x, y _⟩
  | 1, ho => cases ho; obtain ⟨O, x, y⟩ := h1; exact ⟨O, x, y _⟩
  | 2, ho => cases ho; obtain ⟨O, x, y⟩ := h2; exact ⟨O, x, y _⟩
  | 3, ho => cases ho; obtain ⟨O, x, y⟩ := h3; exact ⟨O, x, y _⟩
  | 4, ho => cases ho; obtain ⟨O, x, y⟩ := h4; exact ⟨O, x, y _⟩
  | 5, ho => cases ho; obtain ⟨O, x, y⟩ := h5; exact ⟨O, x, y _⟩
  | 6, ho => cases ho; obtain ⟨O, x, y⟩ := h6; exact ⟨O, x, y _⟩
  | 7, ho => cases ho; obtain ⟨O, x, y⟩ := h7; exact ⟨O, x, y _⟩
  | 8, ho => cases ho; obtain ⟨O, x, y⟩ := h8; exact ⟨O, x, y _⟩
  | 9, ho => cases ho; obtain ⟨O, x, y⟩ := h9; exact ⟨O, x, y _⟩
  | _ + 10, ho => simp at ho
end Go.Proofs.YtlohkhfopnkcmaaGreatDoor
