/- The evaluator's operations agree with the machine's: builtins and values put together. -/
import Derived.Test.YtlohkhfopnkcmaaGreatDoorEvD
import Derived.Laws.RangeString
import Derived.Laws.MakeOwn

/- Operations: append, make, build, and others. -/
namespace Go.Ev
open Go

section
variable {P : Program} {σ : Sg} {s : St} {w : World}

theorem cvk_zero (hP : Fit P) {e : TypeId} {k : List AV → R} (h : zerok P e (fun v => cvk v k) = .ok) : ∃ i z cs, P.info? e = some i ∧ i.zero = some z ∧ k cs = .ok ∧ RelL σ cs z.cells.toList ∧ cs.length = i.size := by
  obtain ⟨i, z, a, hi, hz, e1, hr⟩ := zerok_ok σ h
  obtain ⟨cs, e2, hr2⟩ := cvk_ok hr e1
  exact ⟨i, z, cs, hi, hz, e2, hr2, by rw [hr2.length, ← hP.zero _ _ _ (zerok_lt h) hi hz]; simp⟩
theorem length_rep {α : Type} (n : Nat) (l : List α) : (List.replicate n l).flatten.length = n * l.length := by simp

theorem appendk_ok (hP : Fit P) (h : Rep P σ s w) {ts : Array TypeId} {ty : TypeId} {x y : AV} {u v : Value} (hx : RelV σ x u) (hy : RelV σ y v) {k : AV → St → R} (e : appendk P s ts.toList x y k = .ok) :
    ∃ r z s' w' τ, k r s' = .ok ∧ Did2 P σ s w τ s' w' ∧ RelV τ r z ∧ (Builtin.append_ ts ty #[u, v]).run P w = .ok z w' := by
  obtain ⟨t, ht, e1⟩ := nth0 e
  obtain ⟨d, hd, e2⟩ := tyk_ok e1
  obtain ⟨el, rfl, e3⟩ := evonSlice_ok e2
  obtain ⟨i, hi, e4⟩ := szk_ok e3
  obtain ⟨i', hi', e5⟩ := bytesk_ok e4
  rw [hi] at hi'; cases hi'
  obtain ⟨hb, e6⟩ := ifk_no e5
  rw [Bool.and_eq_true, Nat.blt_eq] at hb
  have hz0 := hb.1
  have hbytes := Nat.le_of_ble_eq_true hb.2
  obtain ⟨zv, hzv⟩ := Option.isSome_iff_exists.1 (hP.elem t el i (tyk_lt e1) hd hi)
  -- more of what is there
  have more : (ts[1]? = none ∨ ∃ u D, ts[1]? = some u ∧ P.underlying u = some D ∧ ∀ q, D ≠ .int q) → apMore s i.size y (fun n new => apTo s x k el i.size n new) = .ok →
      ∃ r z s' w' τ, k r s' = .ok ∧ Did2 P σ s w τ s' w' ∧ RelV τ r z ∧ (Builtin.append_ ts ty #[u, v]).run P w = .ok z w' := by
    intro hts e7
    obtain ⟨n, e8, hn, hnv⟩ := lenOfk_ok (P := P) hy e7
    obtain ⟨new, vs, e9, hl, hr, hrun⟩ := firstk_ok (P := P) h.toRepC hy (fun S hS => by
      rcases hnv with ⟨S', h1, h2, _⟩ | ⟨p, c, h1⟩
      · rw [hS] at h1; cases h1; exact Nat.le_of_eq h2
      · rw [hS] at h1; cases h1) e8
    obtain ⟨base, sLen, sCap, rfl, hm, r, z, s', w', τ, e10, hdid, hrel, hrun2⟩ := apTo_ok hP h hx (szk_lt e3) hi hzv hl hr hz0 hrun e9
    exact ⟨r, z, s', w', τ, e10, hdid, hrel, by rw [app_more ht hd hi hzv hts hn hm hbytes]; exact hrun2⟩
  have hlist : ts.toList = [t] ∨ ∃ u r, ts.toList = t :: u :: r ∧ ts[1]? = some u := by
    have h0 : ts.toList[0]? = some t := by simpa using ht
    match hl : ts.toList, h0 with
    | [t'], h0 => simp at h0; subst h0; exact .inl rfl
    | t' :: u :: r, h0 =>
      simp at h0; subst h0
      have h1 : ts.toList[1]? = some u := by rw [hl]; rfl
      exact .inr ⟨u, r, rfl, by simpa using h1⟩
  rcases hlist with hl | ⟨u1, r1, hl, hu1⟩
  · have h1 : ts.toList[1]? = none := by rw [hl]; rfl
    have hts : ts[1]? = none := by simpa using h1
    rw [hl] at e6
    exact more (.inl hts) e6
  · rw [hl] at e6
    obtain ⟨D, hD, e7⟩ := tyk_ok (show tyk P u1 (fun d => d.evonInt (fun _ => apMake P el i.size y fun n new => apTo s x k el i.size n new) (apMore s i.size y fun n new => apTo s x k el i.size n new)) = .ok from e6)
    by_cases hint : ∃ q, D = .int q
    · obtain ⟨q', rfl⟩ := hint
      obtain ⟨q, n, rfl, e8⟩ := natk_ok (show natk y (fun n => ifk (Nat.ble n 1048576) (zerok P el fun v => cvk v fun cs => repk n cs fun new => apTo s x k el i.size n new) (.no 93)) = .ok from e7)
      cases hy
      obtain ⟨hn, e9⟩ := ifk_no e8
      have hn := Nat.le_of_ble_eq_true hn
      obtain ⟨i2, z2, cs, hi2, hz2, e10, hcs, hcl⟩ := cvk_zero (σ := σ) hP e9
      rw [hi] at hi2; cases hi2
      rw [hzv] at hz2; cases hz2
      rw [repk_eq] at e10
      have happ : ∀ d, (if n * i.size = 0 then pure #[] else pure (Builtin.zeroCells zv.cells n) : Sem (Array Value)).run P (w.draw d) = .ok ((List.replicate n zv.cells.toList).flatten.toArray) (w.draw d) := by
        intro d
        split
        · rename_i h0
          have hn0 : n = 0 := by
            rcases Nat.mul_eq_zero.1 h0 with hh | hh
            · exact hh
            · omega
          subst hn0; rfl
        · simp only [Sem.run_pure]
          congr 1
          apply Array.ext'
          rw [zeroCells_toList]
      obtain ⟨base, sLen, sCap, rfl, hm, r, z, s', w', τ, e11, hdid, hrel, hrun2⟩ := apTo_ok hP h hx (szk_lt e3) hi hzv (by rw [length_rep, hcl]) (hcs.replicate n) hz0 happ e10
      exact ⟨r, z, s', w', τ, e11, hdid, hrel, by rw [show (Int.ofNat n) = (n : Int) from rfl, app_make ht hd hi hzv hu1 hD hn hm hbytes]; exact hrun2⟩
    · refine more (.inr ⟨u1, D, hu1, hD, fun q hq => hint ⟨q, hq⟩⟩) ?_
      cases D <;> first | exact e7 | exact absurd ⟨_, rfl⟩ hint
end
end Go.Ev

/- Operations: texts in place, building. -/
namespace Go.Ev
open Go

section
variable {P : Program} {σ : Sg} {s : St} {w : World}

theorem run_loadBytes {c : Nat} {cs : Array Value} {e : TypeId} {fr : Nat × Nat} (h : w.heap[c]? = some (.cells cs e fr)) : ∀ (bs : List UInt8) (o : Nat) (acc : ByteArray), ((cs.toList.drop o).take bs.length) = bs.map byteVal →
    ∃ S : ByteArray, S.data.toList = acc.data.toList ++ bs ∧ (loadBytes ⟨c, o, none⟩ acc bs.length).run P w = .ok S w
  | [], o, acc, _ => ⟨acc, by simp, rfl⟩
  | b :: bs, o, acc, hb => by
    have h0 : cs.toList[o]? = some (byteVal b) := by
      have : ((cs.toList.drop o).take (b :: bs).length)[0]? = some (byteVal b) := by rw [hb]; rfl
      simpa using this
    have h1 : ((cs.toList.drop (o + 1)).take bs.length) = bs.map byteVal := by
      have : ((cs.toList.drop o).take (b :: bs).length).drop 1 = bs.map byteVal := by rw [hb]; rfl
      rw [List.drop_take, List.drop_drop] at this
      simpa using this
    have hcell : w.cell? ⟨c, o, none⟩ = some (byteVal b) := by rw [cell_of_blk h]; simpa using h0
    obtain ⟨S, hS, hrun⟩ := run_loadBytes h bs (o + 1) (acc.push b) h1
    refine ⟨S, by rw [hS]; simp, ?_⟩
    simp only [List.length_cons, loadBytes, Sem.run_bind, run_load, hcell, Result.andThen_ok, byteVal, Addr.add_mk]
    have : (UInt8.ofNat ((b.toNat : Int)).toNat) = b := by simp
    have h2 : Nat.toUInt8 ((b.toNat : Int)).toNat = b := this
    rw [h2]
    exact hrun

theorem liesAt_bytes {el u : TypeId} {i : TypeInfo} (hi : P.info? el = some i) (hsz : i.size = 1) (he : P.underlying el = some (.int .u8)) (hu : P.underlying u = some (.int .u8)) {count off n : Nat} (h : off + n ≤ count) (_hn : 0 < n) :
    liesAt P P.depth el (count / P.cellsOf el) off u n = true := by
  obtain ⟨d, hd⟩ : ∃ d, P.depth = d + 1 := ⟨_, rfl⟩
  have hc : P.cellsOf el = 1 := by simp [Program.cellsOf, hi, hsz]
  have hs : sameLayout P P.depth el u = true := by rw [hd]; simp [sameLayout, he, hu]
  have hr : rowAt P (sameLayout P P.depth · u) P.depth el (count / P.cellsOf el) off n = true := by
    rw [hd] at hs ⊢
    simp only [rowAt, hc]
    simp [hs, Nat.mod_one]
    omega
  rw [hd]
  rw [hd] at hr
  simp only [liesAt]
  rw [show P.depth = d + 1 from hd, hr]
  rfl

theorem usAt_ok (h : Rep P σ s w) {ts : Array TypeId} {ty : TypeId} {a : Adr} {c sh sz off n : Nat} (ha : σ a = .at c sh sz) (hn : 0 < n) {q : IntKind} {k : AV → St → R} (e : usAt P s ts.toList a off n k = .ok) :
    ∃ r z s' w', k r s' = .ok ∧ Did P σ s w s' w' ∧ RelV σ r z ∧ (Builtin.unsafeString_ ts ty #[.pointer (some ⟨c, sh + off, none⟩), .int q (n : Int)]).run P w = .ok z w' := by
  obtain ⟨o, ho, e1⟩ := objk_ok e
  obtain ⟨el, g, fz, vs, rfl, e2⟩ := AObj.onCells_ok e1
  obtain ⟨d, hd, e3⟩ := tyk_ok e2
  cases d <;> first | (exact (no_ok (n := 114) e3).elim) | skip
  case int qq =>
  cases qq <;> first | (exact (no_ok (n := 114) e3).elim) | skip
  obtain ⟨i, hi, e4⟩ := szk_ok (show szk P el (fun z => nthk 0 ts.toList fun t => tyk P t fun d => d.evonPointer (fun u => tyk P u fun d => (match d with
      | .int .u8 => ifk (Nat.beq z 1 && !Nat.beq fz 1 && Nat.ble n 1048576) (splitk off vs fun _ r => splitk n r fun l _ => textk l fun l m => fN (Nat.max fz (Nat.succ (Nat.add off n))) fun fz => putObjk s a (some (.cells el g fz vs)) fun s => k (.str l m) s) (.no 119)
      | _ => .no 119)) (.no 119)) = .ok from e3)
  obtain ⟨pt, hpt, e5⟩ := nth0 e4
  obtain ⟨dp, hdp, e6⟩ := tyk_ok e5
  cases dp <;> first | (exact (no_ok (n := 119) e6).elim) | skip
  case pointer u =>
  obtain ⟨du, hdu, e7⟩ := tyk_ok (show tyk P u _ = .ok from e6)
  cases du <;> first | (exact (no_ok (n := 119) e7).elim) | skip
  case int qu =>
  cases qu <;> first | (exact (no_ok (n := 119) e7).elim) | skip
  obtain ⟨hb, e8⟩ := ifk_no (show ifk (Nat.beq i.size 1 && !Nat.beq fz 1 && Nat.ble n 1048576) _ (.no 119) = .ok from e7)
  simp only [Bool.and_eq_true, Bool.not_eq_true'] at hb
  have hsz1 := nbeq hb.1.1
  have hfz : fz ≠ 1 := fun hh => by have := hb.1.2; rw [hh] at this; cases this
  have hnm := Nat.le_of_ble_eq_true hb.2
  obtain ⟨x, y, hxy, hx, e9⟩ := splitk_ok e8
  obtain ⟨l, y', rfl, hl, e10⟩ := splitk_ok e9
  subst hxy
  obtain ⟨cs, fr, h2, hs, hlen, hg, hv, hf, hf', hf1⟩ := h.cells ha ho
  simp only [List.length_append] at hlen
  have hlr : RelL σ l ((cs.toList.drop (sh + off)).take n) := by
    have := hv.split.2.split.1
    rw [List.drop_take, List.take_take, List.drop_drop, hx, hl] at this
    simp only [List.length_append] at this
    rw [Nat.min_eq_left (by omega)] at this
    exact this
  obtain ⟨bs, hbs, e11⟩ := textk_ok hlr e10
  have hbl : bs.length = n := by
    have := hlr.length; rw [hbs] at this; simpa [hl] using this.symm
  rw [fN_eq, putObjk_eq] at e11
  obtain ⟨S, hS, hrun⟩ := run_loadBytes (P := P) (w := w) h2 bs (sh + off) .empty (by rw [hbl]; exact hbs)
  have hS' : S.data.toList = bs := by simpa using hS
  have hfrz : w.freeze ⟨c, sh + off, none⟩ n = w.upd c (.cells cs el (if fr.1 == fr.2 then (sh + off, sh + off + n) else (min fr.1 (sh + off), max fr.2 (sh + off + n)))) := by
    obtain ⟨lo, hi⟩ := fr
    unfold World.freeze World.upd
    rw [if_neg (by omega)]
    congr 1
    apply Array.ext'
    simp only [Array.toList_modify, Array.toList_setIfInBounds]
    apply List.ext_getElem?
    intro j
    rw [List.getElem?_modify, List.getElem?_set]
    have h' : w.heap.toList[c]? = some (.cells cs el (lo, hi)) := by simpa using h2
    have hc := lt_of_get h2
    split
    · rename_i hj; subst hj; rw [h']; simp [hc]
    · simp
  refine ⟨_, .string S, _, w.upd c (.cells cs el (if fr.1 == fr.2 then (sh + off, sh + off + n) else (min fr.1 (sh + off), max fr.2 (sh + off + n)))), e11, ⟨h.put ha ?_ (by rw [ho]; simp), .put h ha (by rw [ho]; simp)⟩, ?_, ?_⟩
  · have hfr2 := hf1 hfz
    refine .cells _ _ _ _ _ _ _ _ hs (by simp only [List.length_append]; omega) hg hv (fun h0 => ?_) (fun o h1 h2 => ?_) (fun _ => ?_)
    · have : Nat.max fz (Nat.succ (Nat.add off n)) ≥ Nat.succ (Nat.add off n) := Nat.le_max_right _ _
      omega
    all_goals
      have hm1 : fz ≤ Nat.max fz (Nat.succ (Nat.add off n)) := Nat.le_max_left _ _
      have hm2 : off + n + 1 ≤ Nat.max fz (Nat.succ (Nat.add off n)) := Nat.le_max_right _ _
      have hlast : (if fr.1 == fr.2 then (sh + off, sh + off + n) else (min fr.1 (sh + off), max fr.2 (sh + off + n))).2 ≤ max fr.2 (sh + off + n) := by
        split
        · exact Nat.le_max_right _ _
        · exact Nat.le_refl _
    · left
      have : o < max fr.2 (sh + off + n) := Nat.lt_of_lt_of_le h2 hlast
      omega
    · omega
  · rw [← hS']; exact .str S
  · have hv : (variablesAt ⟨c, sh + off, none⟩ u n).run P w = .ok true w := by
      have hsh : w.shape? c = some (el, cs.size) := by simp [World.shape?, h2]
      simp only [variablesAt, Sem.run_bind, run_program, Result.andThen_ok, run_shape, hsh, Sem.run_pure]
      rw [liesAt_bytes hi hsz1 hd hdu (by omega) hn]
    have hel : (elemOf pt).run P w = .ok u w := by simp [elemOf, run_ty hdp]
    have hn0 : ¬ ((n : Int) < 0) := by omega
    have hn1 : ¬ ((n : Int) > IntKind.i64.max) := by rw [IntKind.max_i64]; omega
    have hn2 : ¬ ((n : Int) = 0) := by omega
    have hrun' : (loadBytes ⟨c, sh + off, none⟩ .empty n).run P w = .ok S w := by rw [← hbl]; exact hrun
    have heq : Builtin.unsafeString_ ts ty #[.pointer (some ⟨c, sh + off, none⟩), .int q (n : Int)] = (do
        let n' ← asInt (.int q (n : Int))
        let some pt := ts[0]? | stuck "unsafe.String: no argument types"
        if n' < 0 then runtimePanic (.error "unsafe.String: len out of range")
        if n' > IntKind.i64.max then unsupported (.unsafePointer "String: a length above the largest int")
        if n' = 0 then pure (.string .empty)
        else if ← variablesAt ⟨c, sh + off, none⟩ (← elemOf pt) n'.toNat then do
          let s ← loadBytes ⟨c, sh + off, none⟩ .empty n'.toNat
          freeze ⟨c, sh + off, none⟩ n'.toNat
          pure (.string s)
        else unsupported (.unsafePointer "String: not so many bytes at ptr") : Sem Value) := rfl
    rw [heq]
    simp only [asInt, asIntOf, Sem.run_bind, Sem.run_pure, Result.andThen_ok, hpt, hn0, if_false, hn1, hn2, Int.toNat_natCast, hel, hv, if_true, hrun', run_freeze, hfrz]

theorem us_zero {ts : Array TypeId} {ty pt : TypeId} (hpt : ts[0]? = some pt) (p : Option Addr) (q : IntKind) : (Builtin.unsafeString_ ts ty #[.pointer p, .int q (0 : Nat)]).run P w = .ok (.string .empty) w := by
  cases p with
  | none =>
    have heq : Builtin.unsafeString_ ts ty #[.pointer none, .int q (0 : Nat)] = (do
        let n' ← asInt (.int q (0 : Nat))
        let some pt := ts[0]? | stuck "unsafe.String: no argument types"
        if n' < 0 then runtimePanic (.error "unsafe.String: len out of range")
        if n' > IntKind.i64.max then unsupported (.unsafePointer "String: a length above the largest int")
        if n' = 0 then pure (.string .empty)
        else runtimePanic (.error "unsafe.String: ptr is nil and len is not zero") : Sem Value) := rfl
    rw [heq]
    have h1 : ¬ (((0 : Nat) : Int) > IntKind.i64.max) := by rw [IntKind.max_i64]; omega
    have h2 : ¬ (((0 : Nat) : Int) < 0) := by omega
    have h3 : ((0 : Nat) : Int) = 0 := rfl
    simp only [asInt, asIntOf, Sem.run_bind, Sem.run_pure, Result.andThen_ok, hpt, h3, if_true]
    simp
  | some a =>
    have heq : Builtin.unsafeString_ ts ty #[.pointer (some a), .int q (0 : Nat)] = (do
        let n' ← asInt (.int q (0 : Nat))
        let some pt := ts[0]? | stuck "unsafe.String: no argument types"
        if n' < 0 then runtimePanic (.error "unsafe.String: len out of range")
        if n' > IntKind.i64.max then unsupported (.unsafePointer "String: a length above the largest int")
        if n' = 0 then pure (.string .empty)
        else if ← variablesAt a (← elemOf pt) n'.toNat then do
          let s ← loadBytes a .empty n'.toNat
          freeze a n'.toNat
          pure (.string s)
        else unsupported (.unsafePointer "String: not so many bytes at ptr") : Sem Value) := rfl
    rw [heq]
    have h1 : ¬ (((0 : Nat) : Int) > IntKind.i64.max) := by rw [IntKind.max_i64]; omega
    have h2 : ¬ (((0 : Nat) : Int) < 0) := by omega
    have h3 : ((0 : Nat) : Int) = 0 := rfl
    simp only [asInt, asIntOf, Sem.run_bind, Sem.run_pure, Result.andThen_ok, hpt, h3, if_true]
    simp
theorem unsafeStringk_ok (h : Rep P σ s w) {ts : Array TypeId} {ty : TypeId} {x n : AV} {u v : Value} (hx : RelV σ x u) (hn : RelV σ n v) {k : AV → St → R} (e : unsafeStringk P s ts.toList x n k = .ok) :
    ∃ r z s' w', k r s' = .ok ∧ Did P σ s w s' w' ∧ RelV σ r z ∧ (Builtin.unsafeString_ ts ty #[u, v]).run P w = .ok z w' := by
  obtain ⟨q, m, rfl, e1⟩ := natk_ok e
  cases hn
  have stay : ∀ p, ifk (Nat.beq m 0) (nthk 0 ts.toList fun _ => k (.str 0 0) s) (.no 113) = .ok → ∃ r z s' w', k r s' = .ok ∧ Did P σ s w s' w' ∧ RelV σ r z ∧ (Builtin.unsafeString_ ts ty #[.pointer p, .int q (Int.ofNat m)]).run P w = .ok z w' := fun p e2 => by
    obtain ⟨hm, e3⟩ := ifk_no e2
    have hm := nbeq hm
    subst hm
    obtain ⟨pt, hpt, e4⟩ := nth0 e3
    exact ⟨_, .string .empty, s, w, e4, ⟨h, .refl _ _ _⟩, .str .empty, us_zero hpt p q⟩
  cases hx <;> first | (exact (no_ok (n := 115) e1).elim) | skip
  case nilptr => exact stay none e1
  case ptr a off c sh sz ha =>
    have e2 : ifk (Nat.beq m 0) (nthk 0 ts.toList fun _ => k (.str 0 0) s) (usAt P s ts.toList a off m k) = .ok := e1
    cases hm : Nat.beq m 0
    · rw [hm] at e2
      have hpos : 0 < m := by
        rcases Nat.eq_zero_or_pos m with h0 | h0
        · subst h0; cases hm
        · exact h0
      exact usAt_ok h ha hpos e2
    · rw [hm] at e2
      exact stay _ (by rw [hm]; exact e2)
end
end Go.Ev

/- Operations: building. -/
namespace Go.Ev
open Go

section
variable {P : Program} {σ : Sg} {s : St} {w : World}

theorem foldl_place (off : Nat) : ∀ (us : List Value) (j : Nat) (cells : Array Value), off + j + us.length ≤ cells.size →
    ((us.zipIdx j).foldl (fun cs (p : Value × Nat) => cs.setIfInBounds (off + p.2) p.1) cells).toList = cells.toList.take (off + j) ++ us ++ cells.toList.drop (off + j + us.length) := by
  intro us
  induction us with
  | nil => intro j cells _; simp
  | cons u us ih =>
    intro j cells h
    simp only [List.length_cons] at h
    simp only [List.zipIdx_cons, List.foldl_cons]
    rw [ih (j + 1) _ (by simp; omega)]
    have hl : off + j < cells.toList.length := by simp; omega
    have hset : ∀ (l : List Value) (n k : Nat), n < l.length → (l.set n u).take (n + 1) ++ us ++ (l.set n u).drop (n + 1 + k) = l.take n ++ u :: us ++ l.drop (n + (k + 1)) := by
      intro l n k hn
      obtain ⟨x, y, B, rfl, hx⟩ : ∃ x y B, l = x ++ y :: B ∧ x.length = n := ⟨l.take n, l[n], l.drop (n + 1), by simp, by simp; omega⟩
      subst hx
      rw [List.set_append_right _ _ (Nat.le_refl _), Nat.sub_self, List.set_cons_zero, List.take_append, List.drop_append, List.take_append, List.drop_append]
      have a1 : x.length + 1 - x.length = 1 := by omega
      have a2 : x.length + 1 + k - x.length = k + 1 := by omega
      have a3 : x.length + (k + 1) - x.length = k + 1 := by omega
      have b1 : x.take (x.length + 1) = x := List.take_of_length_le (by omega)
      have b2 : x.drop (x.length + 1 + k) = [] := List.drop_of_length_le (by omega)
      have b3 : x.drop (x.length + (k + 1)) = [] := List.drop_of_length_le (by omega)
      rw [a1, a2, a3, b1, b2, b3]
      simp
    rw [Array.toList_setIfInBounds]
    have := hset cells.toList (off + j) us.length hl
    rw [List.length_cons, ← this]
    rw [Nat.add_assoc off j 1]

/-- parts -/
inductive PsRel (σ : Sg) : List (Nat × AV) → List (Nat × Value) → Prop where
  | nil : PsRel σ [] []
  | cons (i : Nat) (x : AV) (v : Value) (xs : List (Nat × AV)) (vs : List (Nat × Value)) (h : RelV σ x v) (t : PsRel σ xs vs) : PsRel σ ((i, x) :: xs) ((i, v) :: vs)
theorem partsk_ok (h : RepC P σ s w) {A : Act} {fr : T AV} {l : List (Nat × Operand)} (hf : ∀ p ∈ l, Knows σ fr A p.2) {k : List (Nat × AV) → R} (e : partsk l P fr k = .ok) :
    ∃ ps, k ps = .ok ∧ PsRel σ ps (l.map fun (i, x) => (i, A.eval x)) := by
  induction l generalizing k with
  | nil => exact ⟨[], e, .nil⟩
  | cons p l ih =>
    obtain ⟨v, e1, hv⟩ := opk_ok h (hf p (by simp)) (show opk p.2 P fr (fun v => partsk l P fr fun r => k ((p.1, v) :: r)) = .ok from e)
    obtain ⟨ps, e2, hps⟩ := ih (fun x hx => hf x (by simp [hx])) e1
    exact ⟨_, e2, .cons _ _ _ _ _ hv hps⟩
theorem layk_ok {cs : List AV} {off size : Nat} {v : AV} {u : Value} (hv : RelV σ v u) {cells : Array Value} (hc : RelL σ cs cells.toList) {k : List AV → R} (e : layk cs off size v k = .ok) :
    u.cells.size = size ∧ off + u.cells.size ≤ cells.size ∧ ∃ r, k r = .ok ∧ RelL σ r (u.cells.zipIdx.foldl (fun cs (p : Value × Nat) => cs.setIfInBounds (off + p.2) p.1) cells).toList := by
  obtain ⟨vs, e1, hvs⟩ := cvk_ok hv e
  rw [lenk_eq] at e1
  obtain ⟨hb, e2⟩ := ifk_no e1
  have hb := nbeq hb
  obtain ⟨x, y, rfl, hx, e3⟩ := splitk_ok e2
  obtain ⟨l, z, rfl, hl, e4⟩ := splitk_ok e3
  rw [appk_eq, appk_eq] at e4
  have h1 := hvs.length
  have h2 := hc.length
  simp only [List.length_append] at h2
  have hus : u.cells.size = vs.length := by rw [h1]; simp
  have hcs : cells.size = x.length + (l.length + z.length) := by rw [h2]; simp
  refine ⟨by omega, by omega, _, e4, ?_⟩
  have hf := foldl_place off u.cells.toList 0 cells (by simp; omega)
  have heq : (u.cells.zipIdx.foldl (fun cs (p : Value × Nat) => cs.setIfInBounds (off + p.2) p.1) cells) = ((u.cells.toList.zipIdx 0).foldl (fun cs (p : Value × Nat) => cs.setIfInBounds (off + p.2) p.1) cells) := by
    rw [← Array.foldl_toList, Array.toList_zipIdx]
  rw [heq, hf]
  have q1 := hc.split.1
  have q2 := hc.split.2.split.2
  rw [hx] at q1
  rw [List.drop_drop, hx, hl] at q2
  have hul : u.cells.toList.length = vs.length := h1.symm
  rw [Nat.add_zero, hul, List.append_assoc]
  exact q1.append (hvs.append q2)
theorem fillk_ok {place : Nat → (Nat → Nat → R) → R} {placeC : Nat → Option (Nat × Nat)} (hp : ∀ i kk, place i kk = .ok → ∃ off size, placeC i = some (off, size) ∧ kk off size = .ok) :
    ∀ {ps : List (Nat × AV)} {us : List (Nat × Value)} (_ : PsRel σ ps us) {cs : List AV} {cells : Array Value} (_ : RelL σ cs cells.toList) {k : List AV → R} (_ : fillk ps place cs k = .ok), ∃ r out, k r = .ok ∧ Instr.fill placeC cells us = some out ∧ RelL σ r out.toList := by
  intro ps us h
  induction h with
  | nil => intro cs cells hc k e; exact ⟨cs, cells, e, rfl, hc⟩
  | cons i x v xs vs hx t ih =>
    intro cs cells hc k e
    obtain ⟨off, size, hpc, e1⟩ := hp _ _ (show place i (fun off size => layk cs off size x fun cs => fillk xs place cs k) = .ok from e)
    obtain ⟨h1, h2, r, e2, hr⟩ := layk_ok hx hc e1
    obtain ⟨r', out, e3, hout, hr'⟩ := ih hr e2
    refine ⟨r', out, e3, ?_, hr'⟩
    simp only [Instr.fill, hpc]
    rw [if_neg (by simp [h1]; omega)]
    exact hout

theorem run_places {fs : Array Field} (w : World) (h : ∀ f ∈ fs.toList, (P.info? f.type).isSome = true) : ∃ pl : Array (Nat × Nat), (fs.mapM fun f => (do pure (f.offset, ← sizeOf f.type) : Sem (Nat × Nat))).run P w = .ok pl w ∧
    ∀ (i : Nat) (f : Field), fs[i]? = some f → ∃ i0, P.info? f.type = some i0 ∧ pl[i]? = some (f.offset, i0.size) := by
  have key : ∀ (l : List Field), (∀ f ∈ l, (P.info? f.type).isSome = true) → ∃ pl : List (Nat × Nat), (l.mapM fun f => (do pure (f.offset, ← sizeOf f.type) : Sem (Nat × Nat))).run P w = .ok pl w ∧
      ∀ (i : Nat) (f : Field), l[i]? = some f → ∃ i0, P.info? f.type = some i0 ∧ pl[i]? = some (f.offset, i0.size) := by
    intro l
    induction l with
    | nil => intro _; exact ⟨[], rfl, by simp⟩
    | cons f l ih =>
      intro hl
      obtain ⟨i0, hi0⟩ := Option.isSome_iff_exists.1 (hl f (by simp))
      obtain ⟨pl, hrun, hget⟩ := ih fun g hg => hl g (by simp [hg])
      refine ⟨(f.offset, i0.size) :: pl, ?_, ?_⟩
      · simp only [List.mapM_cons, Sem.run_bind, run_sz hi0, Result.andThen_ok, Sem.run_pure, hrun]
      · intro i g hg
        cases i with
        | zero => simp at hg; subst hg; exact ⟨i0, hi0, rfl⟩
        | succ i => exact hget i g (by simpa using hg)
  obtain ⟨pl, hrun, hget⟩ := key fs.toList h
  refine ⟨pl.toArray, ?_, fun i f hf => ?_⟩
  · rw [Array.mapM_eq_mapM_toList]
    simp only [Sem.run_map, hrun, Result.andThen_ok]
  · obtain ⟨i0, h1, h2⟩ := hget i f (by simpa using hf)
    exact ⟨i0, h1, by simpa using h2⟩

theorem exBuild_ok (hP : Fit P) (h : RepC P σ s w) {A : Act} {fr : T AV} {t : TypeId} {ps : Array (Nat × Operand)} (hf : ∀ p ∈ ps.toList, Knows σ fr A p.2) {k : ARes → St → R} (e : exBuild t ps P fr s k = .ok) :
    ∃ r z, k (.val r) s = .ok ∧ RelV σ r z ∧ (Instr.build t (ps.map fun (i, x) => (i, A.eval x))).run P w = .ok z w := by
  obtain ⟨us, e1, hus⟩ := partsk_ok h hf e
  obtain ⟨d, hd, e2⟩ := tyk_ok e1
  obtain ⟨i, z, cs, hi, hz, e3, hcs, hcl⟩ := cvk_zero (σ := σ) hP e2
  have hpl : (ps.map fun (p : Nat × Operand) => (p.1, A.eval p.2)).toList = ps.toList.map fun (p : Nat × Operand) => (p.1, A.eval p.2) := by simp
  cases d <;> first | (exact (no_ok (n := 202) e3).elim) | skip
  case struct fs =>
    obtain ⟨pl, hpl1, hpl2⟩ := run_places (P := P) w (hP.fields t fs (tyk_lt e1) hd)
    obtain ⟨r, out, e4, hout, hr⟩ := fillk_ok (place := placeS P fs) (placeC := fun i => pl[i]?) (fun j kk he => by
      obtain ⟨f, hf, he1⟩ := optk_ok he
      obtain ⟨i0, hi0, he2⟩ := szk_ok he1
      obtain ⟨i1, h1, h2⟩ := hpl2 j f hf
      rw [hi0] at h1; cases h1
      exact ⟨_, _, h2, he2⟩) hus hcs e3
    refine ⟨_, .agg out, e4, .agg _ _ hr, ?_⟩
    simp only [Instr.build, Sem.run_bind, run_zero hi hz, Result.andThen_ok, run_ty hd, hpl1, hpl, hout, Sem.run_pure]
  case array n el =>
    obtain ⟨i0, hi0, e4⟩ := szk_ok (show szk P el (fun n => fillk us (placeA n) cs fun cs => k (.val (.agg cs)) s) = .ok from e3)
    obtain ⟨r, out, e5, hout, hr⟩ := fillk_ok (place := placeA i0.size) (placeC := fun i => some (i * i0.size, i0.size)) (fun j kk he => by
      have he : fN (Nat.mul j i0.size) (fun o => kk o i0.size) = .ok := he
      rw [fN_eq] at he
      exact ⟨_, _, rfl, he⟩) hus hcs e4
    refine ⟨_, .agg out, e5, .agg _ _ hr, ?_⟩
    simp only [Instr.build, Sem.run_bind, run_zero hi hz, Result.andThen_ok, run_ty hd, run_sz hi0, hpl, hout, Sem.run_pure]

theorem spread (z : Array Value) (n : Nat) : ((Array.range (n * z.size)).map (z[· % z.size]!)).toList = (List.replicate n z.toList).flatten := zeroCells_toList z n

/-- a row of new cells, all of them known -/
theorem newRow_ok (h : Rep P σ s w) (el : TypeId) {cs : List AV} {cells : Array Value} (hc : RelL σ cs cells.toList) : Did2 P σ s w (σ.upd s.nx (.at w.heap.size 0 cells.size)) (s.new (.cells el false 0 cs)) (w.push (.cells cells el)) := by
  have hl : cs.length = cells.size := by rw [hc.length]; simp
  refine h.new (.cells _ _ _ _ _ _ _ _ rfl (by omega) (fun _ => ⟨rfl, hl⟩) ?_ (fun _ => rfl) (fun o _ h2 => by simp at h2) (fun _ => by simp))
  have : ((cells.toList.drop 0).take cs.length) = cells.toList := by rw [List.drop_zero, List.take_of_length_le (by simp; omega)]
  rw [this]
  exact hc.mono (Sg.le_upd (h.free (Nat.le_refl _)) _)
theorem exBuildSlice_ok (hP : Fit P) (h : Rep P σ s w) {A : Act} {fr : T AV} {t : TypeId} {len : Nat} {ps : Array (Nat × Operand)} (hf : ∀ p ∈ ps.toList, Knows σ fr A p.2) {k : ARes → St → R} (e : exBuildSlice t len ps P fr s k = .ok) :
    ∃ el cs cells, k (.val (.slice s.nx 0 len len)) (s.new (.cells el false 0 cs)) = .ok ∧ RelL σ cs cells.toList ∧ (Instr.buildSlice t len (ps.map fun (i, x) => (i, A.eval x))).run P w = .ok (.slice (some ⟨w.heap.size, 0, none⟩) len len) (w.push (.cells cells el)) := by
  obtain ⟨us, e1, hus⟩ := partsk_ok h.toRepC hf e
  obtain ⟨d, hd, e2⟩ := tyk_ok e1
  have hpl : (ps.map fun (p : Nat × Operand) => (p.1, A.eval p.2)).toList = ps.toList.map fun (p : Nat × Operand) => (p.1, A.eval p.2) := by simp
  cases d <;> first | (exact (no_ok (n := 204) e2).elim) | skip
  case slice el =>
    obtain ⟨i0, hi0, e3⟩ := szk_ok (show szk P el (fun n => ifk (Nat.ble len 65536 && Nat.ble n 256) (zerok P el fun z => cvk z fun zs => repk len zs fun cs => fillk us (placeA n) cs fun cs => newk s (.cells el false 0 cs) fun a s => k (.val (.slice a 0 len len)) s) (.no 203)) = .ok from e2)
    obtain ⟨hb, e4⟩ := ifk_no e3
    rw [Bool.and_eq_true] at hb
    have hb1 := Nat.le_of_ble_eq_true hb.1
    have hb2 := Nat.le_of_ble_eq_true hb.2
    obtain ⟨i, z, zs, hi, hz, e5, hzs, hzl⟩ := cvk_zero (σ := σ) hP e4
    rw [hi0] at hi; cases hi
    have hzz := hP.zero _ _ _ (zerok_lt e4) hi0 hz
    rw [repk_eq] at e5
    have hinit : RelL σ (List.replicate len zs).flatten ((Array.range (len * i0.size)).map (z.cells[· % z.cells.size]!)).toList := by
      rw [← hzz, spread]; exact hzs.replicate len
    obtain ⟨r, out, e6, hout, hr⟩ := fillk_ok (place := placeA i0.size) (placeC := fun i => some (i * i0.size, i0.size)) (fun j kk he => by
      have he : fN (Nat.mul j i0.size) (fun o => kk o i0.size) = .ok := he
      rw [fN_eq] at he
      exact ⟨_, _, rfl, he⟩) hus hinit e5
    rw [newk_eq] at e6
    refine ⟨el, r, out, e6, hr, ?_⟩
    have hlim : ¬ (len * i0.size > 2 ^ 24) := by
      have : len * i0.size ≤ 65536 * 256 := Nat.mul_le_mul hb1 hb2
      omega
    simp only [Instr.buildSlice, Sem.run_bind, run_ty hd, Result.andThen_ok, run_sz hi0, hlim, if_false]
    by_cases h0 : len * i0.size = 0
    · have hm : (Array.range (len * i0.size)).map (fun x => (#[] : Array Value)[x % (#[] : Array Value).size]!) = (Array.range (len * i0.size)).map (z.cells[· % z.cells.size]!) := by rw [h0]; simp
      rw [if_pos h0]
      simp only [Sem.run_bind, Sem.run_pure, Result.andThen_ok, hm, hpl, hout, newRow, run_newObj]
      rfl
    · rw [if_neg h0]
      simp only [Sem.run_bind, Sem.run_pure, Result.andThen_ok, run_zero hi0 hz, hpl, hout, newRow, run_newObj]
      rfl
end
end Go.Ev

/- Operations that give a value and do nothing else. -/
namespace Go.Ev
open Go

/-- operations that give a value and do nothing else -/
def valB (P : Program) (o : Op) : Bool :=
  match o with
  | .move _ | .assign _ | .pick _ _ _ | .build _ _ | .load _ _ | .nilCheck _ | .binOp _ _ _ _ _ | .unOp _ _ _ | .makeInterface _ _
  | .makeFunc _ _ _ | .slice _ _ _ _ _ | .fieldAddr _ _ _ | .field _ _ _ | .indexAddr _ _ _ | .index _ _ _ | .lookup _ _ _ _ | .typeAssert _ _ _ _ | .extract _ _ => true
  | .convert _ t _ => match P.underlying t with
    | some (.int _) => true
    | _ => false
  | .call { callee := .builtin b, .. } => (match b with
    | .len | .cap | .min | .max | .unsafeSliceData => true
    | _ => false)
  | _ => false

section
variable {P : Program} {σ : Sg} {s : St} {w : World}

theorem typeAssert_ok (σ : Sg) {v : AV} {u : Value} (hv : RelV σ v u) {xt t : TypeId} {ok : Bool} {k : AV → R} {d : TypeDesc} (hd : P.underlying t = some d)
    (e : taK P t ok k d v = .ok) : ∃ r z, k r = .ok ∧ RelV σ r z ∧ (Instr.typeAssert u xt t ok).run P w = .ok z w := by
  have hd' : ∀ ms, d ≠ .interface ms → True := fun _ _ => trivial
  by_cases hi : ∃ ms, d = .interface ms
  · obtain ⟨ms, rfl⟩ := hi
    exact (no_ok (n := 213) e).elim
  have zero : ∀ {k : AV → R}, zerok P t (fun z => k (.tuple [z, .bool false])) = .ok → ∃ r z, k r = .ok ∧ RelV σ r (.tuple #[z, .bool false]) ∧ (zeroValue t).run P w = .ok z w := fun {k} h => by
    obtain ⟨i, z, a, hi, hz, e1, hr⟩ := zerok_ok σ h
    exact ⟨_, z, e1, .tuple _ _ (.cons _ _ _ _ hr (.cons _ _ _ _ (.bool _) .nil)), run_zero hi hz w⟩
  cases hv with
  | niliface =>
    have e1 : (Bool.rec (.no 214) (zerok P t fun z => k (.tuple [z, .bool false])) ok : R) = .ok := by
      cases d <;> first | exact e | exact absurd ⟨_, rfl⟩ hi
    cases ok
    · exact (no_ok e1).elim
    · obtain ⟨r, z, e2, hr, hz⟩ := zero e1
      refine ⟨r, _, e2, hr, ?_⟩
      simp only [Instr.typeAssert, Sem.run_bind, run_ty hd, Result.andThen_ok]
      cases d <;> first | (simp [hz]; done) | exact absurd ⟨_, rfl⟩ hi
  | iface tu x y hx =>
    have e1 : ifk (Nat.beq tu t) (Bool.rec (k x) (k (.tuple [x, .bool true])) ok) (Bool.rec (.no 215) (zerok P t fun z => k (.tuple [z, .bool false])) ok) = .ok := by
      cases d <;> first | exact e | exact absurd ⟨_, rfl⟩ hi
    rw [ifk_eq] at e1
    split at e1
    · rename_i ht
      have ht := nbeq ht
      subst ht
      refine ⟨if ok then .tuple [x, .bool true] else x, if ok then .tuple #[y, .bool true] else y, by cases ok <;> exact e1, ?_, ?_⟩
      · cases ok
        · exact hx
        · exact .tuple _ _ (.cons _ _ _ _ hx (.cons _ _ _ _ (.bool _) .nil))
      · simp only [Instr.typeAssert, Sem.run_bind, run_ty hd, Result.andThen_ok]
        cases d <;> first | (simp; done) | exact absurd ⟨_, rfl⟩ hi
    · rename_i ht
      have ht : ¬ tu = t := fun hh => ht (by subst hh; exact Nat.beq_refl _)
      cases ok
      · exact (no_ok e1).elim
      · obtain ⟨r, z, e2, hr, hz⟩ := zero e1
        refine ⟨r, _, e2, hr, ?_⟩
        simp only [Instr.typeAssert, Sem.run_bind, run_ty hd, Result.andThen_ok]
        cases d <;> first | (simp [hz, ht]; done) | exact absurd ⟨_, rfl⟩ hi
  | _ => cases d <;> first | (exact (no_ok (n := 216) e).elim) | exact absurd ⟨_, rfl⟩ hi

theorem valk_ok (hP : Fit P) (h : RepC P σ s w) {A : Act} {fr : T AV} (o : Oper) (ho : valB P o.op = true) (hf : ∀ x ∈ o.op.operands, Knows σ fr A x) {k : ARes → St → R} (e : execk o.op P fr s k = .ok) :
    ∃ v x, k (.val v) s = .ok ∧ RelV σ v x ∧ (execOp A.eval o).run P w = .ok (.value x) w := by
  obtain ⟨dst, op, type, pos, after, guard⟩ := o
  cases op <;> first | (have ho' : false = true := ho; cases ho'; done) | skip
  case move x =>
    obtain ⟨v, e1, hr⟩ := opk_ok h (hf x (by simp [Op.operands])) (show opk x P fr (fun v => k (.val v) s) = .ok from e)
    exact ⟨v, _, e1, hr, rfl⟩
  case assign x =>
    obtain ⟨v, e1, hr⟩ := opk_ok h (hf x (by simp [Op.operands])) (show opk x P fr (fun v => k (.val v) s) = .ok from e)
    exact ⟨v, _, e1, hr, rfl⟩
  case pick c a b =>
    obtain ⟨v, e1, hr⟩ := opk_ok h (hf c (by simp [Op.operands])) (show opk c P fr (fun c => c.onBool (fun c => Bool.rec (opk b P fr fun v => k (.val v) s) (opk a P fr fun v => k (.val v) s) c) (.no 200)) = .ok from e)
    obtain ⟨t, rfl, e2⟩ := AV.onBool_ok e1
    generalize hu : A.eval c = u at hr
    cases hr
    cases t
    · obtain ⟨v, e3, hr3⟩ := opk_ok h (hf b (by simp [Op.operands])) e2
      exact ⟨v, A.eval b, e3, hr3, by simp [execOp, hu, asBool]⟩
    · obtain ⟨v, e3, hr3⟩ := opk_ok h (hf a (by simp [Op.operands])) e2
      exact ⟨v, A.eval a, e3, hr3, by simp [execOp, hu, asBool]⟩
  case build t ps =>
    obtain ⟨r, z, e1, hr, hrun⟩ := exBuild_ok (A := A) (k := k) hP h (fun p hp => hf p.2 (by simp [Op.operands]; exact ⟨_, Array.mem_def.2 hp⟩)) e
    exact ⟨r, z, e1, hr, by simp only [execOp, Sem.run_bind, hrun, Result.andThen_ok, Sem.run_pure]⟩
  case load t a =>
    obtain ⟨v, e1, hr⟩ := opk_ok h (hf a (by simp [Op.operands])) (show opk a P fr (fun a => a.onPtr (fun p off => loadVark P s t p off fun v => k (.val v) s) (.no 205)) = .ok from e)
    obtain ⟨p, off, rfl, e2⟩ := AV.onPtr_ok e1
    generalize hu : A.eval a = u at hr
    cases hr with
    | ptr _ _ c sh sz ha =>
    obtain ⟨v, x, e3, hrel, hrun⟩ := loadVark_ok (P := P) h ha e2
    exact ⟨v, x, e3, hrel, by simp [execOp, hu, Instr.loadAt, Instr.sureAddr, hrun]⟩
  case nilCheck x =>
    obtain ⟨v, e1, hr⟩ := opk_ok h (hf x (by simp [Op.operands])) (show opk x P fr (fun v => v.nilc (fun _ _ => k (.val v) s) (fun _ _ => k (.val v) s) (fun fn _ _ => ifk fn.isFunc (k (.val v) s) (.no 207)) (.no 207)) = .ok from e)
    generalize hu : A.eval x = u at hr
    rcases AV.nilc_ok e1 with ⟨a, o, rfl, e2⟩ | ⟨t, y, rfl, e2⟩ | ⟨f, a, c, rfl, e2⟩
    · cases hr; exact ⟨_, _, e2, .ptr _ _ _ _ _ (by assumption), by simp [execOp, hu]⟩
    · cases hr; exact ⟨_, _, e2, .iface _ _ _ (by assumption), by simp [execOp, hu]⟩
    · obtain ⟨hf, e3⟩ := ifk_no e2
      cases f <;> first | (have hf' : false = true := hf; cases hf'; done) | skip
      cases hr with
      | func _ g _ _ u v hfn h1 h2 =>
      cases hfn with
      | same _ hn => exact ⟨_, _, e3, .func _ _ _ _ _ _ (.same _ hn) h1 h2, by simp [execOp, hu]⟩
  case binOp op t x y yt =>
    obtain ⟨a, e1, ha⟩ := opk_ok h (hf x (by simp [Op.operands])) (show opk x P fr (fun a => opk y P fr fun b => binOpk P s op t x y a b fun v => k (.val v) s) = .ok from e)
    obtain ⟨b, e2, hb⟩ := opk_ok h (hf y (by simp [Op.operands])) e1
    obtain ⟨r, z, e3, hr, hg, hrun⟩ := binOpk_ok (P := P) h ha hb e2
    exact ⟨r, z, e3, hr, by simp only [execOp, Sem.run_bind, hg, hrun, Result.andThen_ok, Sem.run_pure]⟩
  case unOp op t x =>
    obtain ⟨a, e1, ha⟩ := opk_ok h (hf x (by simp [Op.operands])) (show opk x P fr (fun a => unOpk op a fun v => k (.val v) s) = .ok from e)
    obtain ⟨r, z, e2, hr, hrun⟩ := unOpk_ok (P := P) (w := w) ha e1
    exact ⟨r, z, e2, hr, by simp only [execOp, Sem.run_bind, hrun, Result.andThen_ok, Sem.run_pure]⟩
  case convert src dst x =>
    obtain ⟨a, e1, ha⟩ := opk_ok h (hf x (by simp [Op.operands])) (show opk x P fr (fun a => convertk P s src dst a fun v s => k (.val v) s) = .ok from e)
    obtain ⟨d, hd, e2⟩ := tyk_ok e1
    obtain ⟨d', hd', e3⟩ := tyk_ok e2
    have hint : ∃ q, d' = .int q := by
      have ho2 : (match P.underlying dst with | some (.int _) => true | _ => false) = true := ho
      rw [hd'] at ho2
      cases d' <;> first | exact ⟨_, rfl⟩ | (cases ho2; done)
    obtain ⟨q, rfl⟩ := hint
    generalize hu : A.eval x = u at ha
    have hnum : ∃ q' n, a = .int q' n ∧ wrapk q n (fun v => k (.val v) s) = .ok := by
      cases a <;> first | exact ⟨_, _, rfl, e3⟩ | (exfalso; cases d <;> exact no_ok (n := 67) e3)
    obtain ⟨q', n, rfl, e4⟩ := hnum
    cases ha
    exact ⟨_, _, wrapk_ok e4, .int _ _, by simp [execOp, hu, convert, run_ty hd, run_ty hd', Conv.intToInt]⟩
  case makeInterface t x =>
    obtain ⟨a, e1, ha⟩ := opk_ok h (hf x (by simp [Op.operands])) (show opk x P fr (fun a => tyk P t fun d => match d with
      | .interface _ => .no 208
      | _ => k (.val (.iface t a)) s) = .ok from e)
    obtain ⟨d, hd, e2⟩ := tyk_ok e1
    have e3 : k (.val (.iface t a)) s = .ok := by cases d <;> first | exact e2 | (exact (no_ok (n := 208) e2).elim)
    refine ⟨_, _, e3, .iface _ _ _ ha, ?_⟩
    cases d <;> first | (exact (no_ok (n := 208) e2).elim) | simp [execOp, Instr.makeInterface, run_ty hd]
  case makeFunc fn first captured =>
    obtain ⟨a, e1, ha⟩ := opsk_ok h (fun x hx => hf x (by simp only [Op.operands, Array.mem_append]; exact .inl (Array.mem_def.2 hx))) (show opsk first.toList P fr (fun a => opsk captured.toList P fr fun b => ifk (notYield fn) (k (.val (.func fn a b)) s) (.no 235)) = .ok from e)
    obtain ⟨b, e2, hb⟩ := opsk_ok h (fun x hx => hf x (by simp only [Op.operands, Array.mem_append]; exact .inr (Array.mem_def.2 hx))) e1
    obtain ⟨hy, e3⟩ := ifk_no e2
    refine ⟨_, .func fn (first.map A.eval) (captured.map A.eval), e3, .func _ _ _ _ _ _ (.same fn (fun l hl => by subst hl; cases hy)) (by simpa using ha) (by simpa using hb), ?_⟩
    simp [execOp, Instr.makeFunc]
  case slice t x lo hi mx =>
    obtain ⟨a, e1, ha⟩ := opk_ok h (hf x (by simp [Op.operands])) (show opk x P fr (fun x => slicek P s t fr x lo hi mx fun v => k (.val v) s) = .ok from e)
    obtain ⟨r, z, e2, hr, hrun⟩ := slicek_ok (P := P) (A := A) h (fun y hy => hf y (by subst hy; simp [Op.operands])) (fun y hy => hf y (by subst hy; simp [Op.operands])) (fun y hy => hf y (by subst hy; simp [Op.operands])) ha e1
    exact ⟨r, z, e2, hr, by simp only [execOp, Sem.run_bind, hrun, Result.andThen_ok, Sem.run_pure]⟩
  case fieldAddr t x i =>
    obtain ⟨a, e1, ha⟩ := opk_ok h (hf x (by simp [Op.operands])) (show opk x P fr (fun a => fieldAddrk P t a i fun v => k (.val v) s) = .ok from e)
    obtain ⟨r, z, e2, hr, hrun⟩ := fieldAddrk_ok (P := P) (w := w) ha e1
    exact ⟨r, z, e2, hr, by simp only [execOp, Sem.run_bind, hrun, Result.andThen_ok, Sem.run_pure]⟩
  case field t x i =>
    obtain ⟨a, e1, ha⟩ := opk_ok h (hf x (by simp [Op.operands])) (show opk x P fr (fun a => fieldAtk P t i fun f => a.onAgg (fun cs => partk P f.type cs f.offset fun v => k (.val v) s) (.no 212)) = .ok from e)
    obtain ⟨fs, f, hd, hf1, e2⟩ := fieldAtk_ok e1
    obtain ⟨cs, rfl, e3⟩ := AV.onAgg_ok e2
    generalize hu : A.eval x = u at ha
    cases ha with
    | agg _ us ha =>
    obtain ⟨v, z, e4, hr, hrun⟩ := partk_ok (P := P) (w := w) ha e3
    exact ⟨v, z, e4, hr, by simp [execOp, hu, Instr.field, run_ty hd, hf1, asAgg, hrun]⟩
  case indexAddr t x i =>
    obtain ⟨a, e1, ha⟩ := opk_ok h (hf x (by simp [Op.operands])) (show opk x P fr (fun x => opk i P fr fun i => indexAddrk P t x i fun v => k (.val v) s) = .ok from e)
    obtain ⟨b, e2, hb⟩ := opk_ok h (hf i (by simp [Op.operands])) e1
    obtain ⟨r, z, e3, hr, hrun⟩ := indexAddrk_ok (P := P) (w := w) ha hb e2
    exact ⟨r, z, e3, hr, by simp only [execOp, Sem.run_bind, hrun, Result.andThen_ok, Sem.run_pure]⟩
  case index t x i =>
    obtain ⟨a, e1, ha⟩ := opk_ok h (hf x (by simp [Op.operands])) (show opk x P fr (fun x => opk i P fr fun i => indexk P t x i fun v => k (.val v) s) = .ok from e)
    obtain ⟨b, e2, hb⟩ := opk_ok h (hf i (by simp [Op.operands])) e1
    obtain ⟨r, z, e3, hr, hrun⟩ := indexk_ok (P := P) (w := w) ha hb e2
    exact ⟨r, z, e3, hr, by simp only [execOp, Sem.run_bind, hrun, Result.andThen_ok, Sem.run_pure]⟩
  case lookup t x i ok =>
    obtain ⟨a, e1, ha⟩ := opk_ok h (hf x (by simp [Op.operands])) (show opk x P fr (fun x => opk i P fr fun i => lookupk P s t x i ok fun v => k (.val v) s) = .ok from e)
    obtain ⟨b, e2, hb⟩ := opk_ok h (hf i (by simp [Op.operands])) e1
    obtain ⟨r, z, e3, hr, hrun⟩ := lookupk_ok (P := P) h ha hb e2
    exact ⟨r, z, e3, hr, by simp only [execOp, Sem.run_bind, hrun, Result.andThen_ok, Sem.run_pure]⟩
  case typeAssert x xt t ok =>
    obtain ⟨a, e1, ha⟩ := opk_ok h (hf x (by simp [Op.operands])) (show opk x P fr (fun v => tyk P t fun d => taK P t ok (fun v => k (.val v) s) d v) = .ok from e)
    obtain ⟨d, hd, e2⟩ := tyk_ok e1
    obtain ⟨r, z, e3, hr, hrun⟩ := typeAssert_ok (P := P) (w := w) (k := fun v => k (.val v) s) (xt := xt) σ ha hd e2
    exact ⟨r, z, e3, hr, by simp only [execOp, Sem.run_bind, hrun, Result.andThen_ok, Sem.run_pure]⟩
  case extract x i =>
    obtain ⟨a, e1, ha⟩ := opk_ok h (hf x (by simp [Op.operands])) (show opk x P fr (fun v => v.onTuple (fun vs => nthk i vs fun v => k (.val v) s) (.no 217)) = .ok from e)
    obtain ⟨vs, rfl, e2⟩ := AV.onTuple_ok e1
    obtain ⟨v, hv, e3⟩ := nthk_ok e2
    generalize hu : A.eval x = u at ha
    cases ha with
    | tuple _ us ha =>
    obtain ⟨z, hz, hr⟩ := ha.get hv
    have hz' : us[i]? = some z := by simpa using hz
    exact ⟨v, z, e3, hr, by simp [execOp, hu, Instr.extract, hz']⟩
  case call c =>
    obtain ⟨callee, args, argTypes⟩ := c
    cases callee <;> first | (have ho' : false = true := ho; cases ho'; done) | skip
    case builtin b =>
    have hargs : ∀ {kk : List AV → R}, opsk args.toList P fr kk = .ok → ∃ l, kk l = .ok ∧ RelL σ l (args.map A.eval).toList := fun {kk} he => by
      obtain ⟨l, e1, hl⟩ := opsk_ok h (A := A) (fun x hx => hf x (by simp only [Op.operands, Call.operands]; simp; exact Array.mem_def.2 hx)) he
      exact ⟨l, e1, by simpa using hl⟩
    obtain ⟨l, e1, hl⟩ := hargs (show opsk args.toList P fr (fun args => builtink b P s argTypes.toList args k) = .ok from e)
    cases b <;> first | (have ho' : false = true := ho; cases ho'; done) | skip
    case len =>
      obtain ⟨x, rfl, e2⟩ := l1_ok (show l1 l (fun x => lenBk P s argTypes.toList x fun v => k (.val v) s) = .ok from e1)
      obtain ⟨u, hu, hx⟩ := rel1 hl
      obtain ⟨r, z, e3, hr, hrun⟩ := lenBk_ok (P := P) (ty := type) h hx e2
      exact ⟨r, z, e3, hr, by simp only [execOp, resolve, Sem.run_bind, Sem.run_pure, Result.andThen_ok, invoke, builtin, hu, hrun]⟩
    case cap =>
      obtain ⟨x, rfl, e2⟩ := l1_ok (show l1 l (fun x => capBk P argTypes.toList x fun v => k (.val v) s) = .ok from e1)
      obtain ⟨u, hu, hx⟩ := rel1 hl
      obtain ⟨r, z, e3, hr, hrun⟩ := capBk_ok (P := P) (w := w) (ty := type) hx e2
      exact ⟨r, z, e3, hr, by simp only [execOp, resolve, Sem.run_bind, Sem.run_pure, Result.andThen_ok, invoke, builtin, hu, hrun]⟩
    case max =>
      obtain ⟨r, z, e3, hr, hrun⟩ := extremek_ok (P := P) (w := w) (ts := argTypes) (ty := type) hl (show extremek true l (fun v => k (.val v) s) = .ok from e1)
      simp only [if_true] at hrun
      exact ⟨r, z, e3, hr, by simp only [execOp, resolve, Sem.run_bind, Sem.run_pure, Result.andThen_ok, invoke, builtin, hrun]⟩
    case min =>
      obtain ⟨r, z, e3, hr, hrun⟩ := extremek_ok (P := P) (w := w) (ts := argTypes) (ty := type) hl (show extremek false l (fun v => k (.val v) s) = .ok from e1)
      simp only [Bool.false_eq_true, if_false] at hrun
      exact ⟨r, z, e3, hr, by simp only [execOp, resolve, Sem.run_bind, Sem.run_pure, Result.andThen_ok, invoke, builtin, hrun]⟩
    case unsafeSliceData =>
      obtain ⟨x, rfl, e2⟩ := l1_ok (show l1 l (fun x => sliceDatak x fun v => k (.val v) s) = .ok from e1)
      obtain ⟨u, hu, hx⟩ := rel1 hl
      obtain ⟨r, z, e3, hr, hrun⟩ := sliceDatak_ok (P := P) (w := w) (ts := argTypes) (ty := type) hx e2
      exact ⟨r, z, e3, hr, by simp only [execOp, resolve, Sem.run_bind, Sem.run_pure, Result.andThen_ok, invoke, builtin, hu, hrun]⟩
end
end Go.Ev

/- All operations. -/
namespace Go.Ev
open Go

/-- what comes of an operation, here and there -/
inductive OpRes (P : Program) (τ : Sg) (w : World) : ARes → Result Next → Prop where
  | val (v : AV) (x : Value) (h : RelV τ v x) : OpRes P τ w (.val v) (.ok (.value x) w)
  | skip : OpRes P τ w (.val (.tuple [])) (.ok .skip w)
  | enter (f : FuncId) (args : List AV) (xs : Array Value) (h : RelL τ args xs.toList) : OpRes P τ w (.enter f args) ((callFunc f xs).run P w)
  | round (a : Adr) (args : List AV) (c sh sz : Nat) (xs : Array Value) (ha : τ a = .at c sh sz) (h : RelL τ args xs.toList) : OpRes P τ w (.round a args) ((Instr.yield c xs).run P w)
  | defer (d : ADef) (D : Deferred) (h : DefRel τ d D) : OpRes P τ w (.defer d) (.ok (.defer D) w)
  | recover : OpRes P τ w .recover (.ok .recover w)
  | panic (v : AV) (x : Value) (h : RelV τ v x) : OpRes P τ w (.panic v) (.halt (.panic x) w)

section
variable {P : Program} {σ : Sg} {s : St} {w : World}

theorem wrap_small {n : Nat} (h : n ≤ 1048576) : IntKind.i64.wrap (n : Int) = n := by
  unfold IntKind.wrap
  simp [IntKind.bits, IntKind.signed]
  omega

theorem exMakeSlice_ok (hP : Fit P) (h : Rep P σ s w) {A : Act} {fr : T AV} {t : TypeId} {l c : Operand} (hl : Knows σ fr A l) (hc : Knows σ fr A c) {k : ARes → St → R} (e : exMakeSlice t l c P fr s k = .ok) :
    ∃ r z s' w' τ, k (.val r) s' = .ok ∧ Did2 P σ s w τ s' w' ∧ RelV τ r z ∧ (Instr.makeSlice t (A.eval l) (A.eval c)).run P w = .ok z w' := by
  obtain ⟨a, e1, ha⟩ := opk_ok h.toRepC hl (show opk l P fr (fun l => opk c P fr fun c => natk l fun l => natk c fun c => tyk P t fun d => match d with
  | .slice e => szk P e fun _ => bytesk P e fun w => ifk (Nat.ble l c && Nat.ble c 1048576 && Nat.ble w 65536) (zerok P e fun v => cvk v fun zs => repk c zs fun cs => newk s (.cells e false 0 cs) fun a s => k (.val (.slice a 0 l c)) s) (.no 210)
  | _ => .no 211) = .ok from e)
  obtain ⟨b, e2, hb⟩ := opk_ok h.toRepC hc e1
  obtain ⟨q, n, rfl, e3⟩ := natk_ok e2
  obtain ⟨q', m, rfl, e4⟩ := natk_ok e3
  generalize hu : A.eval l = u at ha
  generalize hv : A.eval c = v at hb
  cases ha; cases hb
  obtain ⟨d, hd, e5⟩ := tyk_ok e4
  cases d <;> first | (exact (no_ok (n := 211) e5).elim) | skip
  case slice el =>
  obtain ⟨i, hi, e6⟩ := szk_ok (show szk P el (fun _ => bytesk P el fun w => ifk (Nat.ble n m && Nat.ble m 1048576 && Nat.ble w 65536) (zerok P el fun v => cvk v fun zs => repk m zs fun cs => newk s (.cells el false 0 cs) fun a s => k (.val (.slice a 0 n m)) s) (.no 210)) = .ok from e5)
  obtain ⟨i', hi', e7⟩ := bytesk_ok e6
  rw [hi] at hi'; cases hi'
  obtain ⟨hbb, e8⟩ := ifk_no e7
  simp only [Bool.and_eq_true] at hbb
  have h1 := Nat.le_of_ble_eq_true hbb.1.1
  have h2 := Nat.le_of_ble_eq_true hbb.1.2
  have h3 := Nat.le_of_ble_eq_true hbb.2
  obtain ⟨i2, z, cs, hi2, hz, e9, hcs, hcl⟩ := cvk_zero (σ := σ) hP e8
  rw [hi] at hi2; cases hi2
  rw [repk_eq, newk_eq] at e9
  have hzz := hP.zero _ _ _ (zerok_lt e8) hi hz
  have hinit : RelL σ (List.replicate m cs).flatten ((Array.range (m * i.size)).map (z.cells[· % z.cells.size]!)).toList := by
    rw [← hzz, spread]; exact hcs.replicate m
  refine ⟨_, .slice (some ⟨w.heap.size, 0, none⟩) n m, _, _, _, e9, newRow_ok h el hinit, .slice _ _ _ _ _ _ _ (Sg.upd_self _ _ _), ?_⟩
  have w1 := wrap_small (n := n) (by omega)
  have w2 := wrap_small h2
  have hbm : i.bytes * m ≤ 65536 * 1048576 := Nat.mul_le_mul h3 h2
  have hbm2 := Int.ofNat_le.2 hbm
  rw [Int.natCast_mul] at hbm2
  have t1 : ((i.bytes : Int) * (m : Int) > 2 ^ 48) = False := by simp; omega
  have t2 : ((m : Int) < 0) = False := by simp
  have t3 : ((n : Int) < 0) = False := by simp
  have t4 : ((n : Int) > (m : Int)) = False := by simp; omega
  simp only [Instr.makeSlice, Sem.run_bind, run_ty hd, Result.andThen_ok, asInt, asIntOf, Sem.run_pure, run_ti hi, w1, w2, Int.ofNat_eq_natCast, t1, t2, t3, t4, decide_false, Bool.or_false, Bool.false_eq_true, if_false, run_askRoom, run_sz hi, Int.toNat_natCast]
  by_cases h0 : m * i.size = 0
  · have hm : (Array.range (m * i.size)).map (fun x => (#[] : Array Value)[x % (#[] : Array Value).size]!) = (Array.range (m * i.size)).map (z.cells[· % z.cells.size]!) := by rw [h0]; simp
    rw [if_pos h0]
    simp only [Sem.run_bind, Sem.run_pure, Result.andThen_ok, hm, newRow, run_newObj]
    rfl
  · rw [if_neg h0]
    simp only [Sem.run_bind, Sem.run_pure, Result.andThen_ok, run_zero hi hz, newRow, run_newObj]
    rfl

theorem exNextStr_ok (h : Rep P σ s w) {A : Act} {fr : T AV} {it : Operand} (hi : Knows σ fr A it) {ty : TypeId} {k : ARes → St → R} (e : exNextStr it P fr s k = .ok) :
    ∃ r z s' w', k (.val r) s' = .ok ∧ Did P σ s w s' w' ∧ RelV σ r z ∧ (Instr.next (A.eval it) true ty).run P w = .ok z w' := by
  obtain ⟨v, e1, hv⟩ := opk_ok h.toRepC hi e
  obtain ⟨a, off, rfl, e2⟩ := AV.onPtr_ok e1
  obtain ⟨h0, e3⟩ := ifk_no e2
  have h0 := nbeq h0
  subst h0
  obtain ⟨o, ho, e4⟩ := objk_ok e3
  generalize hu : A.eval it = u at hv
  cases hv with
  | ptr _ _ c sh sz ha =>
  obtain ⟨O, h2, h3⟩ := h.obj a c sh sz _ ha ho
  cases h3 <;> first | (exact (no_ok (n := 232) e4).elim) | skip
  case strIter S p =>
  have hlive : T.get a s.heap ≠ none := by rw [ho]; simp
  have hget := run_getObj (P := P) h2 (by intros; simp)
  have hls : S.data.toList.length = S.size := by simp
  have e5 : ifk (Nat.blt p S.data.toList.length) (fN (Nat.mod (Nat.div (packL S.data.toList) (Nat.pow 256 p)) 256) fun b => ifk (Nat.blt b 128) (fN (Nat.succ p) fun q => putObjk s a (some (.strIter S.data.toList.length (packL S.data.toList) q)) fun s => k (.val (.tuple [.bool true, .int .i64 (.ofNat p), .int .i32 (.ofNat b)])) s) (.no 231)) (k (.val (.tuple [.bool false])) s) = .ok := e4
  rw [ifk_eq] at e5
  split at e5
  · rename_i hp
    rw [Nat.blt_eq, hls] at hp
    rw [fN_eq] at e5
    obtain ⟨hb, e6⟩ := ifk_no e5
    have hg : S.data.toList[p]? = some (S[p]'hp) := by
      have : p < S.data.toList.length := by rw [hls]; exact hp
      rw [List.getElem?_eq_getElem this]; rfl
    have hpk := packL_get _ _ _ hg
    have hbyte : Nat.mod (Nat.div (packL S.data.toList) (Nat.pow 256 p)) 256 = (S[p]'hp).toNat := hpk
    rw [hbyte, Nat.blt_eq] at hb
    rw [hbyte, fN_eq, putObjk_eq] at e6
    refine ⟨_, .tuple #[.bool true, .int .i64 p, .int .i32 (S[p]'hp).toNat], _, w.upd c (.stringIter S (p + 1)), e6, ⟨h.put ha (.strIter S (p + 1) _) hlive, .put h ha hlive⟩, ?_, ?_⟩
    · exact .tuple _ _ (.cons _ _ _ _ (.bool _) (.cons _ _ _ _ (.int _ _) (.cons _ _ _ _ (.int _ _) .nil)))
    · simp only [Instr.next, Nat.zero_add, Sem.run_bind, hget, Result.andThen_ok, hp, if_true, decode_ascii S p hp hb, run_setObj h2 (by intros; simp), Sem.run_pure, goInt]
  · rename_i hp
    have hp : ¬ p < S.size := fun hh => hp (by rw [Nat.blt_eq, hls]; exact hh)
    refine ⟨_, .tuple #[.bool false], s, w, e5, ⟨h, .refl _ _ _⟩, .tuple _ _ (.cons _ _ _ _ (.bool _) .nil), ?_⟩
    simp only [Instr.next, Nat.zero_add, Sem.run_bind, hget, Result.andThen_ok, hp, if_false, Sem.run_pure]

theorem calleek_ok (P : Program) (σ : Sg) (w : World) {f : AV} {u : Value} (hf : RelV σ f u) {args : List AV} {xs : Array Value} (ha : RelL σ args xs.toList) {k : ARes → R} (e : calleek f args k = .ok) :
    ∃ r, k r = .ok ∧ OpRes P σ w r ((do let d ← Deferred.ofValue u xs; invoke d.target d.args : Sem Next).run P w) ∧ (∀ g as, r = .enter g as → ∃ fn cap, Deferred.ofValue u xs = pure ⟨.fn (.func g) cap, fn⟩ ∧ RelL σ as (fn ++ cap).toList) := by
  obtain ⟨fn, first, cap, rfl, e1⟩ := AV.onFunc_ok e
  cases hf with
  | func _ g _ _ u v hfn h1 h2 =>
  cases hfn with
  | same _ hn =>
    cases fn <;> first | (exact (no_ok (n := 121) e1).elim) | skip
    case func g =>
      have e2 : appk args cap (fun r => appk first r fun r => k (.enter g r)) = .ok := e1
      rw [appk_eq, appk_eq] at e2
      have hr : RelL σ (first ++ (args ++ cap)) ((u ++ xs) ++ v).toList := by
        simp only [Array.toList_append, List.append_assoc]
        exact h1.append (ha.append h2)
      refine ⟨_, e2, ?_, fun g' as hg => ?_⟩
      · have : (do let d ← Deferred.ofValue (.func (.func g) u v) xs; invoke d.target d.args : Sem Next) = callFunc g ((u ++ xs) ++ v) := rfl
        rw [this]
        exact .enter _ _ _ hr
      · cases hg; exact ⟨_, _, rfl, hr⟩
    case yield l => exact absurd rfl (hn l)
  | yield l c sh sz hl =>
    have e2 : (List.rec (motive := fun _ => R) (k (.round (adr l) args)) (fun _ _ _ => .no 122) first : R) = .ok := e1
    cases first with
    | cons _ _ => exact (no_ok e2).elim
    | nil =>
    have hu : u = #[] := by
      have := h1.length
      apply Array.ext'
      exact List.length_eq_zero_iff.1 this.symm
    subst hu
    refine ⟨_, e2, ?_, fun g' as hg => by cases hg⟩
    have : (do let d ← Deferred.ofValue (.func (.yield c) #[] v) xs; invoke d.target d.args : Sem Next) = Instr.yield c (#[] ++ xs) := rfl
    rw [this]
    exact .round _ _ _ _ _ _ hl (by simpa using ha)

theorem OpRes.of_run {τ : Sg} {w' : World} {v : AV} {x : Value} {m : Sem Value} (hr : RelV τ v x) (hrun : m.run P w = .ok x w') : OpRes P τ w' (.val v) ((do pure (.value (← m)) : Sem Next).run P w) := by
  simp only [Sem.run_bind, hrun, Result.andThen_ok, Sem.run_pure]
  exact .val _ _ hr
theorem OpRes.of_unit {τ : Sg} {w' : World} {m : Sem Unit} (hrun : m.run P w = .ok () w') : OpRes P τ w' (.val (.tuple [])) ((do m; pure .skip : Sem Next).run P w) := by
  simp only [Sem.run_bind, hrun, Result.andThen_ok, Sem.run_pure]
  exact .skip

theorem execk_ok (hP : Fit P) (h : Rep P σ s w) {A : Act} {fr : T AV} (o : Oper) (hf : ∀ x ∈ o.op.operands, Knows σ fr A x) {k : ARes → St → R} (e : execk o.op P fr s k = .ok) :
    ∃ r s' w' τ, k r s' = .ok ∧ Did2 P σ s w τ s' w' ∧ OpRes P τ w' r ((execOp A.eval o).run P w) := by
  by_cases hv : valB P o.op = true
  · obtain ⟨v, x, e1, hr, hrun⟩ := valk_ok (A := A) hP h.toRepC o hv hf e
    exact ⟨_, s, w, σ, e1, .refl h, by rw [hrun]; exact .val _ _ hr⟩
  obtain ⟨dst, op, type, pos, after, guard⟩ := o
  cases op <;> first | (exact absurd rfl hv) | (exact (no_ok (n := 230) e).elim) | skip
  case alloc t =>
    obtain ⟨i, z, a, hi, hz, e1, hr⟩ := zerok_ok σ (show zerok P t (fun z => cvk z fun cs => newk s (.cells t false 0 cs) fun a s => k (.val (.ptr a 0)) s) = .ok from e)
    obtain ⟨cs, e2, hcs⟩ := cvk_ok hr e1
    rw [newk_eq] at e2
    refine ⟨_, _, _, _, e2, newRow_ok h t hcs, ?_⟩
    refine .of_run (x := .pointer (some ⟨w.heap.size, 0, none⟩)) (.ptr _ _ _ _ _ (Sg.upd_self _ _ _)) ?_
    simp only [Instr.alloc, Sem.run_bind, run_zero hi hz, Result.andThen_ok, newVar, newRow, run_newObj, Sem.run_pure]
    rfl
  case box t x =>
    obtain ⟨v, e1, hr⟩ := opk_ok h.toRepC (hf x (by simp [Op.operands])) (show opk x P fr (fun v => cvk v fun cs => newk s (.cells t false 0 cs) fun a s => k (.val (.ptr a 0)) s) = .ok from e)
    obtain ⟨cs, e2, hcs⟩ := cvk_ok hr e1
    rw [newk_eq] at e2
    refine ⟨_, _, _, _, e2, newRow_ok h t hcs, ?_⟩
    refine .of_run (x := .pointer (some ⟨w.heap.size, 0, none⟩)) (.ptr _ _ _ _ _ (Sg.upd_self _ _ _)) ?_
    simp only [Instr.box, newVar, newRow, Sem.run_bind, run_newObj, Result.andThen_ok, Sem.run_pure]
    rfl
  case buildSlice t len ps =>
    obtain ⟨el, cs, cells, e1, hr, hrun⟩ := exBuildSlice_ok (A := A) (k := k) hP h (fun p hp => hf p.2 (by simp [Op.operands]; exact ⟨_, Array.mem_def.2 hp⟩)) e
    refine ⟨_, _, _, _, e1, newRow_ok h el hr, ?_⟩
    exact .of_run (.slice _ _ _ _ _ _ _ (Sg.upd_self _ _ _)) hrun
  case mapUpdate t m q x =>
    obtain ⟨a, e1, h1⟩ := opk_ok h.toRepC (hf m (by simp [Op.operands])) (show opk m P fr (fun m => opk q P fr fun q => opk x P fr fun x => mapUpdatek P s t m q x fun s => k (.val (.tuple [])) s) = .ok from e)
    obtain ⟨b, e2, h2⟩ := opk_ok h.toRepC (hf q (by simp [Op.operands])) e1
    obtain ⟨c, e3, h3⟩ := opk_ok h.toRepC (hf x (by simp [Op.operands])) e2
    obtain ⟨s', w', e4, hdid, hrun⟩ := mapUpdatek_ok h h1 h2 h3 e3
    exact ⟨_, s', w', σ, e4, hdid, .of_unit hrun⟩
  case insert t m q x =>
    obtain ⟨a, e1, h1⟩ := opk_ok h.toRepC (hf m (by simp [Op.operands])) (show opk m P fr (fun m => opk q P fr fun q => opk x P fr fun x => mapUpdatek P s t m q x fun s => k (.val (.tuple [])) s) = .ok from e)
    obtain ⟨b, e2, h2⟩ := opk_ok h.toRepC (hf q (by simp [Op.operands])) e1
    obtain ⟨c, e3, h3⟩ := opk_ok h.toRepC (hf x (by simp [Op.operands])) e2
    obtain ⟨s', w', e4, hdid, hrun⟩ := mapUpdatek_ok h h1 h2 h3 e3
    exact ⟨_, s', w', σ, e4, hdid, .of_unit hrun⟩
  case store t a x =>
    obtain ⟨v, e1, h1⟩ := opk_ok h.toRepC (hf a (by simp [Op.operands])) (show opk a P fr (fun a => opk x P fr fun x => a.onPtr (fun p off => storeVark P s t p off x fun s => k (.val (.tuple [])) s) (.no 206)) = .ok from e)
    obtain ⟨b, e2, h2⟩ := opk_ok h.toRepC (hf x (by simp [Op.operands])) e1
    obtain ⟨p, off, rfl, e3⟩ := AV.onPtr_ok e2
    generalize hu : A.eval a = u at h1
    cases h1 with
    | ptr _ _ c sh sz ha =>
    obtain ⟨s', w', e4, hrun, hrep, hext⟩ := storeVark_ok (P := P) h ha h2 e3
    refine ⟨_, s', w', σ, e4, ⟨hrep, hext⟩, ?_⟩
    simp only [execOp, hu]
    exact .of_unit (by simp only [Instr.storeAt, Instr.sureAddr, Sem.run_bind, Sem.run_pure, Result.andThen_ok, hrun])
  case convert src dst x =>
    obtain ⟨a, e1, ha⟩ := opk_ok h.toRepC (hf x (by simp [Op.operands])) (show opk x P fr (fun a => convertk P s src dst a fun v s => k (.val v) s) = .ok from e)
    obtain ⟨v, z, s', w', τ, e2, hdid, hr, hrun⟩ := convertk_ok (P := P) h ha e1
    exact ⟨_, s', w', τ, e2, hdid, .of_run hr hrun⟩
  case makeMap t r =>
    have fin : k (.val (.map s.nx)) (s.new (.map [] 0)) = .ok → (∀ m : Sem Value, m.run P w = .ok (.map (some w.heap.size)) (w.push (.map #[] 0)) → ∃ r s' w' τ, k r s' = .ok ∧ Did2 P σ s w τ s' w' ∧ OpRes P τ w' r ((do pure (.value (← m)) : Sem Next).run P w)) := fun e1 m hm => by
      have hn := h.new (o := .map [] 0) (sh := 0) (sz := 0) (O := .map #[] 0) (.map _ _ _ _ _ .nil (by simp) (by simp))
      exact ⟨_, _, _, _, e1, hn, .of_run (.map _ _ _ _ (Sg.upd_self _ _ _)) hm⟩
    cases r with
    | none =>
      have e1 : newk s (.map [] 0) (fun a s => k (.val (.map a)) s) = .ok := e
      rw [newk_eq] at e1
      exact fin e1 _ (by simp only [Instr.makeMap, Option.map_none, Sem.run_bind, Sem.run_pure, Result.andThen_ok, run_newObj]; rfl)
    | some x =>
      obtain ⟨a, e1, ha⟩ := opk_ok h.toRepC (hf x (by simp [Op.operands])) (show opk x P fr (fun h => tyk P t fun d => match d, h with
        | .map _ _, .int _ _ => newk s (.map [] 0) fun a s => k (.val (.map a)) s
        | _, _ => .no 209) = .ok from e)
      generalize hu : A.eval x = u at ha
      obtain ⟨d, hd, e2⟩ := tyk_ok e1
      cases ha <;> cases d <;> first | (exact (no_ok (n := 209) e2).elim) | skip
      case int.map =>
        have e3 : newk s (.map [] 0) (fun a s => k (.val (.map a)) s) = .ok := e2
        rw [newk_eq] at e3
        exact fin e3 _ (by simp only [Instr.makeMap, Option.map_some, hu, Sem.run_bind, run_ty hd, asInt, asIntOf, Sem.run_pure, Result.andThen_ok, run_newObj]; rfl)
  case makeSlice t l c =>
    obtain ⟨r, z, s', w', τ, e1, hdid, hr, hrun⟩ := exMakeSlice_ok (A := A) (k := k) hP h (hf l (by simp [Op.operands])) (hf c (by simp [Op.operands])) e
    exact ⟨_, s', w', τ, e1, hdid, .of_run hr hrun⟩
  case range t x =>
    obtain ⟨a, e1, ha⟩ := opk_ok h.toRepC (hf x (by simp [Op.operands])) (show opk x P fr (fun x => tyk P t fun d => match d, x with
      | .string, .str l n => newk s (.strIter l n 0) fun a s => k (.val (.ptr a 0)) s
      | .map _ _, .map m => mapk s m fun _ c => newk s (.mapIter m c) fun a s => k (.val (.ptr a 0)) s
      | _, _ => .no 218) = .ok from e)
    generalize hu : A.eval x = u at ha
    obtain ⟨d, hd, e2⟩ := tyk_ok e1
    cases ha <;> cases d <;> first | (exact (no_ok (n := 218) e2).elim) | skip
    case str.string S =>
      have e3 : newk s (.strIter S.data.toList.length (packL S.data.toList) 0) (fun a s => k (.val (.ptr a 0)) s) = .ok := e2
      rw [newk_eq] at e3
      have hn := h.new (o := .strIter S.data.toList.length (packL S.data.toList) 0) (sh := 0) (sz := 0) (.strIter S 0 0)
      refine ⟨_, _, _, _, e3, hn, ?_⟩
      simp only [execOp, hu]
      refine .of_run (x := .pointer (some ⟨w.heap.size, 0, none⟩)) (.ptr _ _ _ _ _ (Sg.upd_self _ _ _)) ?_
      simp only [Instr.range, Sem.run_bind, run_ty hd, Result.andThen_ok, Sem.run_pure, run_newObj]
      rfl
    case map.map a c sh sz ha q el =>
      obtain ⟨es, clk, en, e3, h1, h2, he, hb, hn⟩ := mapk_ok h.toRepC ha (show mapk s a (fun _ c => newk s (.mapIter a c) fun a s => k (.val (.ptr a 0)) s) = .ok from e2)
      rw [newk_eq] at e3
      have hn := h.new (o := .mapIter a clk) (sh := 0) (sz := 0) (.mapIter a clk c sh sz 0 (Sg.le_upd (h.free (Nat.le_refl _)) _ _ _ _ _ ha))
      refine ⟨_, _, _, _, e3, hn, ?_⟩
      simp only [execOp, hu]
      refine .of_run (x := .pointer (some ⟨w.heap.size, 0, none⟩)) (.ptr _ _ _ _ _ (Sg.upd_self _ _ _)) ?_
      simp only [Instr.range, Sem.run_bind, run_ty hd, Result.andThen_ok, run_getObj h2 (by intros; simp), Sem.run_pure, run_newObj]
      rfl
  case next it str =>
    cases str
    · exact (no_ok (n := 234) e).elim
    · obtain ⟨r, z, s', w', e1, hdid, hr, hrun⟩ := exNextStr_ok (A := A) (k := k) (ty := type) h (hf it (by simp [Op.operands])) e
      exact ⟨_, s', w', σ, e1, hdid, .of_run hr hrun⟩
  case panic x =>
    obtain ⟨v, e1, hr⟩ := opk_ok h.toRepC (hf x (by simp [Op.operands])) (show opk x P fr (fun v => match v with
      | .iface t v => k (.panic (.iface t v)) s
      | _ => .no 222) = .ok from e)
    generalize hu : A.eval x = u at hr
    cases hr <;> first | (exact (no_ok (n := 222) e1).elim) | skip
    case iface t v u hr =>
      refine ⟨_, s, w, σ, e1, .refl h, ?_⟩
      have : (execOp A.eval ⟨dst, .panic x, type, pos, after, guard⟩).run P w = .halt (.panic (.iface t u)) w := by simp [execOp, hu, Instr.panic]
      rw [this]; exact .panic _ _ (.iface _ _ _ hr)
  case defer c =>
    obtain ⟨callee, args, argTypes⟩ := c
    cases callee <;> first | (exact (no_ok (n := 221) e).elim) | skip
    case value f =>
      obtain ⟨a, e1, ha⟩ := opk_ok h.toRepC (hf f (by simp [Op.operands, Call.operands])) (show opk f P fr (fun f => opsk args.toList P fr fun args => calleek f args fun r => match r with
        | .enter g args => k (.defer (.call g args)) s
        | _ => .no 220) = .ok from e)
      obtain ⟨l, e2, hl⟩ := opsk_ok h.toRepC (A := A) (fun x hx => hf x (by simp only [Op.operands, Call.operands]; simp; exact .inr (Array.mem_def.2 hx))) e1
      obtain ⟨r, e3, hres, hdef⟩ := calleek_ok P σ w ha (xs := args.map A.eval) (by simpa using hl) e2
      cases r <;> first | (exact (no_ok (n := 220) e3).elim) | skip
      case enter g as =>
        obtain ⟨fn, cap, hD, hrel⟩ := hdef g as rfl
        refine ⟨_, s, w, σ, e3, .refl h, ?_⟩
        have : (execOp A.eval ⟨dst, .defer ⟨.value f, args, argTypes⟩, type, pos, after, guard⟩).run P w = .ok (.defer ⟨.fn (.func g) cap, fn⟩) w := by simp [execOp, resolve, hD]
        rw [this]; exact .defer _ _ (.call _ _ _ _ hrel)
  case call c =>
    obtain ⟨callee, args, argTypes⟩ := c
    cases callee <;> first | (exact (no_ok (n := 219) e).elim) | skip
    case value f =>
      obtain ⟨a, e1, ha⟩ := opk_ok h.toRepC (hf f (by simp [Op.operands, Call.operands])) (show opk f P fr (fun f => opsk args.toList P fr fun args => calleek f args fun r => k r s) = .ok from e)
      obtain ⟨l, e2, hl⟩ := opsk_ok h.toRepC (A := A) (fun x hx => hf x (by simp only [Op.operands, Call.operands]; simp; exact .inr (Array.mem_def.2 hx))) e1
      obtain ⟨r, e3, hres, _⟩ := calleek_ok P σ w ha (xs := args.map A.eval) (by simpa using hl) e2
      exact ⟨r, s, w, σ, e3, .refl h, hres⟩
    case builtin b =>
    obtain ⟨l, e1, hl⟩ := opsk_ok h.toRepC (A := A) (fun x hx => hf x (by simp only [Op.operands, Call.operands]; simp; exact Array.mem_def.2 hx)) (show opsk args.toList P fr (fun args => builtink b P s argTypes.toList args k) = .ok from e)
    have hl : RelL σ l (args.map A.eval).toList := by simpa using hl
    cases b <;> first | (exact (no_ok (n := 120) e1).elim) | (exact absurd rfl hv) | skip
    case append =>
      obtain ⟨x, y, rfl, e2⟩ := l2_ok (show l2 l (fun x y => appendk P s argTypes.toList x y fun v s => k (.val v) s) = .ok from e1)
      obtain ⟨u, v, hu, hx, hy⟩ := rel2 hl
      obtain ⟨r, z, s', w', τ, e3, hdid, hr, hrun⟩ := appendk_ok (P := P) (ty := type) hP h hx hy e2
      refine ⟨_, s', w', τ, e3, hdid, ?_⟩
      simp only [execOp, resolve, Sem.run_bind, Sem.run_pure, Result.andThen_ok, invoke, builtin, hu]
      rw [hrun]; exact .val _ _ hr
    case copy =>
      obtain ⟨x, y, rfl, e2⟩ := l2_ok (show l2 l (fun x y => copyk P s argTypes.toList x y fun v s => k (.val v) s) = .ok from e1)
      obtain ⟨u, v, hu, hx, hy⟩ := rel2 hl
      obtain ⟨r, z, s', w', e3, hdid, hr, hrun⟩ := copyk_ok (P := P) (ty := type) h hx hy e2
      refine ⟨_, s', w', σ, e3, hdid, ?_⟩
      simp only [execOp, resolve, Sem.run_bind, Sem.run_pure, Result.andThen_ok, invoke, builtin, hu]
      rw [hrun]; exact .val _ _ hr
    case delete =>
      obtain ⟨x, y, rfl, e2⟩ := l2_ok (show l2 l (fun m i => deletek P s argTypes.toList m i fun v s => k (.val v) s) = .ok from e1)
      obtain ⟨u, v, hu, hx, hy⟩ := rel2 hl
      obtain ⟨s', w', e3, hdid, hrun⟩ := deletek_ok (P := P) (ty := type) h hx hy e2
      refine ⟨_, s', w', σ, e3, hdid, ?_⟩
      simp only [execOp, resolve, Sem.run_bind, Sem.run_pure, Result.andThen_ok, invoke, builtin, hu]
      rw [hrun]; exact .val _ _ (.tuple _ _ .nil)
    case clear =>
      obtain ⟨x, rfl, e2⟩ := l1_ok (show l1 l (fun x => nthk 0 argTypes.toList fun t => tyk P t fun _ => clearOpk s x fun v s => k (.val v) s) = .ok from e1)
      obtain ⟨t, ht, e3⟩ := nth0 e2
      obtain ⟨d, hd, e4⟩ := tyk_ok e3
      obtain ⟨u, hu, hx⟩ := rel1 hl
      obtain ⟨s', w', e5, hdid, hrun⟩ := clearOpk_ok (P := P) (ty := type) h hx e4 ⟨t, d, ht, hd⟩
      refine ⟨_, s', w', σ, e5, hdid, ?_⟩
      simp only [execOp, resolve, Sem.run_bind, Sem.run_pure, Result.andThen_ok, invoke, builtin, hu]
      rw [hrun]; exact .val _ _ (.tuple _ _ .nil)
    case panic =>
      obtain ⟨x, rfl, e2⟩ := l1_ok (show l1 l (fun x => x.onIface (fun t v => k (.panic (.iface t v)) s) (.no 120)) = .ok from e1)
      obtain ⟨t, y, rfl, e3⟩ := AV.onIface_ok e2
      obtain ⟨u, hu, hx⟩ := rel1 hl
      cases hx with
      | iface _ _ u hx =>
      refine ⟨_, s, w, σ, e3, .refl h, ?_⟩
      have : (execOp A.eval ⟨dst, .call ⟨.builtin .panic, args, argTypes⟩, type, pos, after, guard⟩).run P w = .halt (.panic (.iface t u)) w := by
        simp only [execOp, resolve, Sem.run_bind, Sem.run_pure, Result.andThen_ok, invoke, builtin, hu]
        rfl
      rw [this]; exact .panic _ _ (.iface _ _ _ hx)
    case recover =>
      have e2 : k .recover s = .ok := e1
      exact ⟨_, s, w, σ, e2, .refl h, .recover⟩
    case unsafeString =>
      obtain ⟨x, n, rfl, e2⟩ := l2_ok (show l2 l (fun x n => unsafeStringk P s argTypes.toList x n fun v s => k (.val v) s) = .ok from e1)
      obtain ⟨u, v, hu, hx, hn⟩ := rel2 hl
      obtain ⟨r, z, s', w', e3, hdid, hr, hrun⟩ := unsafeStringk_ok (P := P) (ty := type) h hx hn e2
      refine ⟨_, s', w', σ, e3, hdid, ?_⟩
      simp only [execOp, resolve, Sem.run_bind, Sem.run_pure, Result.andThen_ok, invoke, builtin, hu]
      rw [hrun]; exact .val _ _ hr

/-- and what is deferred is nothing else -/
theorem execk_ok' (hP : Fit P) (h : Rep P σ s w) {A : Act} {fr : T AV} (o : Oper) (hf : ∀ x ∈ o.op.operands, Knows σ fr A x) {k : ARes → St → R} (e : execk o.op P fr s k = .ok) :
    ∃ r s' w' τ, k r s' = .ok ∧ Did2 P σ s w τ s' w' ∧ OpRes P τ w' r ((execOp A.eval o).run P w) ∧ ∀ c, o.op = .defer c → ∃ d, r = .defer d := by
  by_cases hdf : ∃ c, o.op = .defer c
  · obtain ⟨dst, op, type, pos, after, guard⟩ := o
    obtain ⟨c, rfl⟩ := hdf
    obtain ⟨callee, args, argTypes⟩ := c
    cases callee <;> first | (exact (no_ok (n := 221) e).elim) | skip
    case value f =>
      obtain ⟨a, e1, ha⟩ := opk_ok h.toRepC (hf f (by simp [Op.operands, Call.operands])) (show opk f P fr (fun f => opsk args.toList P fr fun args => calleek f args fun r => match r with
        | .enter g args => k (.defer (.call g args)) s
        | _ => .no 220) = .ok from e)
      obtain ⟨l, e2, hl⟩ := opsk_ok h.toRepC (A := A) (fun x hx => hf x (by simp only [Op.operands, Call.operands]; simp; exact .inr (Array.mem_def.2 hx))) e1
      obtain ⟨r, e3, hres, hdef⟩ := calleek_ok P σ w ha (xs := args.map A.eval) (by simpa using hl) e2
      cases r <;> first | (exact (no_ok (n := 220) e3).elim) | skip
      case enter g as =>
        obtain ⟨fn, cap, hD, hrel⟩ := hdef g as rfl
        refine ⟨_, s, w, σ, e3, .refl h, ?_, fun _ _ => ⟨_, rfl⟩⟩
        have : (execOp A.eval ⟨dst, .defer ⟨.value f, args, argTypes⟩, type, pos, after, guard⟩).run P w = .ok (.defer ⟨.fn (.func g) cap, fn⟩) w := by simp [execOp, resolve, hD]
        rw [this]; exact .defer _ _ (.call _ _ _ _ hrel)
  · obtain ⟨r, s', w', τ, e1, hd, hr⟩ := execk_ok hP h o hf e
    exact ⟨r, s', w', τ, e1, hd, hr, fun c hc => absurd ⟨c, hc⟩ hdf⟩
end
end Go.Ev
