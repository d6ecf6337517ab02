/-
  PlainKnown: of every state of memory in which the listed package-level variables hold what the program's text lays, the call returns true and changes nothing that was there.
-/
import Derived.Test.YtlohkhfopnkcmaaGreatDoorRun
import Derived.Test.YtlohkhfopnkcmaaGreatDoorFit
import Derived.Test.YtlohkhfopnkcmaaGreatDoorOp
import Derived.Test.YtlohkhfopnkcmaaGreatDoorIdx0
import Derived.Test.YtlohkhfopnkcmaaGreatDoorIdx1
import Derived.Test.YtlohkhfopnkcmaaGreatDoorIdx2
import Derived.Test.YtlohkhfopnkcmaaGreatDoorIdx3
import Derived.Test.YtlohkhfopnkcmaaGreatDoorR0
import Derived.Test.YtlohkhfopnkcmaaGreatDoorR1
import Derived.Test.YtlohkhfopnkcmaaGreatDoorR2
import Derived.Test.YtlohkhfopnkcmaaGreatDoorR3
import Derived.Test.YtlohkhfopnkcmaaGreatDoorR4
import Derived.Test.YtlohkhfopnkcmaaGreatDoorR5
import Derived.Test.YtlohkhfopnkcmaaGreatDoorR6
import Derived.Test.YtlohkhfopnkcmaaGreatDoorR7
import Derived.Test.YtlohkhfopnkcmaaGreatDoorRep
import Derived.Test.YtlohkhfopnkcmaaGreatDoorFacts
import Derived.Handed
import Derived.JoinedOf
import Derived.RowKit
import Derived.RowKitTokens
import Derived.ChangeSame
import Derived.ChangeVars
import Derived.Stop.Joined
import Derived.SevenTiedAt
import Derived.Test.YtlohkhfopnkcmaaGreatDoorCards
import Derived.Test.YtlohkhfopnkcmaaGreatDoorTie

/- The statement's function hands on true and changes nothing that was there. -/
namespace Go.Proofs.YtlohkhfopnkcmaaGreatDoor
open Go Go.Ev

theorem idx_all : ∀ p ∈ idxTab, frees p.1 = true ∧ p.2.free = true ∧ ∃ n, idxRuns (ev Tryz.prog X0 4000) 225 10 3 3 p n = .ok := fun p hp => by
  unfold idxTab at hp
  rcases List.mem_append.1 hp with hp | hp
  · rcases List.mem_append.1 hp with hp | hp
    · rcases List.mem_append.1 hp with hp | hp
      · exact idxAll_ok idx_runs0 p hp
      · exact idxAll_ok idx_runs1 p hp
    · exact idxAll_ok idx_runs2 p hp
  · exact idxAll_ok idx_runs3 p hp
theorem X1_ok : ∀ f h, X1 f = some h → HookOk Tryz.prog f h := by
  intro f h e
  rcases pick_some e with ⟨rfl, rfl⟩ | e
  · have := hIdx_ok (f := 225) (g := 3) (el := 3) (tab := idxTab) fit (ev_ok fit X0_ok 4000) (by rw [globals_size]; decide) (by rw [globals_size]; exact idx_all)
    rw [globals_size] at this
    exact this
  · exact X0_ok f h e
theorem X2_ok : ∀ f h, X2 f = some h → HookOk Tryz.prog f h := by
  intro f h e
  rcases pick_some e with ⟨rfl, rfl⟩ | e
  · exact hTab_ok fit (ev_ok fit X1_ok 4000) (by rw [globals_size]; rfl) (by decide) (by kernel_rfl) (tabAll_ok op_runs)
  · exact X1_ok f h e
theorem rows_all : ∀ p ∈ rowTab, frees p.1 = true ∧ p.2.free = true ∧ (ev Tryz.prog X2 100000).call 4 p.1 .no (stG objs) (chk p.2) = .ok := fun p hp => by
  unfold rowTab at hp
  simp only [List.mem_cons, List.not_mem_nil, or_false] at hp
  rcases hp with rfl | rfl | rfl | rfl | rfl | rfl | rfl | rfl | rfl | rfl | rfl | rfl | rfl | rfl | rfl | rfl | rfl | rfl | rfl | rfl | rfl | rfl | rfl | rfl | rfl | rfl | rfl | rfl | rfl | rfl | rfl | rfl | rfl | rfl | rfl | rfl | rfl | rfl | rfl | rfl | rfl | rfl
  · exact tabAll_ok runs0 _ (List.mem_singleton.2 rfl)
  · exact tabAll_ok runs1 _ (List.mem_singleton.2 rfl)
  · exact tabAll_ok runs2 _ (List.mem_singleton.2 rfl)
  · exact tabAll_ok runs3 _ (List.mem_singleton.2 rfl)
  · exact tabAll_ok runs4 _ (List.mem_singleton.2 rfl)
  · exact tabAll_ok runs5 _ (List.mem_singleton.2 rfl)
  · exact tabAll_ok runs6 _ (List.mem_singleton.2 rfl)
  · exact tabAll_ok runs7 _ (List.mem_singleton.2 rfl)
  · exact tabAll_ok runs8 _ (List.mem_singleton.2 rfl)
  · exact tabAll_ok runs9 _ (List.mem_singleton.2 rfl)
  · exact tabAll_ok runs10 _ (List.mem_singleton.2 rfl)
  · exact tabAll_ok runs11 _ (List.mem_singleton.2 rfl)
  · exact tabAll_ok runs12 _ (List.mem_singleton.2 rfl)
  · exact tabAll_ok runs13 _ (List.mem_singleton.2 rfl)
  · exact tabAll_ok runs14 _ (List.mem_singleton.2 rfl)
  · exact tabAll_ok runs15 _ (List.mem_singleton.2 rfl)
  · exact tabAll_ok runs16 _ (List.mem_singleton.2 rfl)
  · exact tabAll_ok runs17 _ (List.mem_singleton.2 rfl)
  · exact tabAll_ok runs18 _ (List.mem_singleton.2 rfl)
  · exact tabAll_ok runs19 _ (List.mem_singleton.2 rfl)
  · exact tabAll_ok runs20 _ (List.mem_singleton.2 rfl)
  · exact tabAll_ok runs21 _ (List.mem_singleton.2 rfl)
  · exact tabAll_ok runs22 _ (List.mem_singleton.2 rfl)
  · exact tabAll_ok runs23 _ (List.mem_singleton.2 rfl)
  · exact tabAll_ok runs24 _ (List.mem_singleton.2 rfl)
  · exact tabAll_ok runs25 _ (List.mem_singleton.2 rfl)
  · exact tabAll_ok runs26 _ (List.mem_singleton.2 rfl)
  · exact tabAll_ok runs27 _ (List.mem_singleton.2 rfl)
  · exact tabAll_ok runs28 _ (List.mem_singleton.2 rfl)
  · exact tabAll_ok runs29 _ (List.mem_singleton.2 rfl)
  · exact tabAll_ok runs30 _ (List.mem_singleton.2 rfl)
  · exact tabAll_ok runs31 _ (List.mem_singleton.2 rfl)
  · exact tabAll_ok runs32 _ (List.mem_singleton.2 rfl)
  · exact tabAll_ok runs33 _ (List.mem_singleton.2 rfl)
  · exact tabAll_ok runs34 _ (List.mem_singleton.2 rfl)
  · exact tabAll_ok runs35 _ (List.mem_singleton.2 rfl)
  · exact tabAll_ok runs36 _ (List.mem_singleton.2 rfl)
  · exact tabAll_ok runs37 _ (List.mem_singleton.2 rfl)
  · exact tabAll_ok runs38 _ (List.mem_singleton.2 rfl)
  · exact tabAll_ok runs39 _ (List.mem_singleton.2 rfl)
  · exact tabAll_ok runs40 _ (List.mem_singleton.2 rfl)
  · exact tabAll_ok runs41 _ (List.mem_singleton.2 rfl)
theorem X3_ok : ∀ f h, X3 f = some h → HookOk Tryz.prog f h := by
  intro f h e
  rcases pick_some e with ⟨rfl, rfl⟩ | e
  · exact hTab_ok fit (ev_ok fit X2_ok 100000) (by rw [globals_size]; rfl) (by decide) (by kernel_rfl) rows_all
  · exact X2_ok f h e
theorem top_calls (w : World) (h : Rep Tryz.prog (sgG Tryz.prog.globals.size w) (stG objs) w) : Calls Tryz.prog 3 #[] w fun en w' => en = .returned (.bool true) ∧ SameOld w w' := by
  refine (ev_calls fit X3_ok top_runs h .nil fun en up s e => ?_).mono fun en w' ⟨v, x, s', τ, he, hk, hd, hv⟩ => ?_
  · cases en with
    | returned v => exact ⟨v, rfl⟩
    | panicked c => exact (no_ok (n := 411) e).elim
  · obtain ⟨hb, _⟩ := ifk_no (show ifk (AV.beqF 6 v (.bool true) && !s'.wl) .ok (.no 410) = .ok from hk)
    rw [Bool.and_eq_true] at hb
    have := beqF_ok 6 _ _ hb.1
    subst this
    cases hv
    exact ⟨he, sameOld_of (by rw [globals_size]; rfl) (by decide) h hd.2 (by simpa using hb.2)⟩
end Go.Proofs.YtlohkhfopnkcmaaGreatDoor

/- PlainKnown: the row and its card. -/
namespace Go.Proofs.YtlohkhfopnkcmaaGreatDoor
open Go Go.Ev Go.ChangeShapes Go.WideShapes Go.RowKit

theorem Tryz.own : ownKnob Tryz.prog.godebug = none := by kernel_rfl

def spaces : List (Nat × Nat × Nat) := [(9, 13, 1), (32, 133, 101), (160, 5760, 5600), (8192, 8202, 1), (8232, 8233, 1), (8239, 8287, 48), (12288, 12288, 1)]
def spaceCells : Array Value := (spaces.flatMap fun x => [.int .u16 (Int.ofNat x.1), .int .u16 (Int.ofNat x.2.1), .int .u16 (Int.ofNat x.2.2)]).toArray
def errRange : ByteArray := ⟨#[118, 97, 108, 117, 101, 32, 111, 117, 116, 32, 111, 102, 32, 114, 97, 110, 103, 101]⟩
def errSyntax : ByteArray := ⟨#[105, 110, 118, 97, 108, 105, 100, 32, 115, 121, 110, 116, 97, 120]⟩
def laidCells (g : Nat) (old : Array Value) : Array Value :=
  if g = 0 then #[.iface 274 (.agg #[.pointer (some ⟨10, 35, none⟩)])]
  else if g = 1 then (nAscii.map (Value.int .u8)).toArray
  else if g = 2 then #[.pointer (some ⟨18, 0, none⟩)]
  else if g = 4 then (nPows.map (Value.int .u64)).toArray
  else if g = 5 then #[.iface 407 (.pointer (some ⟨15, 0, none⟩))]
  else if g = 6 then (nB32.map (Value.int .u8)).toArray
  else if g = 7 then (nB64.map (Value.int .u8)).toArray
  else if g = 8 then #[.iface 407 (.pointer (some ⟨16, 0, none⟩))]
  else old
/-- A world that meets the condition. -/
noncomputable def laidWorld (os : Os) : World :=
  let w0 := World.holding Tryz.prog os ⟨#[.cells #[.string errRange] 409, .cells #[.string errSyntax] 409, .cells spaceCells 346, .cells #[.slice (some ⟨17, 0, none⟩) 7 7, .slice none 0 0, .int .i64 2] 343], #[], []⟩
  { w0 with heap := w0.heap.mapIdx fun g o => match o with
      | .cells c t frozen => .cells (laidCells g c) t frozen
      | o => o }
theorem laidWorld_met (os : Os) : laidMetH Tryz.prog Rows.plainKnownRow.laid ((laidWorld os).forCall (fun _ _ => 0) ⟨#[], #[], []⟩).memory :=
  laidMetH_of_parts (laidMet_of_run' 12 (by kernel_rfl) (by kernel_rfl)) (by kernel_rfl)
theorem laidWorld_shaped (os : Os) : ((laidWorld os).forCall (fun _ _ => 0) ⟨#[], #[], []⟩).Shaped Tryz.prog :=
  World.shaped_of_RefB (by kernel_rfl) (by kernel_rfl)

theorem keptBut_same {w u : World} (h : SameOld w u) (may : MemPlace → Prop) : w.keptBut u may := by
  obtain ⟨h1, h2, h3, h4, _⟩ := h
  refine ⟨h3, h4, fun i hi => ?_⟩
  rw [h1 i hi]
  split
  · rename_i c t fr c' t' fr' e1 e2
    rw [e1] at e2; cases e2
    exact ⟨rfl, rfl, rfl, fun _ _ => rfl⟩
  · rename_i es ck es' ck' e1 e2
    rw [e1] at e2; cases e2
    exact .inr ⟨rfl, rfl⟩
  · rfl

theorem lifted (os : Os) (started : os.Started) (H : Type) (enc : TypeId × Value → H) :
    ReturnsInHanded {} Tryz.checked os 3 .any (fun w args => (Rows.plainKnownSpec.pre enc Tryz.prog Tryz.f3 [] false w args ∧ laidMetH Tryz.prog Rows.plainKnownRow.laid w) ∧ sizedMet enc Tryz.prog Tryz.f3 (OpenSpec.ofChange Rows.plainKnownSpec) false w args)
      (Rows.plainKnownSpec.post enc Tryz.prog Tryz.f3 false true false false) := by
  refine returnsInHanded_of_calls (C := Tryz.checked) Tryz.own started (by kernel_rfl)
    (ChangeSpec.witness_shaped (enc := enc) (C := Tryz.checked) (os := os) (fn := Tryz.f3) (s := Rows.plainKnownSpec) (conds := []) (apart := false) (X := fun w _ => laidMetH Tryz.prog Rows.plainKnownRow.laid w) false (laidWorld os) #[] 8 rfl (laidWorld_shaped os) (by kernel_rfl) (by kernel_rfl) (by kernel_rfl) (laidWorld_met os)) ?_
  intro w tape i _ hsh _ hok hpre _
  obtain ⟨⟨⟨ds, gs, before, hw, _⟩, hx⟩, _⟩ := hpre
  have hx : laidMetH Tryz.prog Rows.plainKnownRow.laid (w.forCall tape i) := hx.of_heap (by rfl)
  have hw' := DataW.Whole.of_heap (w' := w.forCall tape i) (by rfl) hw
  have hW := hw'
  obtain ⟨p, q, hA0, hV0, rfl, _, _⟩ := hw'
  have hA : DataW.TrodAll enc Tryz.prog (w.forCall tape i) 0 (fun _ => true) true Tryz.f3.params.toList i.args.toList ds p := hA0
  have hV : DataW.TrodVars enc Tryz.prog (w.forCall tape i) (fun _ => true) [] gs q := hV0
  have hargs : i.args = #[] ∧ ds = [] := by
    rw [Tryz.params3] at hA
    generalize hl : i.args.toList = l at hA
    cases l with
    | cons v l => exact absurd hA (by intro h; cases h)
    | nil =>
      cases ds with
      | cons d ds => exact absurd hA (by intro h; cases h)
      | nil => exact ⟨by cases hi : i.args; rw [hi] at hl; simp at hl; subst hl; rfl, rfl⟩
  obtain ⟨ha, rfl⟩ := hargs
  obtain ⟨rfl, rfl⟩ : gs = [] ∧ q = [] := by
    cases gs with
    | nil => exact ⟨rfl, hV⟩
    | cons g r => exact absurd hV (by intro h; cases h)
  have hcalls := top_calls _ (rep_start hsh hx)
  rw [← ha] at hcalls
  refine hcalls.mono fun e W' ⟨he, hs⟩ => ?_
  subst he
  refine ChangeSpec.post_blind (W := w.forCall tape i) (W' := W') ?_
  have e1 : Rows.plainKnownSpec.fn H ([] ++ []) = { results := [.lit (.bool true)], args := [] } := rfl
  refine ⟨[], [], p ++ [], [], [], [], hW, ?_, ?_, ?_, keptBut_same hs _, fun h => by cases h⟩
  · rw [e1]; exact trodAll_mk1 (shut_bool Tryz.underlying4 true)
  · rw [e1, ha]; rfl
  · rw [e1]; rfl
theorem plainKnown_holds : Rows.PlainKnownSaid :=
  OpenClaim.holds_of_wide 3 Tryz.f3 rfl rfl rfl rfl rfl rfl rfl ⟨rfl, rfl, rfl, rfl, rfl⟩ rfl rfl rfl rfl rfl (by kernel_rfl) Tryz.func3 plainKnown_facts
    (of_decide_eq_true (by kernel_rfl)) (by unfold Func.isWrapper; rw [if_neg (of_decide_eq_false (by kernel_rfl))]; exact ⟨rfl, rfl⟩)
    (fun os started H enc _ => lifted os started H enc)
theorem plainKnown_card : Rows.PlainKnownCardSaid :=
  Claim7.holds_tied_plain_at .later [] [.data, .data, .data, .handle, .sentinel, .sentinel, .listed, .data] true (true, "8c99480e5d7de5bf4c69ac1c622a2d70317a167a7c6cae4e38525b6e458cf89b") true
    plainKnown_holds (fun _ h => by cases h) (by kernel_rfl) (fun _ h => by cases h) plainKnown_row_tie rfl ⟨rfl, rfl⟩ (by kernel_rfl) rfl
    (fun f fn hf hfn => by
      obtain rfl : f = 3 := Option.some.inj ((show Tryz.prog.funcNamed "tallow/tallowlaw31.PlainKnown" = some 3 by kernel_rfl).symm.trans hf) |>.symm
      obtain rfl : fn = Tryz.f3 := (Option.some.inj (Tryz.func3.symm.trans hfn)).symm
      exact ⟨by kernel_rfl, fun j t ht => by
        rw [Tryz.params3] at ht
        simp at ht⟩)
    (by kernel_rfl)
end Go.Proofs.YtlohkhfopnkcmaaGreatDoor
