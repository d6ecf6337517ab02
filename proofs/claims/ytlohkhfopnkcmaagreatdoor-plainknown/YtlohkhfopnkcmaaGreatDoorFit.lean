/- The program fits the evaluator. -/
import Derived.Test.YtlohkhfopnkcmaaGreatDoorEvC
import Derived.KernelRfl
import Derived.Test.YtlohkhfopnkcmaaGreatDoorProg

namespace Go.Proofs.YtlohkhfopnkcmaaGreatDoor
open Go Go.Ev

def fitT (P : Program) (t : TypeId) : Bool :=
  (match P.underlying t with
    | some (.struct fs) => fs.toList.all fun f => (P.info? f.type).isSome
    | some (.slice e) => (match P.info? e with | some i => i.zero.isSome | none => true)
    | _ => true) &&
  (match P.info? t with
    | some i => (match i.zero with | some z => z.cells.size == i.size | none => true)
    | none => true)
def fitF (fn : Func) : Bool := !fn.body.isSome || !(fn.name == "runtime.NumGoroutine")
theorem fit_of (P : Program) (hT : (List.range P.types.size).all (fitT P) = true) (hF : P.funcs.toList.all fitF = true) (hM : P.follows .mixedOrders = true) : Fit P := by
  have hfit : ∀ t, t < P.types.size → fitT P t = true := fun t h => List.all_eq_true.1 hT t (List.mem_range.2 h)
  refine ⟨fun t fs hl h f hf => ?_, fun t i z hl h hz => ?_, fun t e i hl h hi => ?_, fun f fn h hb => ?_, hM⟩
  · have h1 := hfit t hl
    unfold fitT at h1
    rw [h, Bool.and_eq_true] at h1
    exact List.all_eq_true.1 h1.1 f hf
  · have h1 := hfit t hl
    unfold fitT at h1
    rw [h, Bool.and_eq_true] at h1
    have h2 := h1.2
    simp only [hz, beq_iff_eq] at h2
    exact h2
  · have h1 := hfit t hl
    unfold fitT at h1
    rw [h, Bool.and_eq_true] at h1
    have h2 := h1.1
    simp only [hi] at h2
    exact h2
  · have h1 : fitF fn = true := List.all_eq_true.1 hF fn (by rw [← Array.getElem?_toList] at h; exact List.mem_of_getElem? h)
    unfold fitF at h1
    rw [hb] at h1
    simpa using h1
theorem fit : Fit Tryz.prog := fit_of _ (by kernel_rfl) (by kernel_rfl) (by kernel_rfl)
end Go.Proofs.YtlohkhfopnkcmaaGreatDoor
