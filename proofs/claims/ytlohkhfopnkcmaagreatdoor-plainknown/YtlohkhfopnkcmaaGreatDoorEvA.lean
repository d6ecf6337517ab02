/- The evaluator of a program's code over known and unknown values: what it is. -/
import Derived.Calls
import Derived.Orders

/- The base of an evaluator of the model's code that runs in the kernel: addresses, tries, abstract values, abstract memory. -/
namespace Go.Ev
open Go

/-- What comes of a run: it is well, or it is given up (with a number, for looking). -/
inductive R where
  | ok
  | no (n : Nat)

/-- Addresses: numbers in base four. -/
inductive Adr where
  | e
  | a (p : Adr)
  | b (p : Adr)
  | c (p : Adr)
  | d (p : Adr)

def Adr.nat : Adr → Nat
  | .e => 0
  | .a p => 4 * p.nat + 1
  | .b p => 4 * p.nat + 2
  | .c p => 4 * p.nat + 3
  | .d p => 4 * p.nat + 4

/-- the next address -/
noncomputable def Adr.succ (p : Adr) : Adr :=
  Adr.rec (.a .e) (fun q _ => .b q) (fun q _ => .c q) (fun q _ => .d q) (fun _ ih => .a ih) p

noncomputable def adrF (f : Nat) : Nat → Adr :=
  Nat.rec (fun _ => .e) (fun _ ih n => Nat.rec (motive := fun _ => Adr) .e (fun m _ =>
    Nat.rec (motive := fun _ => Adr) (.a (ih (Nat.div m 4))) (fun r _ => Nat.rec (motive := fun _ => Adr) (.b (ih (Nat.div m 4))) (fun r _ => Nat.rec (motive := fun _ => Adr) (.c (ih (Nat.div m 4))) (fun _ _ => .d (ih (Nat.div m 4))) r) r) (Nat.mod m 4)) n) f
noncomputable def adr (n : Nat) : Adr := adrF n n

noncomputable def Adr.beq (p : Adr) : Adr → Bool :=
  Adr.rec (fun q => Adr.rec true (fun _ _ => false) (fun _ _ => false) (fun _ _ => false) (fun _ _ => false) q)
    (fun _ ih q => Adr.rec false (fun q _ => ih q) (fun _ _ => false) (fun _ _ => false) (fun _ _ => false) q)
    (fun _ ih q => Adr.rec false (fun _ _ => false) (fun q _ => ih q) (fun _ _ => false) (fun _ _ => false) q)
    (fun _ ih q => Adr.rec false (fun _ _ => false) (fun _ _ => false) (fun q _ => ih q) (fun _ _ => false) q)
    (fun _ ih q => Adr.rec false (fun _ _ => false) (fun _ _ => false) (fun _ _ => false) (fun q _ => ih q) q) p

/-- Tries over addresses. -/
inductive T (α : Type) where
  | l
  | n (x : Option α) (ta tb tc td : T α)

section
variable {α : Type}
noncomputable def T.val (t : T α) : Option α := T.rec none (fun x _ _ _ _ _ _ _ _ => x) t
noncomputable def T.ta (t : T α) : T α := T.rec .l (fun _ x _ _ _ _ _ _ _ => x) t
noncomputable def T.tb (t : T α) : T α := T.rec .l (fun _ _ x _ _ _ _ _ _ => x) t
noncomputable def T.tc (t : T α) : T α := T.rec .l (fun _ _ _ x _ _ _ _ _ => x) t
noncomputable def T.td (t : T α) : T α := T.rec .l (fun _ _ _ _ x _ _ _ _ => x) t
noncomputable def T.get (p : Adr) : T α → Option α :=
  Adr.rec (fun t => T.rec none (fun x _ _ _ _ _ _ _ _ => x) t)
    (fun _ ih t => T.rec none (fun _ x _ _ _ _ _ _ _ => ih x) t)
    (fun _ ih t => T.rec none (fun _ _ x _ _ _ _ _ _ => ih x) t)
    (fun _ ih t => T.rec none (fun _ _ _ x _ _ _ _ _ => ih x) t)
    (fun _ ih t => T.rec none (fun _ _ _ _ x _ _ _ _ => ih x) t) p
noncomputable def T.setk (p : Adr) : Option α → T α → (T α → R) → R :=
  Adr.rec
    (fun y t k => T.rec (k (.n y .l .l .l .l)) (fun _ a b c d _ _ _ _ => k (.n y a b c d)) t)
    (fun _ ih y t k => T.rec (ih y .l fun a => k (.n none a .l .l .l)) (fun x a b c d _ _ _ _ => ih y a fun a => k (.n x a b c d)) t)
    (fun _ ih y t k => T.rec (ih y .l fun b => k (.n none .l b .l .l)) (fun x a b c d _ _ _ _ => ih y b fun b => k (.n x a b c d)) t)
    (fun _ ih y t k => T.rec (ih y .l fun c => k (.n none .l .l c .l)) (fun x a b c d _ _ _ _ => ih y c fun c => k (.n x a b c d)) t)
    (fun _ ih y t k => T.rec (ih y .l fun d => k (.n none .l .l .l d)) (fun x a b c d _ _ _ _ => ih y d fun d => k (.n x a b c d)) t) p
end

/-- Abstract values. -/
inductive AV where
  | top
  | bool (b : Bool)
  | int (k : IntKind) (n : Int)
  | str (len n : Nat)
  | ptr (a : Adr) (off : Nat)
  | nilptr
  | slice (a : Adr) (off len cap : Nat)
  | gslice (a : Adr) (off len es : Nat)
  | nilslice
  | map (a : Adr)
  | nilmap
  | func (fn : Fn) (first captured : List AV)
  | nilfunc
  | iface (t : TypeId) (v : AV)
  | niliface
  | agg (vs : List AV)
  | tuple (vs : List AV)
  /-- a number of that kind, a truth value: which one is not known -/
  | aint (k : IntKind) (lo hi : Option Int)
  | abool
  /-- a slice without room, not nil -/
  | zslice

inductive ADef where
  | call (fn : FuncId) (args : List AV)
  | collected (a : Adr)

inductive AObj where
  | cells (elem : TypeId) (grown : Bool) (fz : Nat) (vs : List AV)
  | map (es : List (AV × AV)) (clk : Nat)
  | strIter (len n pos : Nat)
  | mapIter (m : Adr) (clk : Nat)
  | loop (st : LoopState) (pending : Option Code) (tmps : T AV) (n : Nat) (params : List Tmp) (assign body : Code)
  | deferred
  | taken
  /-- nothing is known of it -/
  | any

/-- Memory: its objects, the next address; a bound (0: none), and whether an object below it was changed. -/
structure St where
  heap : T AObj
  nx : Adr
  bd : Nat
  wl : Bool

inductive AMode where
  | returning
  | panicking (ch : List (AV × Bool))

inductive Up where
  | no
  | round
  | deferred (m : AMode)

structure Cx where
  fr : T AV
  n : Nat
  defs : List ADef
  up : Up

inductive AExit where
  | normal
  | exit (id : Nat)
  | goto (l : Nat)
  | ret
  | panic (ch : List (AV × Bool))

inductive AEnd where
  | returned (v : AV)
  | panicked (ch : List (AV × Bool))

noncomputable def AV.onBool (v : AV) : (Bool → R) → R → R :=
  AV.rec (motive_1 := fun _ => (Bool → R) → R → R) (motive_2 := fun _ => Unit) (fun _ d => d) (fun x0 k _ => k x0) (fun _ _ _ d => d) (fun _ _ _ d => d) (fun _ _ _ d => d) (fun _ d => d) (fun _ _ _ _ _ d => d) (fun _ _ _ _ _ d => d) (fun _ d => d) (fun _ _ d => d) (fun _ d => d) (fun _ _ _ _ _ _ d => d) (fun _ d => d) (fun _ _ _ _ d => d) (fun _ d => d) (fun _ _ _ d => d) (fun _ _ _ d => d) (fun _ _ _ _ d => d) (fun _ d => d) (fun _ d => d) () (fun _ _ _ _ => ()) v

noncomputable def AV.onInt (v : AV) : (IntKind → Int → R) → R → R :=
  AV.rec (motive_1 := fun _ => (IntKind → Int → R) → R → R) (motive_2 := fun _ => Unit) (fun _ d => d) (fun _ _ d => d) (fun x0 x1 k _ => k x0 x1) (fun _ _ _ d => d) (fun _ _ _ d => d) (fun _ d => d) (fun _ _ _ _ _ d => d) (fun _ _ _ _ _ d => d) (fun _ d => d) (fun _ _ d => d) (fun _ d => d) (fun _ _ _ _ _ _ d => d) (fun _ d => d) (fun _ _ _ _ d => d) (fun _ d => d) (fun _ _ _ d => d) (fun _ _ _ d => d) (fun _ _ _ _ d => d) (fun _ d => d) (fun _ d => d) () (fun _ _ _ _ => ()) v

noncomputable def AV.onStr (v : AV) : (Nat → Nat → R) → R → R :=
  AV.rec (motive_1 := fun _ => (Nat → Nat → R) → R → R) (motive_2 := fun _ => Unit) (fun _ d => d) (fun _ _ d => d) (fun _ _ _ d => d) (fun x0 x1 k _ => k x0 x1) (fun _ _ _ d => d) (fun _ d => d) (fun _ _ _ _ _ d => d) (fun _ _ _ _ _ d => d) (fun _ d => d) (fun _ _ d => d) (fun _ d => d) (fun _ _ _ _ _ _ d => d) (fun _ d => d) (fun _ _ _ _ d => d) (fun _ d => d) (fun _ _ _ d => d) (fun _ _ _ d => d) (fun _ _ _ _ d => d) (fun _ d => d) (fun _ d => d) () (fun _ _ _ _ => ()) v

noncomputable def AV.onPtr (v : AV) : (Adr → Nat → R) → R → R :=
  AV.rec (motive_1 := fun _ => (Adr → Nat → R) → R → R) (motive_2 := fun _ => Unit) (fun _ d => d) (fun _ _ d => d) (fun _ _ _ d => d) (fun _ _ _ d => d) (fun x0 x1 k _ => k x0 x1) (fun _ d => d) (fun _ _ _ _ _ d => d) (fun _ _ _ _ _ d => d) (fun _ d => d) (fun _ _ d => d) (fun _ d => d) (fun _ _ _ _ _ _ d => d) (fun _ d => d) (fun _ _ _ _ d => d) (fun _ d => d) (fun _ _ _ d => d) (fun _ _ _ d => d) (fun _ _ _ _ d => d) (fun _ d => d) (fun _ d => d) () (fun _ _ _ _ => ()) v

noncomputable def AV.onAgg (v : AV) : (List AV → R) → R → R :=
  AV.rec (motive_1 := fun _ => (List AV → R) → R → R) (motive_2 := fun _ => Unit) (fun _ d => d) (fun _ _ d => d) (fun _ _ _ d => d) (fun _ _ _ d => d) (fun _ _ _ d => d) (fun _ d => d) (fun _ _ _ _ _ d => d) (fun _ _ _ _ _ d => d) (fun _ d => d) (fun _ _ d => d) (fun _ d => d) (fun _ _ _ _ _ _ d => d) (fun _ d => d) (fun _ _ _ _ d => d) (fun _ d => d) (fun x0 _ k _ => k x0) (fun _ _ _ d => d) (fun _ _ _ _ d => d) (fun _ d => d) (fun _ d => d) () (fun _ _ _ _ => ()) v

noncomputable def AV.onTuple (v : AV) : (List AV → R) → R → R :=
  AV.rec (motive_1 := fun _ => (List AV → R) → R → R) (motive_2 := fun _ => Unit) (fun _ d => d) (fun _ _ d => d) (fun _ _ _ d => d) (fun _ _ _ d => d) (fun _ _ _ d => d) (fun _ d => d) (fun _ _ _ _ _ d => d) (fun _ _ _ _ _ d => d) (fun _ d => d) (fun _ _ d => d) (fun _ d => d) (fun _ _ _ _ _ _ d => d) (fun _ d => d) (fun _ _ _ _ d => d) (fun _ d => d) (fun _ _ _ d => d) (fun x0 _ k _ => k x0) (fun _ _ _ _ d => d) (fun _ d => d) (fun _ d => d) () (fun _ _ _ _ => ()) v

noncomputable def AV.onIface (v : AV) : (TypeId → AV → R) → R → R :=
  AV.rec (motive_1 := fun _ => (TypeId → AV → R) → R → R) (motive_2 := fun _ => Unit) (fun _ d => d) (fun _ _ d => d) (fun _ _ _ d => d) (fun _ _ _ d => d) (fun _ _ _ d => d) (fun _ d => d) (fun _ _ _ _ _ d => d) (fun _ _ _ _ _ d => d) (fun _ d => d) (fun _ _ d => d) (fun _ d => d) (fun _ _ _ _ _ _ d => d) (fun _ d => d) (fun x0 x1 _ k _ => k x0 x1) (fun _ d => d) (fun _ _ _ d => d) (fun _ _ _ d => d) (fun _ _ _ _ d => d) (fun _ d => d) (fun _ d => d) () (fun _ _ _ _ => ()) v

noncomputable def AV.onMap (v : AV) : (Adr → R) → R → R :=
  AV.rec (motive_1 := fun _ => (Adr → R) → R → R) (motive_2 := fun _ => Unit) (fun _ d => d) (fun _ _ d => d) (fun _ _ _ d => d) (fun _ _ _ d => d) (fun _ _ _ d => d) (fun _ d => d) (fun _ _ _ _ _ d => d) (fun _ _ _ _ _ d => d) (fun _ d => d) (fun x0 k _ => k x0) (fun _ d => d) (fun _ _ _ _ _ _ d => d) (fun _ d => d) (fun _ _ _ _ d => d) (fun _ d => d) (fun _ _ _ d => d) (fun _ _ _ d => d) (fun _ _ _ _ d => d) (fun _ d => d) (fun _ d => d) () (fun _ _ _ _ => ()) v

noncomputable def AV.onFunc (v : AV) : (Fn → List AV → List AV → R) → R → R :=
  AV.rec (motive_1 := fun _ => (Fn → List AV → List AV → R) → R → R) (motive_2 := fun _ => Unit) (fun _ d => d) (fun _ _ d => d) (fun _ _ _ d => d) (fun _ _ _ d => d) (fun _ _ _ d => d) (fun _ d => d) (fun _ _ _ _ _ d => d) (fun _ _ _ _ _ d => d) (fun _ d => d) (fun _ _ d => d) (fun _ d => d) (fun x0 x1 x2 _ _ k _ => k x0 x1 x2) (fun _ d => d) (fun _ _ _ _ d => d) (fun _ d => d) (fun _ _ _ d => d) (fun _ _ _ d => d) (fun _ _ _ _ d => d) (fun _ d => d) (fun _ d => d) () (fun _ _ _ _ => ()) v

noncomputable def AV.sl (v : AV) : R → (Adr → Nat → Nat → Nat → R) → (Adr → Nat → Nat → Nat → R) → R → R :=
  AV.rec (motive_1 := fun _ => R → (Adr → Nat → Nat → Nat → R) → (Adr → Nat → Nat → Nat → R) → R → R) (motive_2 := fun _ => Unit) (fun _ _ _ d => d) (fun _ _ _ _ d => d) (fun _ _ _ _ _ d => d) (fun _ _ _ _ _ d => d) (fun _ _ _ _ _ d => d) (fun _ _ _ d => d) (fun x0 x1 x2 x3 _ k _ _ => k x0 x1 x2 x3) (fun x0 x1 x2 x3 _ _ k _ => k x0 x1 x2 x3) (fun k _ _ _ => k) (fun _ _ _ _ d => d) (fun _ _ _ d => d) (fun _ _ _ _ _ _ _ _ d => d) (fun _ _ _ d => d) (fun _ _ _ _ _ _ d => d) (fun _ _ _ d => d) (fun _ _ _ _ _ d => d) (fun _ _ _ _ _ d => d) (fun _ _ _ _ _ _ d => d) (fun _ _ _ d => d) (fun _ _ _ d => d) () (fun _ _ _ _ => ()) v

noncomputable def AV.bin (v : AV) : (IntKind → Int → R) → (Nat → Nat → R) → R → (List AV → R) → R → R :=
  AV.rec (motive_1 := fun _ => (IntKind → Int → R) → (Nat → Nat → R) → R → (List AV → R) → R → R) (motive_2 := fun _ => Unit) (fun _ _ _ _ d => d) (fun _ _ _ _ _ d => d) (fun x0 x1 k _ _ _ _ => k x0 x1) (fun x0 x1 _ k _ _ _ => k x0 x1) (fun _ _ _ _ _ _ d => d) (fun _ _ _ _ d => d) (fun _ _ _ _ _ _ _ _ d => d) (fun _ _ _ _ _ _ _ _ d => d) (fun _ _ _ _ d => d) (fun _ _ _ _ _ d => d) (fun _ _ _ _ d => d) (fun _ _ _ _ _ _ _ _ _ d => d) (fun _ _ _ _ d => d) (fun _ _ _ _ _ _ _ d => d) (fun _ _ k _ _ => k) (fun x0 _ _ _ _ k _ => k x0) (fun _ _ _ _ _ _ d => d) (fun _ _ _ _ _ _ _ d => d) (fun _ _ _ _ d => d) (fun _ _ _ _ d => d) () (fun _ _ _ _ => ()) v

noncomputable def AV.nilc (v : AV) : (Adr → Nat → R) → (TypeId → AV → R) → (Fn → List AV → List AV → R) → R → R :=
  AV.rec (motive_1 := fun _ => (Adr → Nat → R) → (TypeId → AV → R) → (Fn → List AV → List AV → R) → R → R) (motive_2 := fun _ => Unit) (fun _ _ _ d => d) (fun _ _ _ _ d => d) (fun _ _ _ _ _ d => d) (fun _ _ _ _ _ d => d) (fun x0 x1 k _ _ _ => k x0 x1) (fun _ _ _ d => d) (fun _ _ _ _ _ _ _ d => d) (fun _ _ _ _ _ _ _ d => d) (fun _ _ _ d => d) (fun _ _ _ _ d => d) (fun _ _ _ d => d) (fun x0 x1 x2 _ _ _ _ k _ => k x0 x1 x2) (fun _ _ _ d => d) (fun x0 x1 _ _ k _ _ => k x0 x1) (fun _ _ _ d => d) (fun _ _ _ _ _ d => d) (fun _ _ _ _ _ d => d) (fun _ _ _ _ _ _ d => d) (fun _ _ _ d => d) (fun _ _ _ d => d) () (fun _ _ _ _ => ()) v

noncomputable def _root_.Go.TypeDesc.evonStruct (v : TypeDesc) : (Array Field → R) → R → R :=
  TypeDesc.rec (motive := fun _ => (Array Field → R) → R → R) (fun _ d => d) (fun _ d => d) (fun _ _ d => d) (fun _ _ d => d) (fun _ _ d => d) (fun _ d => d) (fun _ d => d) (fun _ _ d => d) (fun _ _ d => d) (fun _ _ _ d => d) (fun _ _ _ d => d) (fun _ _ _ d => d) (fun x0 k _ => k x0) (fun _ _ _ _ d => d) (fun _ _ d => d) (fun _ _ d => d) (fun _ _ _ d => d) v

noncomputable def _root_.Go.TypeDesc.evonSlice (v : TypeDesc) : (TypeId → R) → R → R :=
  TypeDesc.rec (motive := fun _ => (TypeId → R) → R → R) (fun _ d => d) (fun _ d => d) (fun _ _ d => d) (fun _ _ d => d) (fun _ _ d => d) (fun _ d => d) (fun _ d => d) (fun _ _ d => d) (fun x0 k _ => k x0) (fun _ _ _ d => d) (fun _ _ _ d => d) (fun _ _ _ d => d) (fun _ _ d => d) (fun _ _ _ _ d => d) (fun _ _ d => d) (fun _ _ d => d) (fun _ _ _ d => d) v

noncomputable def _root_.Go.TypeDesc.evonArray (v : TypeDesc) : (Nat → TypeId → R) → R → R :=
  TypeDesc.rec (motive := fun _ => (Nat → TypeId → R) → R → R) (fun _ d => d) (fun _ d => d) (fun _ _ d => d) (fun _ _ d => d) (fun _ _ d => d) (fun _ d => d) (fun _ d => d) (fun _ _ d => d) (fun _ _ d => d) (fun x0 x1 k _ => k x0 x1) (fun _ _ _ d => d) (fun _ _ _ d => d) (fun _ _ d => d) (fun _ _ _ _ d => d) (fun _ _ d => d) (fun _ _ d => d) (fun _ _ _ d => d) v

noncomputable def _root_.Go.TypeDesc.evonInt (v : TypeDesc) : (IntKind → R) → R → R :=
  TypeDesc.rec (motive := fun _ => (IntKind → R) → R → R) (fun _ d => d) (fun _ d => d) (fun x0 k _ => k x0) (fun _ _ d => d) (fun _ _ d => d) (fun _ d => d) (fun _ d => d) (fun _ _ d => d) (fun _ _ d => d) (fun _ _ _ d => d) (fun _ _ _ d => d) (fun _ _ _ d => d) (fun _ _ d => d) (fun _ _ _ _ d => d) (fun _ _ d => d) (fun _ _ d => d) (fun _ _ _ d => d) v

noncomputable def _root_.Go.TypeDesc.evonMap (v : TypeDesc) : (TypeId → TypeId → R) → R → R :=
  TypeDesc.rec (motive := fun _ => (TypeId → TypeId → R) → R → R) (fun _ d => d) (fun _ d => d) (fun _ _ d => d) (fun _ _ d => d) (fun _ _ d => d) (fun _ d => d) (fun _ d => d) (fun _ _ d => d) (fun _ _ d => d) (fun _ _ _ d => d) (fun x0 x1 k _ => k x0 x1) (fun _ _ _ d => d) (fun _ _ d => d) (fun _ _ _ _ d => d) (fun _ _ d => d) (fun _ _ d => d) (fun _ _ _ d => d) v

noncomputable def _root_.Go.TypeDesc.evonPointer (v : TypeDesc) : (TypeId → R) → R → R :=
  TypeDesc.rec (motive := fun _ => (TypeId → R) → R → R) (fun _ d => d) (fun _ d => d) (fun _ _ d => d) (fun _ _ d => d) (fun _ _ d => d) (fun _ d => d) (fun _ d => d) (fun x0 k _ => k x0) (fun _ _ d => d) (fun _ _ _ d => d) (fun _ _ _ d => d) (fun _ _ _ d => d) (fun _ _ d => d) (fun _ _ _ _ d => d) (fun _ _ d => d) (fun _ _ d => d) (fun _ _ _ d => d) v

noncomputable def _root_.Go.TypeDesc.evix (v : TypeDesc) : (Nat → TypeId → R) → (TypeId → R) → R → R → R :=
  TypeDesc.rec (motive := fun _ => (Nat → TypeId → R) → (TypeId → R) → R → R → R) (fun _ _ _ d => d) (fun _ _ _ d => d) (fun _ _ _ _ d => d) (fun _ _ _ _ d => d) (fun _ _ _ _ d => d) (fun _ _ k _ => k) (fun _ _ _ d => d) (fun _ _ _ _ d => d) (fun x0 _ k _ _ => k x0) (fun x0 x1 k _ _ _ => k x0 x1) (fun _ _ _ _ _ d => d) (fun _ _ _ _ _ d => d) (fun _ _ _ _ d => d) (fun _ _ _ _ _ _ d => d) (fun _ _ _ _ d => d) (fun _ _ _ _ d => d) (fun _ _ _ _ _ d => d) v

noncomputable def _root_.Go.TypeDesc.evsli (v : TypeDesc) : R → (TypeId → R) → (TypeId → R) → (Nat → TypeId → R) → R → R :=
  TypeDesc.rec (motive := fun _ => R → (TypeId → R) → (TypeId → R) → (Nat → TypeId → R) → R → R) (fun _ _ _ _ d => d) (fun _ _ _ _ d => d) (fun _ _ _ _ _ d => d) (fun _ _ _ _ _ d => d) (fun _ _ _ _ _ d => d) (fun k _ _ _ _ => k) (fun _ _ _ _ d => d) (fun x0 _ _ k _ _ => k x0) (fun x0 _ k _ _ _ => k x0) (fun x0 x1 _ _ _ k _ => k x0 x1) (fun _ _ _ _ _ _ d => d) (fun _ _ _ _ _ _ d => d) (fun _ _ _ _ _ d => d) (fun _ _ _ _ _ _ _ d => d) (fun _ _ _ _ _ d => d) (fun _ _ _ _ _ d => d) (fun _ _ _ _ _ _ d => d) v

noncomputable def _root_.Go.TypeDesc.evsa (v : TypeDesc) : (Array Field → R) → (Nat → TypeId → R) → R → R :=
  TypeDesc.rec (motive := fun _ => (Array Field → R) → (Nat → TypeId → R) → R → R) (fun _ _ d => d) (fun _ _ d => d) (fun _ _ _ d => d) (fun _ _ _ d => d) (fun _ _ _ d => d) (fun _ _ d => d) (fun _ _ d => d) (fun _ _ _ d => d) (fun _ _ _ d => d) (fun x0 x1 _ k _ => k x0 x1) (fun _ _ _ _ d => d) (fun _ _ _ _ d => d) (fun x0 k _ _ => k x0) (fun _ _ _ _ _ d => d) (fun _ _ _ d => d) (fun _ _ _ d => d) (fun _ _ _ _ d => d) v

noncomputable def _root_.Go.TypeDesc.evonIface (v : TypeDesc) : (Array (String × TypeId) → R) → R → R :=
  TypeDesc.rec (motive := fun _ => (Array (String × TypeId) → R) → R → R) (fun _ d => d) (fun _ d => d) (fun _ _ d => d) (fun _ _ d => d) (fun _ _ d => d) (fun _ d => d) (fun _ d => d) (fun _ _ d => d) (fun _ _ d => d) (fun _ _ _ d => d) (fun _ _ _ d => d) (fun _ _ _ d => d) (fun _ _ d => d) (fun _ _ _ _ d => d) (fun x0 k _ => k x0) (fun _ _ d => d) (fun _ _ _ d => d) v

noncomputable def AObj.onCells (v : AObj) : (TypeId → Bool → Nat → List AV → R) → R → R :=
  AObj.rec (motive := fun _ => (TypeId → Bool → Nat → List AV → R) → R → R) (fun x0 x1 x2 x3 k _ => k x0 x1 x2 x3) (fun _ _ _ d => d) (fun _ _ _ _ d => d) (fun _ _ _ d => d) (fun _ _ _ _ _ _ _ _ d => d) (fun _ d => d) (fun _ d => d) (fun _ d => d) v

noncomputable def AObj.onMap (v : AObj) : (List (AV × AV) → Nat → R) → R → R :=
  AObj.rec (motive := fun _ => (List (AV × AV) → Nat → R) → R → R) (fun _ _ _ _ _ d => d) (fun x0 x1 k _ => k x0 x1) (fun _ _ _ _ d => d) (fun _ _ _ d => d) (fun _ _ _ _ _ _ _ _ d => d) (fun _ d => d) (fun _ d => d) (fun _ d => d) v

noncomputable def AObj.onLoop (v : AObj) : (LoopState → Option Code → T AV → Nat → List Tmp → Code → Code → R) → R → R :=
  AObj.rec (motive := fun _ => (LoopState → Option Code → T AV → Nat → List Tmp → Code → Code → R) → R → R) (fun _ _ _ _ _ d => d) (fun _ _ _ d => d) (fun _ _ _ _ d => d) (fun _ _ _ d => d) (fun x0 x1 x2 x3 x4 x5 x6 k _ => k x0 x1 x2 x3 x4 x5 x6) (fun _ d => d) (fun _ d => d) (fun _ d => d) v

/-- force a number -/
noncomputable def fN (n : Nat) (k : Nat → R) : R := Nat.rec (k 0) (fun m _ => k (Nat.succ m)) n
/-- force an integer -/
noncomputable def fI (n : Int) (k : Int → R) : R := Int.rec (fun m => fN m fun m => k (.ofNat m)) (fun m => fN m fun m => k (.negSucc m)) n
noncomputable def fB (b : Bool) (k : Bool → R) : R := Bool.rec (k false) (k true) b
/-- if -/
noncomputable def ifk (b : Bool) (x y : R) : R := Bool.rec y x b
noncomputable def optk {α : Type} (o : Option α) (n : Nat) (k : α → R) : R := Option.rec (.no n) k o

/-- bytes as one number, the first one lowest -/
noncomputable def packL (l : List UInt8) : Nat := List.rec 0 (fun b _ ih => Nat.add b.toNat (Nat.mul 256 ih)) l

/-- a list's first n, and the rest -/
noncomputable def splitk {α : Type} (n : Nat) : List α → (List α → List α → R) → R :=
  Nat.rec (fun l k => k [] l) (fun _ ih l k => List.rec (.no 1) (fun x xs _ => ih xs fun a b => k (x :: a) b) l) n
noncomputable def appk {α : Type} (l : List α) : List α → (List α → R) → R :=
  List.rec (fun m k => k m) (fun x _ ih m k => ih m fun r => k (x :: r)) l
noncomputable def nthk {α : Type} (n : Nat) : List α → (α → R) → R :=
  Nat.rec (fun l k => List.rec (.no 2) (fun x _ _ => k x) l) (fun _ ih l k => List.rec (.no 2) (fun _ xs _ => ih xs k) l) n
noncomputable def setNthk {α : Type} (n : Nat) (y : α) : List α → (List α → R) → R :=
  Nat.rec (fun l k => List.rec (.no 3) (fun _ xs _ => k (y :: xs)) l) (fun _ ih l k => List.rec (.no 3) (fun x xs _ => ih xs fun r => k (x :: r)) l) n
noncomputable def lenFk {α : Type} (l : List α) : Nat → (Nat → R) → R := List.rec (fun n k => k n) (fun _ _ ih n k => fN (Nat.add n 1) fun n => ih n k) l
noncomputable def lenk {α : Type} (l : List α) (k : Nat → R) : R := lenFk l 0 k
noncomputable def repk {α : Type} (n : Nat) : List α → (List α → R) → R := Nat.rec (fun _ k => k []) (fun _ ih l k => ih l fun r => appk l r k) n

/-- is it a value of one cell, and known? -/
noncomputable def AV.plain (v : AV) : Bool :=
  AV.rec (motive_1 := fun _ => Bool) (motive_2 := fun _ => Unit) false (fun _ => true) (fun _ _ => true) (fun _ _ => true) (fun _ _ => true) true (fun _ _ _ _ => true) (fun _ _ _ _ => true) true (fun _ => true) true (fun _ _ _ _ _ => true) true (fun _ _ _ => true) true (fun _ _ => false) (fun _ _ => false) (fun _ _ _ => true) true true () (fun _ _ _ _ => ()) v
noncomputable def plains (l : List AV) : Bool := List.rec true (fun v _ b => Bool.rec false b v.plain) l
noncomputable def AV.cells (v : AV) : List AV :=
  match v with
  | .agg vs => vs
  | v => [v]

/-- a value's cells -/
noncomputable def cvk (v : AV) (k : List AV → R) : R := AV.onAgg v k (Bool.rec (.no 13) (k [v]) v.plain)

def notYield (f : Fn) : Bool := match f with
  | .yield _ => false
  | _ => true

/-- A constant of the code. -/
noncomputable def atomk (v : Value) (k : AV → R) : R :=
  match v with
  | .bool b => k (.bool b)
  | .int q n => fI n fun n => k (.int q n)
  | .string s => fN s.data.toList.length fun l => fN (packL s.data.toList) fun n => k (.str l n)
  | .pointer none => k .nilptr
  | .slice none len cap => ifk (Nat.beq len 0 && Nat.beq cap 0) (k .nilslice) (.no 10)
  | .map none => k .nilmap
  | .nilFunc => k .nilfunc
  | .nilIface => k .niliface
  | .func fn first captured => ifk (first.toList.isEmpty && captured.toList.isEmpty && notYield fn) (k (.func fn [] [])) (.no 11)
  | _ => .no 12
noncomputable def atomsk (l : List Value) (k : List AV → R) : R :=
  List.rec (motive := fun _ => (List AV → R) → R) (fun k => k []) (fun v _ ih k => atomk v fun a => ih fun r => k (a :: r)) l k
noncomputable def constk (v : Value) (k : AV → R) : R :=
  match v with
  | .agg cs => atomsk cs.toList fun l => k (.agg l)
  | .tuple cs => atomsk cs.toList fun l => k (.tuple l)
  | .iface t x => (match x with
    | .agg cs => atomsk cs.toList fun l => k (.iface t (.agg l))
    | x => atomk x fun a => k (.iface t a))
  | v => atomk v k

noncomputable def opT (t : Tmp) (_ : Program) (fr : T AV) (k : AV → R) : R := Option.rec (k .top) k (T.get (adr t) fr)
noncomputable def opG (g : Nat) (P : Program) (_ : T AV) (k : AV → R) : R := ifk (Nat.blt g P.globals.size) (k (.ptr (adr g) 0)) (.no 14)
noncomputable def opF (f : FuncId) (_ : Program) (_ : T AV) (k : AV → R) : R := k (.func (.func f) [] [])
noncomputable def opC (v : Value) (_ : Program) (_ : T AV) (k : AV → R) : R := constk v k
/-- an operand's value -/
noncomputable def opk (o : Operand) : Program → T AV → (AV → R) → R := Operand.rec opT opC opG opF o
noncomputable def opsk (l : List Operand) : Program → T AV → (List AV → R) → R :=
  List.rec (fun _ _ k => k []) (fun o _ ih P fr k => opk o P fr fun a => ih P fr fun r => k (a :: r)) l

noncomputable def putS (d : Tmp) (v : AV) (fr : T AV) (k : T AV → R) : R := T.setk (adr d) (some v) fr k
noncomputable def putk (dst : Option Tmp) : AV → T AV → (T AV → R) → R := Option.rec (fun _ fr k => k fr) putS dst

end Go.Ev

/- Operations of the evaluator. -/
namespace Go.Ev
open Go

/-- what comes of an operation -/
inductive ARes where
  | val (v : AV)
  | enter (f : FuncId) (args : List AV)
  | round (l : Adr) (args : List AV)
  | defer (d : ADef)
  | recover
  | panic (v : AV)

def AV.isTop (v : AV) : Bool := match v with | .top => true | _ => false
def AV.isUnk (v : AV) : Bool := match v with | .top => true | .abool => true | _ => false
def AV.isNilMap (v : AV) : Bool := match v with | .nilmap => true | _ => false
def AV.isNilIface (v : AV) : Bool := match v with | .niliface => true | _ => false
def isConstO : Operand → Bool
  | .const _ => true
  | _ => false

/-- alike, to the sign (false: they may be) -/
noncomputable def AV.beqF (f : Nat) : AV → AV → Bool :=
  Nat.rec (fun _ _ => false) (fun _ ih x y =>
    match x, y with
    | .bool a, .bool b => a == b
    | .int p a, .int q b => decide (p = q) && decide (a = b)
    | .str l a, .str m b => Nat.beq l m && Nat.beq a b
    | .ptr a i, .ptr b j => a.beq b && Nat.beq i j
    | .nilptr, .nilptr => true
    | .slice a i l c, .slice b j m d => a.beq b && Nat.beq i j && Nat.beq l m && Nat.beq c d
    | .gslice a i l c, .gslice b j m d => a.beq b && Nat.beq i j && Nat.beq l m && Nat.beq c d
    | .nilslice, .nilslice => true
    | .map a, .map b => a.beq b
    | .nilmap, .nilmap => true
    | .nilfunc, .nilfunc => true
    | .func (.func f) a b, .func (.func g) c d => Nat.beq f g && all ih a c && all ih b d
    | .niliface, .niliface => true
    | .iface t v, .iface u w => Nat.beq t u && ih v w
    | .agg a, .agg b => all ih a b
    | .tuple a, .tuple b => all ih a b
    | .abool, .abool => true
    | .top, .top => true
    | .aint p l h, .aint q l' h' => l.isNone && h.isNone && l'.isNone && h'.isNone && decide (p = q)
    | .zslice, .zslice => true
    | _, _ => false) f
  where
  all (p : AV → AV → Bool) : List AV → List AV → Bool
    | [], [] => true
    | x :: xs, y :: ys => p x y && all p xs ys
    | _, _ => false

/-- a value of which there is one alone, whose bits tell it -/
def AV.key0 (v : AV) : Bool := match v with
  | .bool _ => true
  | .int _ _ => true
  | .str _ _ => true
  | .ptr _ _ => true
  | .nilptr => true
  | .niliface => true
  | _ => false
def AV.key1 (v : AV) : Bool := match v with
  | .iface _ x => x.key0
  | v => v.key0
noncomputable def keys1 (l : List AV) : Bool := List.rec true (fun v _ b => Bool.rec false b v.key1) l
noncomputable def AV.key2 (v : AV) : Bool := match v with
  | .agg l => keys1 l
  | v => v.key1

section
variable (P : Program)

-- types of the table alone
def tyAt (t : TypeId) : Option TypeDesc := match P.types[t]? with
  | some i => (match i.desc with
    | .named _ u => P.types[u]?.map (·.desc)
    | d => some d)
  | none => none
noncomputable def tyk (t : TypeId) (k : TypeDesc → R) : R := optk (tyAt P t) 20 k
noncomputable def szk (t : TypeId) (k : Nat → R) : R := optk P.types[t]? 21 fun i => fN i.size k
noncomputable def bytesk (t : TypeId) (k : Nat → R) : R := optk P.types[t]? 21 fun i => fN i.bytes k
noncomputable def zerok (t : TypeId) (k : AV → R) : R := optk P.types[t]? 22 fun i => optk i.zero 22 fun z => constk z k

def isAggD (d : TypeDesc) : Bool := match d with | .struct _ => true | .array _ _ => true | _ => false

/-- an object -/
noncomputable def objk (s : St) (a : Adr) (k : AObj → R) : R := optk (T.get a s.heap) 30 k
noncomputable def cellsk (s : St) (a : Adr) (k : TypeId → Bool → Nat → List AV → R) : R :=
  objk s a fun o => o.onCells k (.no 31)
noncomputable def newk (s : St) (o : AObj) (k : Adr → St → R) : R :=
  T.setk s.nx (some o) s.heap fun h => Adr.rec (motive := fun _ => R) (k s.nx ⟨h, .e, s.bd, s.wl⟩) (fun p _ => k s.nx ⟨h, .a p, s.bd, s.wl⟩) (fun p _ => k s.nx ⟨h, .b p, s.bd, s.wl⟩)
    (fun p _ => k s.nx ⟨h, .c p, s.bd, s.wl⟩) (fun p _ => k s.nx ⟨h, .d p, s.bd, s.wl⟩) s.nx.succ
noncomputable def putObjk (s : St) (a : Adr) (o : Option AObj) (k : St → R) : R :=
  T.setk a o s.heap fun h => Bool.rec (fB (s.wl || Nat.blt a.nat s.bd) fun w => k ⟨h, s.nx, s.bd, w⟩) (k ⟨h, s.nx, s.bd, s.wl⟩) (Nat.beq s.bd 0)

/-- n cells from an offset on -/
noncomputable def loadk (s : St) (a : Adr) (off n : Nat) (k : List AV → R) : R :=
  cellsk s a fun _ _ _ vs => splitk off vs fun _ r => splitk n r fun l _ => k l
/-- cells, from an offset on -/
noncomputable def storek (s : St) (a : Adr) (off : Nat) (new : List AV) (k : St → R) : R :=
  cellsk s a fun e g fz vs => ifk (Nat.ble (Nat.sub fz 1) off && plains new) (lenk new fun n => splitk off vs fun l r => splitk n r fun _ r => appk new r fun r => appk l r fun vs => putObjk s a (some (.cells e g fz vs)) k) (.no 32)

/-- a value of a type, out of cells -/
noncomputable def partA (t : TypeId) (cs : List AV) (off : Nat) (k : AV → R) : R := szk P t fun n => splitk off cs fun _ r => splitk n r fun l _ => k (.agg l)
noncomputable def partk (t : TypeId) (cs : List AV) (off : Nat) (k : AV → R) : R :=
  tyk P t fun d => ifk (isAggD d) (partA P t cs off k) (nthk off cs k)
noncomputable def loadA (s : St) (t : TypeId) (a : Adr) (off : Nat) (k : AV → R) : R := szk P t fun n => loadk s a off n fun l => k (.agg l)
noncomputable def load1 (s : St) (a : Adr) (off : Nat) (k : AV → R) : R := cellsk s a fun _ _ _ vs => nthk off vs k
noncomputable def loadVark (s : St) (t : TypeId) (a : Adr) (off : Nat) (k : AV → R) : R :=
  tyk P t fun d => ifk (isAggD d) (loadA P s t a off k) (load1 s a off k)
noncomputable def storeVark (s : St) (t : TypeId) (a : Adr) (off : Nat) (v : AV) (k : St → R) : R :=
  szk P t fun n => cvk v fun cs => lenk cs fun m => ifk (Nat.beq n m) (storek s a off cs k) (.no 33)

/-- parts laid into cells -/
noncomputable def layk (cs : List AV) (off size : Nat) (v : AV) (k : List AV → R) : R :=
  cvk v fun vs => lenk vs fun m => ifk (Nat.beq m size) (splitk off cs fun l r => splitk m r fun _ r => appk vs r fun r => appk l r k) (.no 34)
noncomputable def fillk (ps : List (Nat × AV)) : (Nat → (Nat → Nat → R) → R) → List AV → (List AV → R) → R :=
  List.rec (fun _ cs k => k cs) (fun p _ ih place cs k => place p.1 fun off size => layk cs off size p.2 fun cs => ih place cs k) ps

/-- wrapped -/
noncomputable def wrapk (q : IntKind) (n : Int) (k : AV → R) : R := fI (q.wrap n) fun n => k (.int q n)

/-- nobody has frozen a part of it -/
noncomputable def cleank (s : St) (a : Adr) (r : R) : R := cellsk s a fun _ _ fz _ => ifk (Nat.beq fz 0) r (.no 47)
noncomputable def eqInt (x y : AV) (k : Bool → R) : R := x.onInt (fun p a => y.onInt (fun q b => ifk (decide (p = q)) (fB (decide (a = b)) k) (.no 41)) (.no 46)) (.no 46)
noncomputable def eqStr (x y : AV) (k : Bool → R) : R := x.onStr (fun l a => y.onStr (fun m b => fB (Nat.beq l m && Nat.beq a b) k) (.no 46)) (.no 46)
noncomputable def eqBool (x y : AV) (k : Bool → R) : R := x.onBool (fun a => y.onBool (fun b => fB (a == b) k) (.no 46)) (.no 46)
noncomputable def eqPtr (s : St) (e : TypeId) (x y : AV) (k : Bool → R) : R := match x, y with
  | .nilptr, .nilptr => k true
  | .nilptr, .ptr _ _ => k false
  | .ptr _ _, .nilptr => k false
  | .ptr a i, .ptr b j => szk P e fun n => ifk (Nat.beq n 0) (.no 42) (Bool.rec (cleank s a (cleank s b (k false))) (fB (Nat.beq i j) k) (a.beq b))
  | _, _ => .no 46
noncomputable def eqIface (ih : TypeId → AV → AV → (Bool → R) → R) (x y : AV) (k : Bool → R) : R := match x, y with
  | .niliface, .niliface => k true
  | .niliface, .iface _ _ => k false
  | .iface _ _, .niliface => k false
  | .iface t v, .iface u w => ifk (Nat.beq t u) (optk (P.info? t) 43 fun i => ifk i.comparable (ih t v w k) (.no 44)) (k false)
  | _, _ => .no 46
noncomputable def eqFields (ih : TypeId → AV → AV → (Bool → R) → R) (xs ys : List AV) (k : Bool → R) (fs : List Field) : R :=
  List.rec (motive := fun _ => R) (k true) (fun f _ go => ifk (f.name == "_") go (partk P f.type xs f.offset fun x => partk P f.type ys f.offset fun y => ih f.type x y fun b => Bool.rec (k false) go b)) fs
noncomputable def eqStruct (ih : TypeId → AV → AV → (Bool → R) → R) (t : TypeId) (fs : Array Field) (x y : AV) (k : Bool → R) : R :=
  x.onAgg (fun xs => y.onAgg (fun ys => ifk (P.stoodInHeld t) (.no 45) (eqFields P ih xs ys k fs.toList)) (.no 46)) (.no 46)
noncomputable def eqNilS (x y : AV) (k : Bool → R) : R := match x, y with
  | .nilslice, .nilslice => k true
  | .nilslice, .slice _ _ _ _ => k false
  | .nilslice, .gslice _ _ _ _ => k false
  | .slice _ _ _ _, .nilslice => k false
  | .gslice _ _ _ _, .nilslice => k false
  | .nilslice, .zslice => k false
  | .zslice, .nilslice => k false
  | _, _ => .no 46
noncomputable def eqNilM (x y : AV) (k : Bool → R) : R := match x, y with
  | .nilmap, .nilmap => k true
  | .nilmap, .map _ => k false
  | .map _, .nilmap => k false
  | _, _ => .no 46
noncomputable def eqNilF (x y : AV) (k : Bool → R) : R := match x, y with
  | .nilfunc, .nilfunc => k true
  | .nilfunc, .func _ _ _ => k false
  | .func _ _ _, .nilfunc => k false
  | _, _ => .no 46
/-- '==' by the type -/
noncomputable def eqD (s : St) (ih : TypeId → AV → AV → (Bool → R) → R) (t : TypeId) (d : TypeDesc) : AV → AV → (Bool → R) → R :=
  match d with
  | .bool => eqBool
  | .int _ => eqInt
  | .string => eqStr
  | .pointer e => eqPtr P s e
  | .interface _ => eqIface P ih
  | .struct fs => eqStruct P ih t fs
  | .slice _ => eqNilS
  | .map _ _ => eqNilM
  | .func _ _ _ => eqNilF
  | _ => fun _ _ _ => .no 46
noncomputable def eqF (s : St) (f : Nat) : TypeId → AV → AV → (Bool → R) → R :=
  Nat.rec (fun _ _ _ _ => .no 40) (fun _ ih t x y k => tyk P t fun d => eqD P s ih t d x y k) f
noncomputable def eqk (s : St) (t : TypeId) (x y : AV) (k : Bool → R) : R := eqF P s 8 t x y k

/-- may a key be hashed? -/
noncomputable def keyFields (ih : TypeId → AV → R → R) (xs : List AV) (r : R) (fs : List Field) : R :=
  List.rec (motive := fun _ => R) r (fun f _ go => ifk (f.name == "_") go (partk P f.type xs f.offset fun x => ih f.type x go)) fs
noncomputable def keyD (ih : TypeId → AV → R → R) (d : TypeDesc) (x : AV) (r : R) : R :=
  d.evsa (fun fs => x.onAgg (fun xs => keyFields P ih xs r fs.toList) (.no 51)) (fun _ _ => .no 51) (d.evonIface (fun _ => .no 51) (ifk x.isTop (.no 51) r))
noncomputable def keyF (f : Nat) : TypeId → AV → R → R :=
  Nat.rec (fun _ _ _ => .no 50) (fun _ ih t x r => tyk P t fun d => keyD P ih d x r) f
/-- find a key's place -/
noncomputable def findF (es : List (AV × AV)) : Program → St → TypeId → AV → Nat → (Nat → AV × AV → R) → R → R :=
  List.rec (fun _ _ _ _ _ _ none => none) (fun e _ ih P s t x i found none => eqk P s t x e.1 fun b => Bool.rec (fN (Nat.add i 1) fun i => ih P s t x i found none) (found i e) b) es
noncomputable def findk (s : St) (t : TypeId) (x : AV) (es : List (AV × AV)) (found : Nat → AV × AV → R) (none : R) : R := findF es P s t x 0 found none

noncomputable def strLtF (f : Nat) : Nat → Nat → Nat → Nat → (Bool → R) → R :=
  Nat.rec (fun _ _ _ _ _ => .no 52) (fun _ ih l a m b k => ifk (Nat.beq m 0) (k false) (ifk (Nat.beq l 0) (k true)
    (ifk (Nat.beq (Nat.mod a 256) (Nat.mod b 256)) (fN (Nat.sub l 1) fun l => fN (Nat.div a 256) fun a => fN (Nat.sub m 1) fun m => fN (Nat.div b 256) fun b => ih l a m b k) (fB (Nat.blt (Nat.mod a 256) (Nat.mod b 256)) k)))) f
noncomputable def strLtk (l a m b : Nat) (k : Bool → R) : R := strLtF (Nat.succ l) l a m b k

noncomputable def strOpk (op : BinOp) (l a m b : Nat) (k : AV → R) : R :=
  match op with
  | .add => ifk (Nat.ble (Nat.add l m) 9223372036854775807) (fN (Nat.add l m) fun n => fN (Nat.add a (Nat.mul b (Nat.pow 256 l))) fun c => k (.str n c)) (.no 53)
  | .eql => fB (Nat.beq l m && Nat.beq a b) fun r => k (.bool r)
  | .neq => fB (!(Nat.beq l m && Nat.beq a b)) fun r => k (.bool r)
  | .lss => strLtk l a m b fun r => k (.bool r)
  | .geq => strLtk l a m b fun r => fB (!r) fun r => k (.bool r)
  | .gtr => strLtk m b l a fun r => k (.bool r)
  | .leq => strLtk m b l a fun r => fB (!r) fun r => k (.bool r)
  | _ => .no 54

noncomputable def bvk (q : IntKind) (f : BitVec q.bits → BitVec q.bits → BitVec q.bits) (a b : Int) (k : AV → R) : R := wrapk q (f (BitVec.ofInt q.bits a) (BitVec.ofInt q.bits b)).toNat k
abbrev IOp := IntKind → Int → Int → (AV → R) → R
noncomputable def cmpk (f : Int → Int → Bool) : IOp := fun _ a b k => fB (f a b) fun r => k (.bool r)
noncomputable def ioNo : IOp := fun _ _ _ _ => .no 56
noncomputable def ioQuo : IOp := fun q a b k => ifk (decide (b = 0)) (.no 55) (wrapk q (a.tdiv b) k)
noncomputable def ioRem : IOp := fun q a b k => ifk (decide (b = 0)) (.no 55) (fI (a.tmod b) fun n => k (.int q n))
noncomputable def intOpk (op : BinOp) : IOp :=
  BinOp.rec (motive := fun _ => IOp) (fun q a b k => wrapk q (a + b) k) (fun q a b k => wrapk q (a - b) k) (fun q a b k => wrapk q (a * b) k) ioQuo ioRem
    (fun q a b k => bvk q (fun x y => x &&& y) a b k) (fun q a b k => bvk q (fun x y => x ||| y) a b k) (fun q a b k => bvk q (fun x y => x ^^^ y) a b k) ioNo ioNo (fun q a b k => bvk q (fun x y => x &&& ~~~y) a b k)
    (cmpk fun a b => decide (a = b)) (cmpk fun a b => !decide (a = b)) (cmpk fun a b => decide (a < b)) (cmpk fun a b => decide (a ≤ b)) (cmpk fun a b => decide (b < a)) (cmpk fun a b => decide (b ≤ a)) op
noncomputable def shNo : IOp := fun _ _ _ _ => .no 58
noncomputable def shL : IOp := fun q a b k => ifk (decide (b < 0)) (.no 57) (wrapk q (a * 2 ^ (min b.toNat q.bits)) k)
noncomputable def shR : IOp := fun q a b k => ifk (decide (b < 0)) (.no 57) (fI (a.fdiv (2 ^ (min b.toNat q.bits))) fun n => k (.int q n))
/-- of two ints: those of shifts may be of two kinds -/
noncomputable def isShift (op : BinOp) : Bool := BinOp.rec false false false false false false false false true true false false false false false false false op
noncomputable def isShl (op : BinOp) : Bool := BinOp.rec false false false false false false false false true false false false false false false false false op
noncomputable def isEql (op : BinOp) : Bool := BinOp.rec false false false false false false false false false false false true false false false false false op
noncomputable def isNeq (op : BinOp) : Bool := BinOp.rec false false false false false false false false false false false false true false false false false op
noncomputable def intsk (op : BinOp) (q : IntKind) (a : Int) (p : IntKind) (b : Int) (k : AV → R) : R :=
  Bool.rec (ifk (decide (q = p)) (intOpk op q a b k) (.no 59)) (Bool.rec (shR q a b k) (shL q a b k) (isShl op)) (isShift op)
noncomputable def eqOrk (op : BinOp) (r : (Bool → R) → R) (k : AV → R) : R :=
  Bool.rec (Bool.rec (.no 62) (r fun b => Bool.rec (k (.bool true)) (k (.bool false)) b) (isNeq op)) (r fun b => k (.bool b)) (isEql op)
noncomputable def binOther (s : St) (op : BinOp) (t : TypeId) (a b : AV) (k : AV → R) : R := eqOrk op (eqk P s t a b) k
noncomputable def binNil (s : St) (op : BinOp) (t : TypeId) (x y : Operand) (b : AV) (k : AV → R) : R :=
  Bool.rec (binOther P s op t .niliface b k) (ifk (isConstO x || isConstO y) (binOther P s op t .niliface b k) (.no 60)) b.isNilIface
def isLeq (op : BinOp) : Bool := match op with
  | .leq => true
  | _ => false
def isGtr (op : BinOp) : Bool := match op with
  | .gtr => true
  | _ => false
def AV.notB (v : AV) : AV := match v with
  | .bool b => .bool (!b)
  | v => v
/-- a number held against one of which bounds are known at most -/
noncomputable def cmpBd (a : Int) (lo hi : Option Int) (k : AV → R) : R :=
  Option.rec (motive := fun _ => R) (Option.rec (motive := fun _ => R) (k .abool) (fun h => ifk (decide (h ≤ a)) (k (.bool false)) (k .abool)) hi) (fun l => ifk (decide (a ≤ l)) (k (.bool true)) (Option.rec (motive := fun _ => R) (k .abool) (fun h => ifk (decide (h ≤ a)) (k (.bool false)) (k .abool)) hi)) lo
noncomputable def cmpUnk (op : BinOp) (q : IntKind) (a : Int) (b : AV) (k : AV → R) : R := match b with
  | .aint p lo hi => ifk (decide (q = p) && (isLeq op || isGtr op)) (cmpBd a lo hi fun r => k (Bool.rec r r.notB (isGtr op))) (.no 62)
  | _ => .no 62
noncomputable def binOpk (s : St) (op : BinOp) (t : TypeId) (x y : Operand) (a b : AV) (k : AV → R) : R :=
  a.bin (fun q m => b.onInt (fun p n => intsk op q m p n k) (cmpUnk op q m b k)) (fun l m => b.onStr (fun l' m' => strOpk op l m l' m' k) (.no 62)) (binNil P s op t x y b k)
    (fun _ => ifk (P.eqGuardType P.depth t) (.no 61) (binOther P s op t a b k)) (binOther P s op t a b k)
noncomputable def unOpk (op : UnOp) (a : AV) (k : AV → R) : R :=
  UnOp.rec (a.onInt (fun q n => wrapk q (0 - n) k) (.no 63)) (a.onInt (fun q n => intOpk .xor q (if q.signed then -1 else q.max) n k) (.no 63)) (a.onBool (fun b => fB (!b) fun b => k (.bool b)) (.no 63)) (.no 63) op
/-- bytes of a text, as values -/
noncomputable def bytesF (l : Nat) : Nat → (List AV → R) → R :=
  Nat.rec (fun _ k => k []) (fun _ ih n k => fN (Nat.mod n 256) fun b => fN (Nat.div n 256) fun n => ih n fun r => k (.int .u8 (.ofNat b) :: r)) l
/-- a text of byte values -/
noncomputable def textStep (v : AV) (k : Nat → Nat → R) (n m : Nat) : R := match v with
  | .int .u8 (.ofNat b) => fN (Nat.add n 1) fun n => fN (Nat.add b (Nat.mul 256 m)) fun m => ifk (Nat.blt b 256) (k n m) (.no 64)
  | _ => .no 64
noncomputable def textk (l : List AV) : (Nat → Nat → R) → R :=
  List.rec (fun k => k 0 0) (fun v _ ih k => ih (textStep v k)) l

noncomputable def convertk (s : St) (src dst : TypeId) (a : AV) (k : AV → St → R) : R :=
  tyk P src fun d => tyk P dst fun e =>
    match d, e, a with
    | _, .int q, .int _ n => wrapk q n fun v => k v s
    | _, .string, .str l n => k (.str l n) s
    | .pointer t, .unsafePointer, .ptr a off => szk P t fun z => cellsk s a fun _ _ _ vs => lenk vs fun f => ifk (Nat.blt off f && Nat.blt 0 z) (k (.ptr a off) s) (.no 167)
    | .unsafePointer, .pointer u, .ptr a off => szk P u fun z => cellsk s a fun e g _ vs => lenk vs fun f => ifk (!g && Nat.blt 0 z && liesAt P P.depth e (f / P.cellsOf e) off u 1) (k (.ptr a off) s) (.no 168)
    | _, .slice e, .str l n => tyk P e fun d => (match d with
      | .int .u8 => bytesF l n fun cs => newk s (.cells e true 1 cs) fun a s => k (.gslice a 0 l 1) s
      | _ => .no 65)
    | .slice e, .string, .nilslice => tyk P e fun d => (match d with | .int .u8 => k (.str 0 0) s | _ => .no 66)
    | .slice e, .string, .slice a off len _ => tyk P e fun d => (match d with | .int .u8 => loadk s a off len fun cs => textk cs fun l n => k (.str l n) s | _ => .no 66)
    | .slice e, .string, .gslice a off len _ => tyk P e fun d => (match d with | .int .u8 => loadk s a off len fun cs => textk cs fun l n => k (.str l n) s | _ => .no 66)
    | _, _, _ => .no 67

/-- an index, as a number -/
noncomputable def natk (a : AV) (k : Nat → R) : R := a.onInt (fun _ n => Int.rec k (fun _ => .no 68) n) (.no 68)
noncomputable def onatk (cx : T AV) (o : Option Operand) (d : Nat) (k : Nat → R) : R :=
  Option.rec (k d) (fun o => opk o P cx fun a => natk a k) o

noncomputable def slStr (mx : Option Operand) (cx : T AV) (lo hi : Option Operand) (x : AV) (k : AV → R) : R := Option.rec (x.onStr (fun l n =>
  onatk P cx lo 0 fun a => onatk P cx hi l fun b => ifk (Nat.ble a b && Nat.ble b l) (fN (Nat.sub b a) fun m => fN (Nat.mod (Nat.div n (Nat.pow 256 a)) (Nat.pow 256 m)) fun n => k (.str m n)) (.no 71)) (.no 79)) (fun _ => .no 70) mx
noncomputable def slNil (e : TypeId) (mx : Option Operand) (cx : T AV) (lo hi : Option Operand) (k : AV → R) : R := szk P e fun _ => onatk P cx lo 0 fun a => onatk P cx hi 0 fun b => onatk P cx mx 0 fun c => ifk (Nat.beq a 0 && Nat.beq b 0 && Nat.beq c 0) (k .nilslice) (.no 72)
/-- for a slice without room -/
noncomputable def zOr (x : AV) (y d : R) : R := match x with
  | .zslice => y
  | _ => d
noncomputable def slZ (e : TypeId) (mx : Option Operand) (cx : T AV) (lo hi : Option Operand) (k : AV → R) : R := szk P e fun _ => onatk P cx lo 0 fun a => onatk P cx hi 0 fun b => onatk P cx mx 0 fun c => ifk (Nat.beq a 0 && Nat.beq b 0 && Nat.beq c 0) (k .zslice) (.no 72)
noncomputable def slTo (z : Nat) (p : Adr) (off a b c : Nat) (k : AV → R) : R :=
  fN (Nat.sub b a) fun l => fN (Nat.sub c a) fun m => ifk (Nat.beq m 0) (k (.slice p off l m)) (fN (Nat.add off (Nat.mul a z)) fun off => k (.slice p off l m))
noncomputable def slEx (e : TypeId) (mx : Option Operand) (cx : T AV) (lo hi : Option Operand) (p : Adr) (off len cap : Nat) (k : AV → R) : R :=
  onatk P cx lo 0 fun a => onatk P cx hi len fun b => onatk P cx mx cap fun c => ifk (Nat.ble a b && Nat.ble b c && Nat.ble c cap) (szk P e fun z => slTo z p off a b c k) (.no 73)
noncomputable def slG3 (s : St) (z : Nat) (cx : T AV) (p : Adr) (off a b : Nat) (k : AV → R) (m : Operand) : R :=
  opk m P cx fun m => natk m fun c => ifk (Nat.ble a b && Nat.ble b c) (cellsk s p fun _ _ _ vs => lenk vs fun f => ifk (Nat.ble (Nat.add off (Nat.mul c z)) f) (ifk (Nat.beq a c) (k .zslice) (slTo z p off a b c k)) (.no 75)) (.no 76)
noncomputable def slG2 (s : St) (z : Nat) (p : Adr) (off a b es : Nat) (k : AV → R) : R :=
  ifk (Nat.ble a b) (cellsk s p fun _ _ _ vs => lenk vs fun f => ifk (Nat.ble (Nat.add off (Nat.mul b z)) f) (fN (Nat.sub b a) fun l => fN (Nat.add off (Nat.mul a z)) fun off => k (.gslice p off l es)) (.no 77)) (.no 76)
noncomputable def slG (s : St) (e : TypeId) (mx : Option Operand) (cx : T AV) (lo hi : Option Operand) (p : Adr) (off len es : Nat) (k : AV → R) : R :=
  szk P e fun z => ifk (Nat.beq z es && Nat.blt 0 z) (onatk P cx lo 0 fun a => onatk P cx hi len fun b => Option.rec (slG2 s z p off a b es k) (slG3 P s z cx p off a b k) mx) (.no 78)
noncomputable def slSl (s : St) (e : TypeId) (mx : Option Operand) (cx : T AV) (lo hi : Option Operand) (x : AV) (k : AV → R) : R :=
  x.sl (slNil P e mx cx lo hi k) (fun p off len cap => slEx P e mx cx lo hi p off len cap k) (fun p off len es => slG P s e mx cx lo hi p off len es k) (zOr x (slZ P e mx cx lo hi k) (.no 79))
noncomputable def slArr (n : Nat) (e : TypeId) (mx : Option Operand) (cx : T AV) (lo hi : Option Operand) (x : AV) (k : AV → R) : R :=
  x.onPtr (fun p off => slEx P e mx cx lo hi p off n n k) (.no 79)
def badMax (hi mx : Option Operand) : Bool := match hi, mx with
  | none, some _ => true
  | _, _ => false
noncomputable def slicek (s : St) (t : TypeId) (cx : T AV) (x : AV) (lo hi mx : Option Operand) (k : AV → R) : R :=
  ifk (badMax hi mx) (.no 69) <| tyk P t fun d => d.evsli (slStr P mx cx lo hi x k) (fun e => slSl P s e mx cx lo hi x k) (fun e => tyk P e fun d => d.evonArray (fun n e => slArr P n e mx cx lo hi x k) (.no 79)) (fun n e => slArr P n e mx cx lo hi x k) (.no 79)
noncomputable def fieldAtk (t : TypeId) (i : Nat) (k : Field → R) : R :=
  tyk P t fun d => d.evonStruct (fun fs => optk fs[i]? 80 k) (.no 81)
noncomputable def fieldAddrk (t : TypeId) (a : AV) (i : Nat) (k : AV → R) : R :=
  a.onPtr (fun p off => fieldAtk P t i fun f => szk P f.type fun z => ifk (Nat.beq z 0) (.no 82) (fN (Nat.add off f.offset) fun o => k (.ptr p o))) (.no 83)
noncomputable def iaTo (e : TypeId) (p : Adr) (off i len : Nat) (k : AV → R) : R := ifk (Nat.blt i len) (szk P e fun z => fN (Nat.add off (Nat.mul i z)) fun o => k (.ptr p o)) (.no 84)
noncomputable def indexAddrk (t : TypeId) (x i : AV) (k : AV → R) : R :=
  tyk P t fun d => natk i fun i => d.evix (fun n e => x.onPtr (fun p off => iaTo P e p off i n k) (.no 85)) (fun e => x.sl (.no 85) (fun p off len _ => iaTo P e p off i len k) (fun p off len _ => iaTo P e p off i len k) (.no 85)) (.no 85) (.no 85)
noncomputable def ixStr (i l n : Nat) (k : AV → R) : R := ifk (Nat.blt i l) (fN (Nat.mod (Nat.div n (Nat.pow 256 i)) 256) fun b => k (.int .u8 (.ofNat b))) (.no 87)
noncomputable def ixArr (n : Nat) (e : TypeId) (i : Nat) (k : AV → R) (cs : List AV) : R := ifk (Nat.blt i n) (szk P e fun z => fN (Nat.mul i z) fun o => partk P e cs o k) (.no 86)
noncomputable def indexk (t : TypeId) (x i : AV) (k : AV → R) : R :=
  tyk P t fun d => natk i fun i => d.evix (fun n e => x.onAgg (ixArr P n e i k) (.no 88)) (fun _ => .no 88) (x.onStr (fun l n => ixStr i l n k) (.no 88)) (.no 88)
noncomputable def lenOfk (a : AV) (k : Nat → R) : R := a.sl (k 0) (fun _ _ len _ => k len) (fun _ _ len _ => k len) (a.onStr (fun l _ => k l) (zOr a (k 0) (.no 90)))
/-- the first n elements' cells -/
noncomputable def firstk (s : St) (size n : Nat) (a : AV) (k : List AV → R) : R :=
  a.sl (ifk (Nat.beq n 0) (k []) (.no 91)) (fun p off _ _ => fN (Nat.mul n size) fun m => loadk s p off m k) (fun p off _ _ => fN (Nat.mul n size) fun m => loadk s p off m k) (a.onStr (fun _ m => ifk (Nat.beq size 1) (bytesF n m k) (.no 92)) (zOr a (ifk (Nat.beq n 0) (k []) (.no 91)) (.no 92)))
noncomputable def apNew (s : St) (e z m fz : Nat) (vs : List AV) (k : AV → St → R) : R := ifk (Nat.ble m 1048576) (newk s (.cells e true fz vs) fun a s => k (.gslice a 0 m z) s) (.no 96)
noncomputable def apNil (s : St) (e z n : Nat) (new : List AV) (k : AV → St → R) : R := ifk (Nat.beq n 0) (k .nilslice s) (apNew s e z n 0 new k)
noncomputable def apEx (s : St) (e z n : Nat) (new : List AV) (k : AV → St → R) (p : Adr) (off len cap : Nat) : R :=
  fN (Nat.add len n) fun m => ifk (Nat.ble m cap) (fN (Nat.add off (Nat.mul len z)) fun o => storek s p o new fun s => k (.slice p off m cap) s)
    (fN (Nat.mul len z) fun c => loadk s p off c fun old => appk old new fun vs => apNew s e z m 0 vs k)
noncomputable def apG (s : St) (e z n : Nat) (new : List AV) (k : AV → St → R) (p : Adr) (off len es : Nat) : R :=
  ifk (Nat.beq es z) (fN (Nat.add len n) fun m => cellsk s p fun e' g fz vs => lenk vs fun f =>
    ifk (Nat.ble (Nat.add off (Nat.mul m z)) f) (fN (Nat.add off (Nat.mul len z)) fun o => storek s p o new fun s => k (.gslice p off m z) s)
      (ifk (Nat.beq e e' && g && Nat.ble fz 1 && plains new) (fN (Nat.mul len z) fun c => loadk s p off c fun old => appk old new fun vs => putObjk s p none fun s => apNew s e z m fz vs k) (.no 97))) (.no 98)
noncomputable def apZ (s : St) (e z n : Nat) (new : List AV) (k : AV → St → R) (x : AV) : R := match x with
  | .zslice => ifk (Nat.beq n 0) (k .zslice s) (apNew s e z n 0 new k)
  | _ => .no 99
noncomputable def apTo (s : St) (x : AV) (k : AV → St → R) (e z n : Nat) (new : List AV) : R := x.sl (apNil s e z n new k) (apEx s e z n new k) (apG s e z n new k) (apZ s e z n new k x)
noncomputable def apMake (e : TypeId) (_z : Nat) (y : AV) (k : Nat → List AV → R) : R := natk y fun n => ifk (Nat.ble n 1048576) (zerok P e fun v => cvk v fun cs => repk n cs fun new => k n new) (.no 93)
noncomputable def apMore (s : St) (z : Nat) (y : AV) (k : Nat → List AV → R) : R := lenOfk y fun n => firstk s z n y fun new => k n new
noncomputable def apWhat (s : St) (ts : List TypeId) (e : TypeId) (z : Nat) (y : AV) (k : Nat → List AV → R) : R :=
  match ts with
  | _ :: u :: _ => tyk P u fun d => d.evonInt (fun _ => apMake P e z y k) (apMore s z y k)
  | _ => apMore s z y k
noncomputable def appendk (s : St) (ts : List TypeId) (x y : AV) (k : AV → St → R) : R :=
  nthk 0 ts fun t => tyk P t fun d => d.evonSlice (fun e => szk P e fun z => bytesk P e fun w => ifk (Nat.blt 0 z && Nat.ble w 65536) (apWhat P s ts e z y fun n new => apTo s x k e z n new) (.no 94)) (.no 95)
noncomputable def cpTo (s : St) (x : AV) (c : Nat) (cs : List AV) (k : AV → St → R) : R :=
  x.sl (k (.int .i64 (.ofNat c)) s) (fun p off _ _ => storek s p off cs fun s => k (.int .i64 (.ofNat c)) s) (fun p off _ _ => storek s p off cs fun s => k (.int .i64 (.ofNat c)) s) (.no 100)
noncomputable def copyk (s : St) (ts : List TypeId) (x y : AV) (k : AV → St → R) : R :=
  nthk 0 ts fun t => tyk P t fun d => d.evonSlice (fun e => szk P e fun z => lenOfk x fun n => lenOfk y fun m => fN (Nat.min n m) fun c => firstk s z c y fun cs => cpTo s x c cs k) (.no 101)
noncomputable def mapk (s : St) (a : Adr) (k : List (AV × AV) → Nat → R) : R := objk s a fun o => o.onMap k (.no 102)
noncomputable def lkNone (e : TypeId) (ok : Bool) (k : AV → R) : R := zerok P e fun z => Bool.rec (k z) (k (.tuple [z, .bool false])) ok
noncomputable def lkSome (ok : Bool) (k : AV → R) (v : AV) : R := Bool.rec (k v) (k (.tuple [v, .bool true])) ok
noncomputable def lkMap (s : St) (q e : TypeId) (i : AV) (ok : Bool) (k : AV → R) (a : Adr) : R := mapk s a fun es _ => findk P s q i es (fun _ v => lkSome ok k v.2) (lkNone P e ok k)
noncomputable def lookupk (s : St) (t : TypeId) (x i : AV) (ok : Bool) (k : AV → R) : R :=
  tyk P t fun d => d.evonMap (fun q e => keyF P 8 q i (Bool.rec (x.onMap (lkMap P s q e i ok k) (.no 103)) (lkNone P e ok k) x.isNilMap)) (.no 104)
noncomputable def muAt (s : St) (q : TypeId) (i x : AV) (k : St → R) (a : Adr) : R :=
  mapk s a fun es c => findk P s q i es (fun n y => ifk (AV.beqF 6 i y.1 && i.key2) (setNthk n (i, x) es fun es => putObjk s a (some (.map es c)) k) (.no 118)) (appk es [(i, x)] fun es => fN (Nat.succ c) fun c => putObjk s a (some (.map es c)) k)
noncomputable def mapUpdatek (s : St) (t : TypeId) (m i x : AV) (k : St → R) : R :=
  tyk P t fun d => d.evonMap (fun q _ => keyF P 8 q i (m.onMap (muAt P s q i x k) (.no 105))) (.no 105)
noncomputable def removeNthk {α : Type} (n : Nat) : List α → (List α → R) → R :=
  Nat.rec (fun l k => List.rec (.no 3) (fun _ xs _ => k xs) l) (fun _ ih l k => List.rec (.no 3) (fun x xs _ => ih xs fun r => k (x :: r)) l) n

noncomputable def deletek (s : St) (ts : List TypeId) (m i : AV) (k : AV → St → R) : R :=
  nthk 0 ts fun t => tyk P t fun d => match d, m with
    | .map q _, .nilmap => keyF P 8 q i (k (.tuple []) s)
    | .map q _, .map a => keyF P 8 q i (mapk s a fun es c => findk P s q i es (fun n _ => removeNthk n es fun es => putObjk s a (some (.map es c)) fun s => k (.tuple []) s) (k (.tuple []) s))
    | _, _ => .no 106

noncomputable def clearOpk (s : St) (x : AV) (k : AV → St → R) : R :=
  match x with
  | .nilmap => k (.tuple []) s
  | .map a => mapk s a fun _ c => putObjk s a (some (.map [] c)) fun s => k (.tuple []) s
  | _ => .no 107

noncomputable def lbInt (k : AV → R) (n : Nat) : R := k (.int .i64 (.ofNat n))
noncomputable def lenBd (s : St) (x : AV) (k : AV → R) (d : TypeDesc) : R := match d with
  | .array n _ => lbInt k n
  | .pointer e => tyk P e fun d => d.evonArray (fun n _ => lbInt k n) (.no 108)
  | .map _ _ => Bool.rec (x.onMap (fun a => mapk s a fun es _ => lenk es fun n => lbInt k n) (.no 109)) (lbInt k 0) x.isNilMap
  | _ => .no 109
noncomputable def lenBk (s : St) (ts : List TypeId) (x : AV) (k : AV → R) : R :=
  nthk 0 ts fun t => tyk P t fun d => d.evsli (x.onStr (fun l _ => lbInt k l) (.no 109)) (fun _ => x.sl (lbInt k 0) (fun _ _ n _ => lbInt k n) (fun _ _ n _ => lbInt k n) (zOr x (lbInt k 0) (.no 109))) (fun _ => lenBd P s x k d) (fun _ _ => lenBd P s x k d) (lenBd P s x k d)
noncomputable def capBk (ts : List TypeId) (x : AV) (k : AV → R) : R :=
  nthk 0 ts fun t => tyk P t fun d => match d, x with
    | .slice _, .nilslice => k (.int .i64 (.ofNat 0))
    | .slice _, .slice _ _ _ n => k (.int .i64 (.ofNat n))
    | .slice _, .zslice => k (.int .i64 (.ofNat 0))
    | _, _ => .no 110

noncomputable def extremek (mx : Bool) (l : List AV) (k : AV → R) : R :=
  match l with
  | .int q n :: r => List.rec (motive := fun _ => Int → R) (fun n => k (.int q n)) (fun v _ ih n => (match v with
      | .int _ m => Bool.rec (ih n) (ih m) (Bool.rec (decide (m < n)) (decide (n < m)) mx)
      | _ => .no 111)) r n
  | _ => .no 112

noncomputable def usAt (s : St) (ts : List TypeId) (a : Adr) (off n : Nat) (k : AV → St → R) : R :=
  cellsk s a fun e g fz vs => tyk P e fun d => (match d with
    | .int .u8 => szk P e fun z => nthk 0 ts fun t => tyk P t fun d => d.evonPointer (fun u => tyk P u fun d => (match d with
      | .int .u8 => ifk (Nat.beq z 1 && !Nat.beq fz 1 && Nat.ble n 1048576) (splitk off vs fun _ r => splitk n r fun l _ => textk l fun l m => fN (Nat.max fz (Nat.succ (Nat.add off n))) fun fz => putObjk s a (some (.cells e g fz vs)) fun s => k (.str l m) s) (.no 119)
      | _ => .no 119)) (.no 119)
    | _ => .no 114)
noncomputable def unsafeStringk (s : St) (ts : List TypeId) (x n : AV) (k : AV → St → R) : R :=
  natk n fun n => match x with
    | .nilptr => ifk (Nat.beq n 0) (nthk 0 ts fun _ => k (.str 0 0) s) (.no 113)
    | .ptr a off => ifk (Nat.beq n 0) (nthk 0 ts fun _ => k (.str 0 0) s) (usAt P s ts a off n k)
    | _ => .no 115

noncomputable def sliceDatak (x : AV) (k : AV → R) : R :=
  match x with
  | .nilslice => k .nilptr
  | .slice a off _ cap => ifk (Nat.beq cap 0) (.no 116) (k (.ptr a off))
  | .gslice a off len _ => ifk (Nat.beq len 0) (.no 116) (k (.ptr a off))
  | _ => .no 117

abbrev BIf := Program → St → List TypeId → List AV → (ARes → St → R) → R
noncomputable def l1 (l : List AV) (k : AV → R) : R := List.rec (.no 120) (fun x r _ => List.rec (k x) (fun _ _ _ => .no 120) r) l
noncomputable def l2 (l : List AV) (k : AV → AV → R) : R := List.rec (.no 120) (fun x r _ => l1 r (k x)) l
noncomputable def biNo : BIf := fun _ _ _ _ _ => .no 120
noncomputable def biAppend : BIf := fun P s ts l k => l2 l fun x y => appendk P s ts x y fun v s => k (.val v) s
noncomputable def biCopy : BIf := fun P s ts l k => l2 l fun x y => copyk P s ts x y fun v s => k (.val v) s
noncomputable def biLen : BIf := fun P s ts l k => l1 l fun x => lenBk P s ts x fun v => k (.val v) s
noncomputable def biCap : BIf := fun P s ts l k => l1 l fun x => capBk P ts x fun v => k (.val v) s
noncomputable def biDelete : BIf := fun P s ts l k => l2 l fun m i => deletek P s ts m i fun v s => k (.val v) s
noncomputable def biClear : BIf := fun P s ts l k => l1 l fun x => nthk 0 ts fun t => tyk P t fun _ => clearOpk s x fun v s => k (.val v) s
noncomputable def biEx (b : Bool) : BIf := fun _ s _ l k => extremek b l fun v => k (.val v) s
noncomputable def biRecover : BIf := fun _ s _ _ k => k .recover s
noncomputable def biPanic : BIf := fun _ s _ l k => l1 l fun x => x.onIface (fun t v => k (.panic (.iface t v)) s) (.no 120)
noncomputable def biUStr : BIf := fun P s ts l k => l2 l fun x n => unsafeStringk P s ts x n fun v s => k (.val v) s
noncomputable def biUData : BIf := fun _ s _ l k => l1 l fun x => sliceDatak x fun v => k (.val v) s
noncomputable def builtink (b : Builtin) : BIf :=
  Builtin.rec (motive := fun _ => BIf) biAppend biCap biClear biNo biNo biCopy biDelete biNo biLen biNo (biEx true) (biEx false) biNo biPanic biNo biNo biNo biRecover biNo biNo biUData biUStr biNo biNo biNo biNo b
/-- what a call of a function value comes to -/
noncomputable def fnk (fn : Fn) (first captured args : List AV) (k : ARes → R) : R := match fn with
  | .func g => appk args captured fun r => appk first r fun r => k (.enter g r)
  | .yield l => List.rec (motive := fun _ => R) (k (.round (adr l) args)) (fun _ _ _ => .no 122) first
  | _ => .no 121
noncomputable def calleek (f : AV) (args : List AV) (k : ARes → R) : R := f.onFunc (fun fn first captured => fnk fn first captured args k) (.no 121)
end
end Go.Ev

/- The evaluator. -/
namespace Go.Ev
open Go

structure Rec where
  code : Code → Cx → St → (AExit → Cx → St → R) → R
  call : FuncId → List AV → Up → St → (AEnd → Up → St → R) → R
  scope : Code → Code → Cx → St → (AExit → Cx → St → R) → R

/-- What is known of a function, in place of its code: what it answers. -/
abbrev Hook := Rec → List AV → St → (AV → St → R) → R

section
variable (P : Program) (X : FuncId → Option Hook)


def _root_.Go.Fn.isFunc (f : Fn) : Bool := match f with | .func _ => true | _ => false
/-- what an operation is: on a frame and memory -/
abbrev OpF := Program → T AV → St → (ARes → St → R) → R

noncomputable def exNo (n : Nat) : OpF := fun _ _ _ _ => .no n
noncomputable def exMove (x : Operand) : OpF := fun P fr s k => opk x P fr fun v => k (.val v) s
noncomputable def exPick (c a b : Operand) : OpF := fun P fr s k => opk c P fr fun c => c.onBool (fun c => Bool.rec (opk b P fr fun v => k (.val v) s) (opk a P fr fun v => k (.val v) s) c) (.no 200)
noncomputable def exAlloc (t : TypeId) : OpF := fun P _ s k => zerok P t fun z => cvk z fun cs => newk s (.cells t false 0 cs) fun a s => k (.val (.ptr a 0)) s
noncomputable def exBox (t : TypeId) (x : Operand) : OpF := fun P fr s k => opk x P fr fun v => cvk v fun cs => newk s (.cells t false 0 cs) fun a s => k (.val (.ptr a 0)) s
noncomputable def partsk (ps : List (Nat × Operand)) : Program → T AV → (List (Nat × AV) → R) → R :=
  List.rec (fun _ _ k => k []) (fun p _ ih P fr k => opk p.2 P fr fun v => ih P fr fun r => k ((p.1, v) :: r)) ps
noncomputable def placeS (fs : Array Field) (i : Nat) (k : Nat → Nat → R) : R := optk fs[i]? 201 fun f => szk P f.type fun n => k f.offset n
noncomputable def placeA (n : Nat) (i : Nat) (k : Nat → Nat → R) : R := fN (Nat.mul i n) fun o => k o n
noncomputable def exBuild (t : TypeId) (ps : Array (Nat × Operand)) : OpF := fun P fr s k => partsk ps.toList P fr fun ps => tyk P t fun d => zerok P t fun z => cvk z fun zs => match d with
  | .struct fs => fillk ps (placeS P fs) zs fun cs => k (.val (.agg cs)) s
  | .array _ e => szk P e fun n => fillk ps (placeA n) zs fun cs => k (.val (.agg cs)) s
  | _ => .no 202
noncomputable def exBuildSlice (t : TypeId) (len : Nat) (ps : Array (Nat × Operand)) : OpF := fun P fr s k => partsk ps.toList P fr fun ps => tyk P t fun d => match d with
  | .slice e => szk P e fun n => ifk (Nat.ble len 65536 && Nat.ble n 256) (zerok P e fun z => cvk z fun zs => repk len zs fun cs => fillk ps (placeA n) cs fun cs => newk s (.cells e false 0 cs) fun a s => k (.val (.slice a 0 len len)) s) (.no 203)
  | _ => .no 204
noncomputable def exMapUpdate (t : TypeId) (m q x : Operand) : OpF := fun P fr s k => opk m P fr fun m => opk q P fr fun q => opk x P fr fun x => mapUpdatek P s t m q x fun s => k (.val (.tuple [])) s
noncomputable def exLoad (t : TypeId) (a : Operand) : OpF := fun P fr s k => opk a P fr fun a => a.onPtr (fun p off => loadVark P s t p off fun v => k (.val v) s) (.no 205)
noncomputable def exStore (t : TypeId) (a x : Operand) : OpF := fun P fr s k => opk a P fr fun a => opk x P fr fun x => a.onPtr (fun p off => storeVark P s t p off x fun s => k (.val (.tuple [])) s) (.no 206)
noncomputable def exNilCheck (x : Operand) : OpF := fun P fr s k => opk x P fr fun v => v.nilc (fun _ _ => k (.val v) s) (fun _ _ => k (.val v) s) (fun fn _ _ => ifk fn.isFunc (k (.val v) s) (.no 207)) (.no 207)
noncomputable def exBinOp (op : BinOp) (t : TypeId) (x y : Operand) (_ : TypeId) : OpF := fun P fr s k => opk x P fr fun a => opk y P fr fun b => binOpk P s op t x y a b fun v => k (.val v) s
noncomputable def exUnOp (op : UnOp) (_ : TypeId) (x : Operand) : OpF := fun P fr s k => opk x P fr fun a => unOpk op a fun v => k (.val v) s
noncomputable def exConvert (src dst : TypeId) (x : Operand) : OpF := fun P fr s k => opk x P fr fun a => convertk P s src dst a fun v s => k (.val v) s
noncomputable def exMakeInterface (t : TypeId) (x : Operand) : OpF := fun P fr s k => opk x P fr fun a => tyk P t fun d => match d with
  | .interface _ => .no 208
  | _ => k (.val (.iface t a)) s
noncomputable def exMakeFunc (fn : Fn) (first captured : Array Operand) : OpF := fun P fr s k => opsk first.toList P fr fun a => opsk captured.toList P fr fun b => ifk (notYield fn) (k (.val (.func fn a b)) s) (.no 235)
noncomputable def exMakeMap (t : TypeId) (r : Option Operand) : OpF := fun P fr s k => match r with
  | none => newk s (.map [] 0) fun a s => k (.val (.map a)) s
  | some h => opk h P fr fun h => tyk P t fun d => match d, h with
    | .map _ _, .int _ _ => newk s (.map [] 0) fun a s => k (.val (.map a)) s
    | _, _ => .no 209
noncomputable def exMakeSlice (t : TypeId) (l c : Operand) : OpF := fun P fr s k => opk l P fr fun l => opk c P fr fun c => natk l fun l => natk c fun c => tyk P t fun d => match d with
  | .slice e => szk P e fun _ => bytesk P e fun w => ifk (Nat.ble l c && Nat.ble c 1048576 && Nat.ble w 65536) (zerok P e fun v => cvk v fun zs => repk c zs fun cs => newk s (.cells e false 0 cs) fun a s => k (.val (.slice a 0 l c)) s) (.no 210)
  | _ => .no 211
noncomputable def exSlice (t : TypeId) (x : Operand) (lo hi mx : Option Operand) : OpF := fun P fr s k => opk x P fr fun x => slicek P s t fr x lo hi mx fun v => k (.val v) s
noncomputable def exFieldAddr (t : TypeId) (x : Operand) (i : Nat) : OpF := fun P fr s k => opk x P fr fun a => fieldAddrk P t a i fun v => k (.val v) s
noncomputable def exField (t : TypeId) (x : Operand) (i : Nat) : OpF := fun P fr s k => opk x P fr fun a => fieldAtk P t i fun f => a.onAgg (fun cs => partk P f.type cs f.offset fun v => k (.val v) s) (.no 212)
noncomputable def exIndexAddr (t : TypeId) (x i : Operand) : OpF := fun P fr s k => opk x P fr fun x => opk i P fr fun i => indexAddrk P t x i fun v => k (.val v) s
noncomputable def exIndex (t : TypeId) (x i : Operand) : OpF := fun P fr s k => opk x P fr fun x => opk i P fr fun i => indexk P t x i fun v => k (.val v) s
noncomputable def exLookup (t : TypeId) (x i : Operand) (ok : Bool) : OpF := fun P fr s k => opk x P fr fun x => opk i P fr fun i => lookupk P s t x i ok fun v => k (.val v) s
noncomputable def taK (P : Program) (t : TypeId) (ok : Bool) (k : AV → R) (d : TypeDesc) (v : AV) : R := match d, v with
  | .interface _, _ => .no 213
  | _, .niliface => Bool.rec (.no 214) (zerok P t fun z => k (.tuple [z, .bool false])) ok
  | _, .iface u w => ifk (Nat.beq u t) (Bool.rec (k w) (k (.tuple [w, .bool true])) ok) (Bool.rec (.no 215) (zerok P t fun z => k (.tuple [z, .bool false])) ok)
  | _, _ => .no 216
noncomputable def exTypeAssert (x : Operand) (_ t : TypeId) (ok : Bool) : OpF := fun P fr s k => opk x P fr fun v => tyk P t fun d => taK P t ok (fun v => k (.val v) s) d v
noncomputable def exExtract (x : Operand) (i : Nat) : OpF := fun P fr s k => opk x P fr fun v => v.onTuple (fun vs => nthk i vs fun v => k (.val v) s) (.no 217)
noncomputable def nsAt (s : St) (a : Adr) (k : ARes → St → R) (o : AObj) : R := match o with
  | .strIter l n p => ifk (Nat.blt p l) (fN (Nat.mod (Nat.div n (Nat.pow 256 p)) 256) fun b => ifk (Nat.blt b 128) (fN (Nat.succ p) fun q => putObjk s a (some (.strIter l n q)) fun s => k (.val (.tuple [.bool true, .int .i64 (.ofNat p), .int .i32 (.ofNat b)])) s) (.no 231)) (k (.val (.tuple [.bool false])) s)
  | _ => .no 232
noncomputable def exNextStr (it : Operand) : OpF := fun P fr s k => opk it P fr fun v => v.onPtr (fun a off => ifk (Nat.beq off 0) (objk s a fun o => nsAt s a k o) (.no 236)) (.no 233)
noncomputable def exNext (it : Operand) (str : Bool) : OpF := Bool.rec (exNo 234) (exNextStr it) str
noncomputable def exRange (t : TypeId) (x : Operand) : OpF := fun P fr s k => opk x P fr fun x => tyk P t fun d => match d, x with
  | .string, .str l n => newk s (.strIter l n 0) fun a s => k (.val (.ptr a 0)) s
  | .map _ _, .map m => mapk s m fun _ c => newk s (.mapIter m c) fun a s => k (.val (.ptr a 0)) s
  | _, _ => .no 218
noncomputable def exCallV (f : Operand) (args : Array Operand) : OpF := fun P fr s k => opk f P fr fun f => opsk args.toList P fr fun args => calleek f args fun r => k r s
noncomputable def exCallB (b : Builtin) (args : Array Operand) (ts : Array TypeId) : OpF := fun P fr s k => opsk args.toList P fr fun args => builtink b P s ts.toList args k
noncomputable def exCall (c : Call) : OpF := match c.callee with
  | .value f => exCallV f c.args
  | .builtin b => exCallB b c.args c.argTypes
  | .invoke _ _ => exNo 219
noncomputable def exDeferV (f : Operand) (args : Array Operand) : OpF := fun P fr s k => opk f P fr fun f => opsk args.toList P fr fun args => calleek f args fun r => match r with
  | .enter g args => k (.defer (.call g args)) s
  | _ => .no 220
noncomputable def exDefer (c : Call) : OpF := match c.callee with
  | .value f => exDeferV f c.args
  | _ => exNo 221
noncomputable def exPanic (x : Operand) : OpF := fun P fr s k => opk x P fr fun v => match v with
  | .iface t v => k (.panic (.iface t v)) s
  | _ => .no 222

/-- an operation, as far as it calls nothing -/
noncomputable def execk (o : Op) : OpF :=
  Op.rec (motive := fun _ => OpF) exMove exMove exPick exAlloc exBox exBuild exBuildSlice exMapUpdate exLoad exStore (fun _ => exNo 230) (fun _ => exNo 230) exNilCheck
    exBinOp exUnOp exConvert (fun _ _ => exNo 230) exMakeInterface exMakeFunc exMakeMap (fun _ _ => exNo 230) exMakeSlice exSlice exFieldAddr exField exIndexAddr exIndex exLookup
    exMapUpdate (fun _ _ _ => exNo 230) (fun _ _ _ _ => exNo 230) exRange exNext (fun _ => exNo 230) exTypeAssert exExtract exCall (fun _ => exNo 230) exDefer exPanic (fun _ _ => exNo 230) (fun _ _ _ => exNo 230) (fun _ _ => exNo 230) o

noncomputable def allLt (n : Nat) (l : List Nat) : Bool := List.rec true (fun d _ b => Bool.rec false b (Nat.blt d n)) l
def dstsO (ops : List Oper) : List Tmp := ops.filterMap (·.dst)

/-- what comes behind an operation: its value; or a panic -/
abbrev KV := AV → Cx → St → R
abbrev KP := List (AV × Bool) → Cx → St → R
abbrev KE := AExit → Cx → St → R

noncomputable def rsEnd (cx : Cx) (k : KV) (kp : KP) (e : AEnd) (s : St) : R := AEnd.rec (fun v => k v cx s) (fun ch => kp ch cx s) e
noncomputable def rsEnter (f : FuncId) (args : List AV) (X : FuncId → Option Hook) (ih : Rec) (cx : Cx) (s : St) (k : KV) (kp : KP) : R :=
  Option.rec (ih.call f args .no s fun e _ s => rsEnd cx k kp e s) (fun h => h ih args s fun v s => k v cx s) (X f)
noncomputable def layArgs (ps : List Tmp) : List AV → T AV → (T AV → R) → R :=
  List.rec (fun _ t k => k t) (fun p _ go args t k => List.rec (motive := fun _ => R) (.no 325) (fun v vs _ => T.setk (adr p) (some v) t fun t => go vs t k) args) ps
noncomputable def endR (l : Adr) (jump : Option Code) (st : LoopState) (s : St) (k : St → R) : R :=
  objk s l fun o => match o with
    | .loop _ _ tmps n ps asg body => putObjk s l (some (.loop st jump tmps n ps asg body)) k
    | _ => .no 326
noncomputable def noDefs (l : List ADef) (r : R) : R := List.rec r (fun _ _ _ => .no 331) l
noncomputable def rsRoundEnd (l : Adr) (cx : Cx) (k : KV) (kp : KP) (e : AExit) (ds : List ADef) (s : St) : R :=
  match e with
  | .normal => endR l none .ready s fun s => k (.bool true) cx s
  | .ret => endR l (some .ret) .done s fun s => k (.bool false) cx s
  | .exit i => endR l (some (.exit i)) .done s fun s => k (.bool false) cx s
  | .goto i => endR l (some (.goto i)) .done s fun s => k (.bool false) cx s
  | .panic ch => noDefs ds (kp ch cx s)
noncomputable def rsBegin (l : Adr) (s : St) (k : St → R) : R := objk s l fun o => match o with
  | .loop .ready p tmps n ps asg body => putObjk s l (some (.loop .busy p tmps n ps asg body)) k
  | _ => .no 332
noncomputable def rsBody (l : Adr) (body : Code) (ih : Rec) (cx : Cx) (k : KV) (kp : KP) (e : AExit) (cx1 : Cx) (s : St) : R := match e with
  | .normal => rsBegin l s fun s => ih.code body cx1 s fun e cx2 s => rsRoundEnd l cx k kp e cx2.defs s
  | _ => .no 320
noncomputable def rsRoundAt (l : Adr) (args : List AV) (ih : Rec) (cx : Cx) (s : St) (k : KV) (kp : KP) (o : AObj) : R := match o with
  | .loop _ _ tmps n ps asg body => lenk args fun la => lenk ps fun lp => ifk (Nat.beq la lp && allLt n ps) (layArgs ps args tmps fun fr =>
      ih.code asg ⟨fr, n, [], .round⟩ s (rsBody l body ih cx k kp)) (.no 321)
  | _ => .no 322
noncomputable def rsRound (l : Adr) (args : List AV) (_ : FuncId → Option Hook) (ih : Rec) (cx : Cx) (s : St) (k : KV) (kp : KP) : R :=
  objk s l fun o => rsRoundAt l args ih cx s k kp o
noncomputable def rsDefer (d : ADef) (cx : Cx) (s : St) (k : KV) : R :=
  match cx.up with
  | .round => .no 323
  | _ => k (.tuple []) ⟨cx.fr, cx.n, d :: cx.defs, cx.up⟩ s
noncomputable def rsRecover (cx : Cx) (s : St) (k : KV) : R :=
  match cx.up with
  | .deferred (.panicking ((v, false) :: older)) => k v ⟨cx.fr, cx.n, cx.defs, .deferred (.panicking ((v, true) :: older))⟩ s
  | .round => .no 324
  | _ => k .niliface cx s
/-- what an operation comes to, calls and all -/
noncomputable def resk (r : ARes) : (FuncId → Option Hook) → Rec → Cx → St → KV → KP → R :=
  ARes.rec (fun v _ _ cx s k _ => k v cx s) rsEnter rsRound (fun d _ _ cx s k _ => rsDefer d cx s k) (fun _ _ cx s k _ => rsRecover cx s k) (fun v _ _ cx s _ kp => kp [(v, false)] cx s) r

noncomputable def guardV (want : Bool) (v : AV) (y n : R) : R := v.onBool (fun b => ifk (b == want) y n) (ifk v.isUnk (.no 243) n)
noncomputable def guardk (ops : Array Oper) (g : Nat × Bool) (fr : T AV) (y n : R) : R :=
  optk ((ops[g.1]?).bind (·.dst)) 241 fun d => optk (T.get (adr d) fr) 242 fun v => guardV g.2 v y n
noncomputable def wantedk (ops : Array Oper) (o : Oper) (fr : T AV) (y n : R) : R := Option.rec y (fun g => guardk ops g fr y n) o.guard

noncomputable def opRun (ih : Rec) (o : Oper) (cx : Cx) (s : St) (k : Cx → St → R) (kp : KP) : R :=
  execk o.op P cx.fr s fun r s => resk r X ih cx s (fun v cx s => putk o.dst v cx.fr fun fr => k ⟨fr, cx.n, cx.defs, cx.up⟩ s) kp
noncomputable def skipRun (o : Oper) (cx : Cx) (s : St) (k : Cx → St → R) : R := putk o.dst (.tuple []) cx.fr fun fr => k ⟨fr, cx.n, cx.defs, cx.up⟩ s
noncomputable def kpan (k : KE) : KP := fun ch cx s => k (.panic ch) cx s

/-- operations one behind the other -/
noncomputable def opsL (l : List Oper) : Program → (FuncId → Option Hook) → Rec → Array Oper → Cx → St → KE → R :=
  List.rec (fun _ _ _ _ cx s k => k .normal cx s) (fun o _ go P X ih ops cx s k =>
    wantedk ops o cx.fr (opRun P X ih o cx s (fun cx s => go P X ih ops cx s k) (kpan k)) (skipRun o cx s fun cx s => go P X ih ops cx s k)) l
noncomputable def opsRun (ih : Rec) (ops : Array Oper) (l : List Oper) : Cx → St → KE → R := opsL l P X ih ops

/-- operations that lay something new, and do nothing else -/
def alB (o : Op) : Bool := match o with
  | .alloc _ | .box _ _ | .buildSlice _ _ _ => true
  | _ => false
/-- operations that give a value, and do nothing else -/
def flB (o : Op) : Bool := match o with
  | .move _ | .pick _ _ _ | .build _ _ | .load _ _ | .nilCheck _ | .binOp _ _ _ _ _ | .unOp _ _ _ | .makeInterface _ _
  | .makeFunc _ _ _ | .slice _ _ _ _ _ | .fieldAddr _ _ _ | .field _ _ _ | .indexAddr _ _ _ | .index _ _ _ | .lookup _ _ _ _ | .typeAssert _ _ _ _ | .extract _ _ => true
  | .call { callee := .builtin b, .. } => (match b with
    | .len | .cap => true
    | _ => false)
  | _ => false
/-- does it look at memory? -/
def rdB (o : Op) : Bool := match o with
  | .load _ _ | .lookup _ _ _ _ | .slice _ _ _ _ _ => true
  | .binOp op _ _ _ _ => (match op with | .eql | .neq => true | _ => false)
  | .call { callee := .builtin b, .. } => (match b with | .len | .cap => true | _ => false)
  | _ => false
/-- Is an operation one that may be done at several places (false), or one that acts? -/
def effB (o : Op) : Bool := !(flB o || alB o)

/-- a number, reckoned -/
noncomputable def forceN {α : Type} (n : Nat) (k : Nat → α) : α := Nat.rec (motive := fun _ => α) (k 0) (fun m _ => k (Nat.succ m)) n
/-- what lies ahead of each operation, as bits: all of them in one number, n bits each -/
noncomputable def mAt (n W i : Nat) : Nat := Nat.mod (Nat.div W (Nat.pow 2 (Nat.mul n i))) (Nat.pow 2 n)
noncomputable def mask1 (n W : Nat) (l : List Edge) : Nat :=
  List.rec (motive := fun _ => Nat) 0 (fun e _ m => Bool.rec m (Nat.lor (Nat.lor m (Nat.pow 2 e.on)) (mAt n W e.on)) (Region.binds .any e)) l
noncomputable def masksG (n : Nat) (l : List Oper) : Nat → Nat → Nat :=
  List.rec (motive := fun _ => Nat → Nat → Nat) (fun _ W => W) (fun o _ ih i W => forceN (Nat.add W (Nat.mul (Nat.mod (mask1 n W o.after.toList) (Nat.pow 2 n)) (Nat.pow 2 (Nat.mul n i)))) fun W => forceN (Nat.succ i) fun i => ih i W) l
noncomputable def masksN (ops : Array Oper) : Nat := masksG ops.size ops.toList 0 0

/-- a step of a plan: an operation's place, and those that are looked at again behind it -/
structure PStep where
  i : Nat
  again : List Nat

noncomputable def bitsOf (m : Nat) (l : List Nat) : Nat :=
  List.rec (motive := fun _ => Nat) 0 (fun i _ n => Bool.rec n (Nat.succ n) (Nat.testBit m i)) l
noncomputable def allB {α : Type} (p : α → Bool) (l : List α) : Bool := List.rec true (fun x _ b => Bool.rec false b (p x)) l
/-- what an operation names -/
def namesO (ops : Array Oper) (o : Oper) : List Tmp := o.looksAt ops ++ o.dst.toList
noncomputable def namesB (l : List Nat) : Nat := List.rec (motive := fun _ => Nat) 0 (fun t _ n => Nat.lor (Nat.pow 2 t) n) l
/-- an operation, held against one, q, that names what nb says -/
noncomputable def writes1 (n W q nb m : Nat) (p : Oper × Nat) : Bool :=
  Option.rec (motive := fun _ => Bool) true (fun d => Bool.rec true (Nat.beq p.2 q || (Nat.testBit m p.2 || (effB p.1.op && Nat.testBit (mAt n W p.2) q))) (Nat.testBit nb d)) p.1.dst
noncomputable def namesOk (ops : Array Oper) (n W : Nat) (il : List (Oper × Nat)) : Bool :=
  allB (fun q => forceN (namesB (namesO ops q.1)) fun nb => forceN (mAt n W q.2) fun m => allB (writes1 n W q.2 nb m) il) il
noncomputable def selfOk (ops : Array Oper) (il : List (Oper × Nat)) : Bool := allB (fun q => effB q.1.op || (match q.1.dst with
  | some d => !(q.1.looksAt ops).contains d
  | none => false)) il
noncomputable def backOk (il : List (Oper × Nat)) : Bool := allB (fun q => allB (fun e => !Region.binds .any e || Nat.blt e.on q.2) q.1.after.toList) il
noncomputable def maskOk (n W : Nat) (il : List (Oper × Nat)) : Bool := allB (fun q => forceN (mAt n W q.2) fun m => Nat.beq (Nat.land m (mask1 n W q.1.after.toList)) m) il
/-- A plan: the operations in the order in which they are done here. What is done (D), what acts of it (E), what is surely done wherever the last one that acts is (M), what looks at memory (RD). -/
noncomputable def planGo (ops : Array Oper) (n W : Nat) (l : List Nat) : Nat → Nat → Nat → List Nat → Option (List PStep) :=
  List.rec (motive := fun _ => Nat → Nat → Nat → List Nat → Option (List PStep)) (fun D _ _ _ => Bool.rec none (some []) (allB (Nat.testBit D) (List.range ops.size)))
    (fun i _ go D E M RD => Option.rec (motive := fun _ => Option (List PStep)) none (fun o =>
      forceN (mAt n W i) fun m => forceN (Nat.lor D (Nat.pow 2 i)) fun D' => Bool.rec
          (Bool.rec
            (Bool.rec none
              (Bool.rec ((go D' E M (Bool.rec RD (i :: RD) (rdB o.op))).map (⟨i, []⟩ :: ·))
                ((go D' E M RD).map (⟨i, RD.filter fun q => !Nat.testBit M q⟩ :: ·)) (alB o.op))
              (Nat.beq (Nat.land D m) m))
            (forceN (Nat.lor E (Nat.pow 2 i)) fun E' => forceN (Nat.lor M m) fun M' => (go D' E' M' RD).map (⟨i, RD.filter fun q => !Nat.testBit M' q⟩ :: ·)) (effB o.op))
          none (Nat.testBit D i || !Nat.beq (Nat.land E m) E)) ops[i]?) l
noncomputable def planOrder (ops : Array Oper) (n W : Nat) : List Nat :=
  let idx := List.range ops.size
  let op (i : Nat) : Op := (ops.getD i default).op
  let effs := idx.filter fun i => effB (op i)
  let fls := idx.filter fun i => !effB (op i)
  (List.range (effs.length + 1)).flatMap fun j => (fls.filter fun i => Nat.beq (bitsOf (mAt n W i) effs) j) ++ (effs[j]?).toList
noncomputable def planAt (ops : Array Oper) (n W : Nat) (il : List (Oper × Nat)) : Option (List PStep) :=
  Bool.rec none (planGo ops n W (planOrder ops n W) 0 0 0 []) (backOk il && (selfOk ops il && (maskOk n W il && namesOk ops n W il)))
/-- The order in which the operations of a region whose order is open are done here. none: they are not of the kind that this takes. -/
noncomputable def plan (ops : Array Oper) : Option (List PStep) := forceN ops.size fun n => forceN (masksN ops) fun W => planAt ops n W ops.toList.zipIdx

noncomputable def againV (d : Tmp) (fr : T AV) (go : R) (r : ARes) : R :=
  match r with
  | .val v => optk (T.get (adr d) fr) 252 fun w => ifk (AV.beqF 6 v w) go (.no 253)
  | _ => .no 254
noncomputable def again1 (ops : Array Oper) (fr : T AV) (s : St) (o : Oper) (go : R) : R :=
  optk o.dst 251 fun d => wantedk ops o fr (execk o.op P fr s fun r _ => againV d fr go r) go
noncomputable def againk (ops : Array Oper) (fr : T AV) (s : St) (l : List Nat) (k : R) : R :=
  List.rec (motive := fun _ => R) k (fun i _ go => optk ops[i]? 250 fun o => again1 P ops fr s o go) l

noncomputable def topsk (l : List Tmp) : T AV → (T AV → R) → R :=
  List.rec (fun fr k => k fr) (fun d _ go fr k => T.setk (adr d) (some .top) fr fun fr => go fr k) l
noncomputable def kmask (ops : Array Oper) (k : KE) : KP := fun ch cx s => topsk (dstsO ops.toList) cx.fr fun fr => k (.panic ch) ⟨fr, cx.n, cx.defs, cx.up⟩ s

noncomputable def drawn1 (ih : Rec) (ops : Array Oper) (p : PStep) (o : Oper) (cx : Cx) (s : St) (go : Cx → St → R) (k : KE) : R :=
  wantedk ops o cx.fr (opRun P X ih o cx s (fun cx s => againk P ops cx.fr s p.again (go cx s)) (kmask ops k)) (skipRun o cx s go)
noncomputable def drawnL (l : List PStep) : Program → (FuncId → Option Hook) → Rec → Array Oper → Cx → St → KE → R :=
  List.rec (fun _ _ _ _ cx s k => k .normal cx s) (fun p _ go P X ih ops cx s k => optk ops[p.i]? 255 fun o => drawn1 P X ih ops p o cx s (fun cx s => go P X ih ops cx s k) k) l
noncomputable def drawnRun (ih : Rec) (ops : Array Oper) (l : List PStep) : Cx → St → KE → R := drawnL l P X ih ops

noncomputable def lessV (x y : Option AV) : Bool := match x, y with
  | none, _ => true
  | some .top, _ => true
  | some v, some w => AV.beqF 6 v w
  | _, _ => false
/-- does a trie tell less than another one? -/
noncomputable def lessT (t : T AV) : T AV → Bool :=
  T.rec (fun _ => true) (fun x _ _ _ _ iha ihb ihc ihd u => T.rec (motive := fun _ => Bool) false (fun y a b c d _ _ _ _ =>
    Bool.rec false (Bool.rec false (Bool.rec false (Bool.rec false (ihd d) (ihc c)) (ihb b)) (iha a)) (lessV x y)) u) t

/-- where code lays something -/
def dsts : Code → List Tmp
  | .region _ ops _ => ops.toList.filterMap (·.dst)
  | .seq a b => dsts a ++ dsts b
  | .cond _ a b => dsts a ++ dsts b
  | .block _ b => dsts b
  | .loop b => dsts b
  | .rangeFunc _ ps a b => ps.toList ++ dsts a ++ dsts b
  | .scope b => dsts b
  | _ => []

/-- a round over a map, with a pair -/
structure ML where
  it : Operand
  nx : Oper
  ops : Array Oper
  r1 : List Oper
  c : Operand
  thn : Code
  els : Code
  j : Nat
  en : Oper
  ops2 : Array Oper
  r2 : List Oper
  body : Code
noncomputable def mlExit (j : Nat) (k : KE) : KE := fun e cx s => match e with
  | .exit i => ifk (Nat.beq i j) (k .normal cx s) (k (.exit i) cx s)
  | e => k e cx s
noncomputable def onNormal (n : Nat) (k : Cx → St → R) : KE := fun e cx s => match e with
  | .normal => k cx s
  | _ => .no n
noncomputable def onTrue (c : Operand) (cx : Cx) (b : Bool) (k : R) : R := opk c P cx.fr fun t => t.onBool (fun x => ifk (x == b) k (.no 302)) (.no 302)
/-- is it the iterator still? -/
noncomputable def itIs (m : ML) (a : Adr) (fr : T AV) (r : R) : R := opk m.it P fr fun v => v.onPtr (fun b off => ifk (Nat.beq off 0 && Adr.beq a b) r (.no 315)) (.no 312)
/-- which bound is kept from here on -/
noncomputable def mlBack (o : Option (Nat × Bool)) (s : St) : St := Option.rec (motive := fun _ => St) s (fun p => ⟨s.heap, s.nx, p.1, p.2⟩) o
noncomputable def mlEntry (m : ML) (a : Adr) (ih : Rec) (o : Option (Nat × Bool)) (e : AV × AV) (k : KE) (cx : Cx) (s : St) : R :=
  ifk s.wl (.no 316) (itIs P m a cx.fr (putk m.en.dst (.tuple [e.1, e.2]) cx.fr fun fr => opsRun P X ih m.ops2 m.r2 ⟨fr, cx.n, cx.defs, cx.up⟩ (mlBack o s) (onNormal 300 fun cx s => ih.code m.body cx s (mlExit m.j k))))
noncomputable def mlRound (m : ML) (a : Adr) (fr : T AV) (ih : Rec) (cx : Cx) (s : St) (o : Option (Nat × Bool)) (e : AV × AV) (k : KE) : R :=
  putk m.nx.dst (.tuple [.bool true, e.1, e.2]) fr fun fr => opsRun P X ih m.ops m.r1 ⟨fr, cx.n, cx.defs, cx.up⟩ s (onNormal 303 fun cx s => onTrue P m.c cx true (ih.code m.thn cx s (onNormal 301 (mlEntry P X m a ih o e k))))
noncomputable def mlOut (k : KE) : KE := fun e cx s => match e with
  | .normal => .no 317
  | e => k e cx s
noncomputable def mlOver (m : ML) (fr : T AV) (ih : Rec) (cx : Cx) (s : St) (k : KE) : R :=
  putk m.nx.dst (.tuple [.bool false]) fr fun fr => opsRun P X ih m.ops m.r1 ⟨fr, cx.n, cx.defs, cx.up⟩ s (onNormal 309 fun cx s => onTrue P m.c cx false (ih.code m.els cx s (mlOut k)))
noncomputable def mlSame (fr : T AV) (defs : List ADef) (up : Up) (cx1 : Cx) (s1 : St) : R :=
  match defs, cx1.defs, up, cx1.up with
  | [], [], .no, .no => ifk (lessT fr cx1.fr && !s1.wl) .ok (.no 304)
  | _, _, _, _ => .no 305
/-- does a round leave all as it was? -/
noncomputable def mlStill (m : ML) (a : Adr) (fr : T AV) (ih : Rec) (cx : Cx) (s : St) (bd : Nat) (e : AV × AV) : R :=
  mlRound P X m a fr ih cx ⟨s.heap, s.nx, bd, false⟩ none e (onNormal 307 fun cx1 s1 => mlSame fr cx.defs cx.up cx1 s1)
noncomputable def mlStills (m : ML) (a : Adr) (fr : T AV) (ih : Rec) (cx : Cx) (s : St) (bd : Nat) (l : List (AV × AV)) (r : R) : R :=
  List.rec r (fun e _ go => R.rec go (fun n => .no n) (mlStill P X m a fr ih cx s bd e)) l
noncomputable def mlLeave (k : KE) : KE := fun e cx1 s1 => match e with
  | .normal => .no 310
  | e => k e cx1 s1
/-- one round that leaves the loop, or none -/
noncomputable def mlGo (m : ML) (a : Adr) (fr : T AV) (ih : Rec) (cx : Cx) (s : St) (bd : Nat) (k : KE) (es : List (AV × AV)) : R :=
  List.rec (mlOver P X m fr ih cx s k) (fun e rest go => R.rec go (fun _ => mlStills P X m a fr ih cx s bd rest (mlRound P X m a fr ih cx ⟨s.heap, s.nx, bd, false⟩ (some (s.bd, s.wl)) e (mlLeave k))) (mlStill P X m a fr ih cx s bd e)) es
/-- A range over a map, whose rounds leave all as it was, or leave the loop. -/
noncomputable def mapLoopAt (m : ML) (a : Adr) (fr : T AV) (ih : Rec) (cx : Cx) (s : St) (k : KE) (o : AObj) : R := match o with
  | .mapIter q c => mapk s q fun es c' => ifk (Nat.beq c c' && allLt cx.n (dstsO m.ops.toList) && allLt cx.n (dstsO m.ops2.toList)) (putObjk s a (some .any) fun s => fN s.nx.nat fun bd => ifk (Nat.blt 0 bd) (mlGo P X m a fr ih cx s bd k es) (.no 313)) (.no 314)
  | _ => .no 311
noncomputable def mapLoop (m : ML) (all : Code) (ih : Rec) (cx : Cx) (s : St) (k : KE) : R :=
  topsk (dsts all) cx.fr fun fr => opk m.it P fr fun v => v.onPtr (fun a off => ifk (Nat.beq off 0) (objk s a fun o => mapLoopAt P X m a fr ih cx s k o) (.no 315)) (.no 312)

noncomputable def plainLoop (b : Code) (ih : Rec) (cx : Cx) (s : St) (k : KE) : R := ih.code b cx s fun e cx s => match e with
  | .normal => ih.code (.loop b) cx s k
  | e => k e cx s
/-- is a loop's body a round over a map? -/
def mlOf (b : Code) : Option ML :=
  match b with
  | .seq (.region _ ops false) (.seq (.cond c thn els) (.block j (.seq (.region _ ops2 false) body))) =>
    match ops.toList, ops2.toList with
    | nx :: r1, en :: r2 => match nx.op, en.op with
      | .next (.tmp t) false, .entry (.tmp u) => if Nat.beq t u && nx.guard.isNone && en.guard.isNone then some ⟨.tmp t, nx, ops, r1, c, thn, els, j, en, ops2, r2, body⟩ else none
      | _, _ => none
    | _, _ => none
  | _ => none
noncomputable def cLoop (b : Code) : Rec → Cx → St → KE → R := Option.rec (plainLoop b) (fun m => mapLoop P X m b) (mlOf b)

noncomputable def AExit.onNormal (e : AExit) : R → (AExit → R) → R := AExit.rec (fun r _ => r) (fun i _ d => d (.exit i)) (fun i _ d => d (.goto i)) (fun _ d => d .ret) (fun c _ d => d (.panic c)) e
noncomputable def seqK (b : Code) (ih : Rec) (k : KE) : KE := fun e cx s => e.onNormal (ih.code b cx s k) fun e => k e cx s
noncomputable def cSeq (a b : Code) (ih : Rec) (cx : Cx) (s : St) (k : KE) : R := ih.code a cx s (seqK b ih k)
noncomputable def both (x y : R) : R := R.rec y (fun n => .no n) x
noncomputable def condUnk (v : AV) (x y : R) : R := match v with
  | .abool => both x y
  | _ => .no 260
noncomputable def cCond (c : Operand) (a b : Code) (ih : Rec) (cx : Cx) (s : St) (k : KE) : R := opk c P cx.fr fun v => v.onBool (fun t => Bool.rec (ih.code b cx s k) (ih.code a cx s k) t) (condUnk v (ih.code a cx s k) (ih.code b cx s k))
noncomputable def cBlock (id : Nat) (b : Code) (ih : Rec) (cx : Cx) (s : St) (k : KE) : R := ih.code b cx s (mlExit id k)
noncomputable def cRegion (ops : Array Oper) (draw : Bool) (ih : Rec) (cx : Cx) (s : St) (k : KE) : R :=
  ifk (allLt cx.n (dstsO ops.toList)) (Bool.rec (opsRun P X ih ops ops.toList cx s k) (optk (plan ops) 261 fun l => drawnRun P X ih ops l cx s k) draw) (.no 264)
noncomputable def rfJump (j : Option Code) (ih : Rec) (cx : Cx) (s : St) (k : KE) : R := Option.rec (k .normal cx s) (fun c => ih.code c cx s k) j
noncomputable def rfEnd (l : Adr) (ih : Rec) (cx : Cx) (k : KE) (e : AEnd) (s : St) : R :=
  match e with
  | .panicked ch => k (.panic ch) cx s
  | .returned _ => objk s l fun o => match o with
    | .loop .busy _ _ _ _ _ _ => .no 328
    | .loop _ j t n ps asg body => putObjk s l (some (.loop .exhausted j t n ps asg body)) fun s => rfJump j ih cx s k
    | _ => .no 329
noncomputable def rfCall (l : Adr) (ih : Rec) (cx : Cx) (s : St) (k : KE) (r : ARes) : R :=
  match r with
  | .enter g args => Option.rec (ih.call g args .no s fun e _ s => rfEnd l ih cx k e s) (fun _ => .no 327) (X g)
  | _ => .no 330
noncomputable def cRangeFunc (f : Operand) (ps : Array Tmp) (asg body : Code) (ih : Rec) (cx : Cx) (s : St) (k : KE) : R :=
  match cx.up with
  | .round => .no 262
  | _ => newk s .deferred fun d s => newk s (.loop .ready none cx.fr cx.n ps.toList asg body) fun l s => opk f P cx.fr fun f => calleek f [.func (.yield l.nat) [] []] fun r => rfCall X l ih ⟨cx.fr, cx.n, .collected d :: cx.defs, cx.up⟩ s k r

abbrev CF := Program → (FuncId → Option Hook) → Rec → Cx → St → KE → R
noncomputable def codeStep (c : Code) : CF :=
  Code.rec (motive := fun _ => CF) (fun _ _ _ cx s k => k .normal cx s) (fun _ ops d P X => cRegion P X ops d) (fun a b _ _ _ _ => cSeq a b) (fun c a b _ _ P _ => cCond P c a b) (fun id b _ _ _ => cBlock id b) (fun b _ P X => cLoop P X b)
    (fun f ps a b _ _ P X => cRangeFunc P X f ps a b) (fun id _ _ _ cx s k => k (.exit id) cx s) (fun b _ _ _ ih cx s k => ih.scope b b cx s k) (fun _ _ _ _ cx s k => k .normal cx s) (fun l _ _ _ cx s k => k (.goto l) cx s) (fun _ _ _ cx s k => k .ret cx s) (fun _ _ _ _ _ _ _ => .no 263) c

noncomputable def scopeK (body : Code) (ih : Rec) (k : KE) : KE := fun e cx s => match e with
  | .goto l => Option.rec (k (.goto l) cx s) (fun rest => ih.scope body rest cx s k) (findLabel body l)
  | e => k e cx s
noncomputable def scopeStep (ih : Rec) (body cur : Code) (cx : Cx) (s : St) (k : KE) : R := ih.code cur cx s (scopeK body ih k)

noncomputable def argsFr (args : List AV) (k : T AV → R) : R :=
  List.rec (motive := fun _ => Nat → T AV → R) (fun _ t => k t) (fun v _ ih i t => T.setk (adr i) (some v) t fun t => fN (Nat.add i 1) fun i => ih i t) args 0 .l

noncomputable def resCell (s : St) (t : TypeId) (a : AV) (k : AV → R) : R := match a with
  | .ptr p off => loadVark P s t p off k
  | _ => .no 270
noncomputable def resultV (v : ResultVar) (fr : T AV) (s : St) (k : AV → R) : R :=
  ResultVar.rec (fun t => opT t P fr k) (fun a t => opT a P fr fun a => resCell P s t a k) v
noncomputable def resultsL (l : List ResultVar) (fr : T AV) (s : St) : (List AV → R) → R :=
  List.rec (fun k => k []) (fun v _ ih k => resultV P v fr s fun v => ih fun r => k (v :: r)) l
noncomputable def tupleK (k : AV → R) (vs : List AV) : R := match vs with
  | [v] => k v
  | vs => k (.tuple vs)
/-- the results -/
noncomputable def resultsk (fn : Func) (fr : T AV) (s : St) (k : AV → R) : R := resultsL P fn.results.toList fr s (tupleK k)

abbrev KA := AEnd → Up → St → R
noncomputable def uwDone (fn : Func) (m : AMode) (cx : Cx) (s : St) (k : KA) : R :=
  AMode.rec (resultsk P fn cx.fr s fun v => k (.returned v) cx.up s) (fun ch => k (.panicked ch) cx.up s) m
/-- behind a deferred call -/
noncomputable def uwNext (e : AEnd) (m : AMode) (go : AMode → R) : R :=
  match e, m with
  | .returned _, .panicking ((_, true) :: _) => go .returning
  | .returned _, m => go m
  | .panicked ch, .panicking old => appk ch old fun ch => go (.panicking ch)
  | .panicked ch, .returning => go (.panicking ch)
noncomputable def uwUp (up : Up) (k : AMode → R) : R := match up with
  | .deferred m => k m
  | _ => .no 271
noncomputable def uwTake (a : Adr) (s : St) (k : St → R) : R := objk s a fun o => match o with
  | .deferred => putObjk s a (some .taken) k
  | _ => .no 272
noncomputable def uw1 (ih : Rec) (d : ADef) (m : AMode) (s : St) (go : AMode → St → R) : R :=
  ADef.rec (fun fn args => ih.call fn args (.deferred m) s fun e up s => uwUp up fun m => uwNext e m fun m => go m s) (fun a => uwTake a s fun s => go m s) d
/-- what is deferred is called, the last one first -/
noncomputable def unwindk (ih : Rec) (fn : Func) (defs : List ADef) : AMode → Cx → St → KA → R :=
  List.rec (uwDone P fn) (fun d _ go m cx s k => uw1 ih d m s fun m s => go m cx s k) defs

noncomputable def bodyK (ih : Rec) (fn : Func) (k : KA) : KE := fun e cx s => match e with
  | .normal => unwindk P ih fn cx.defs .returning cx s k
  | .ret => unwindk P ih fn cx.defs .returning cx s k
  | .panic ch => unwindk P ih fn cx.defs (.panicking ch) cx s k
  | _ => .no 281
noncomputable def callStep (ih : Rec) (f : FuncId) (args : List AV) (up : Up) (s : St) (k : KA) : R :=
  optk P.funcs[f]? 280 fun fn => optk fn.body (1000 + f) fun c => argsFr args fun fr => lenk args fun la => fN (Nat.max la fn.ntmps) fun n => ih.code c ⟨fr, n, [], up⟩ s (bodyK P ih fn k)

noncomputable def ev (n : Nat) : Rec :=
  Nat.rec ⟨fun _ _ _ _ => .no 290, fun _ _ _ _ _ => .no 290, fun _ _ _ _ _ => .no 290⟩ (fun _ ih => ⟨fun c => codeStep c P X ih, callStep P ih, scopeStep ih⟩) n

end
end Go.Ev

namespace Go.Ev
open Go
/-- the place of a byte -/
noncomputable def idxByteF (f : Nat) : Nat → Nat → Nat → (Int → R) → R :=
  Nat.rec (fun _ _ _ k => k (.negSucc 0)) (fun _ ih n c i k => ifk (Nat.beq (Nat.mod n 256) c) (k (.ofNat i)) (fN (Nat.div n 256) fun n => fN (Nat.succ i) fun i => ih n c i k)) f
noncomputable def hIndexByte : Hook := fun _ args s k => match args with
  | [.str l n, .int .u8 (.ofNat c)] => ifk (Nat.blt c 256) (idxByteF l n c 0 fun i => k (.int .i64 i) s) (.no 406)
  | _ => .no 400
noncomputable def idxF (f : Nat) : Nat → Nat → Nat → Nat → (Int → R) → R :=
  Nat.rec (fun _ _ _ _ k => k (.negSucc 0)) (fun _ ih n m c i k => ifk (Nat.beq (Nat.mod n c) m) (k (.ofNat i)) (fN (Nat.div n 256) fun n => fN (Nat.succ i) fun i => ih n m c i k)) f
noncomputable def hIndex : Hook := fun _ args s k => match args with
  | [.str l n, .str l' m] => ifk (Nat.ble l' l) (fN (Nat.pow 256 l') fun c => idxF (Nat.succ (Nat.sub l l')) n m c 0 fun i => k (.int .i64 i) s) (k (.int .i64 (.negSucc 0)) s)
  | _ => .no 401
noncomputable def hSame : Hook := fun _ args s k => match args with
  | [v] => k v s
  | _ => .no 402
noncomputable def hMakeNoZero (e : TypeId) : Hook := fun _ args s k => match args with
  | [.int .i64 (.ofNat n)] => ifk (Nat.ble n 1048576) (repk n [.top] fun vs => newk s (.cells e true 0 vs) fun a s => k (.gslice a 0 n 1) s) (.no 403)
  | _ => .no 404
noncomputable def hCmp : Hook := fun _ args s k => match args with
  | [.str l n, .str m o] => strLtk l n m o fun b => Bool.rec (strLtk m o l n fun b => Bool.rec (k (.int .i64 0) s) (k (.int .i64 1) s) b) (k (.int .i64 (.negSucc 0)) s) b
  | _ => .no 405
end Go.Ev

/- What the evaluator's primitives do. -/
namespace Go.Ev
open Go

theorem ifk_eq (b : Bool) (x y : R) : ifk b x y = if b then x else y := by cases b <;> rfl
theorem ifk_no {b : Bool} {x : R} {n : Nat} (h : ifk b x (.no n) = .ok) : b = true ∧ x = .ok := by cases b <;> simp_all [ifk]
theorem fN_eq (n : Nat) (k : Nat → R) : fN n k = k n := by cases n <;> rfl
theorem fI_eq (n : Int) (k : Int → R) : fI n k = k n := by cases n <;> simp [fI, fN_eq]
theorem fB_eq (b : Bool) (k : Bool → R) : fB b k = k b := by cases b <;> rfl
theorem optk_ok {α : Type} {o : Option α} {n : Nat} {k : α → R} (h : optk o n k = .ok) : ∃ x, o = some x ∧ k x = .ok := by
  cases o with
  | none => simp [optk] at h
  | some x => exact ⟨x, rfl, h⟩

theorem splitk_ok {α : Type} {n : Nat} {l : List α} {k : List α → List α → R} (h : splitk n l k = .ok) : ∃ a b, l = a ++ b ∧ a.length = n ∧ k a b = .ok := by
  induction n generalizing l k with
  | zero => exact ⟨[], l, rfl, rfl, h⟩
  | succ n ih =>
    cases l with
    | nil => simp [splitk] at h
    | cons x xs =>
      obtain ⟨a, b, e, hl, hk⟩ := ih (k := fun a b => k (x :: a) b) h
      exact ⟨x :: a, b, by simp [e], by simp [hl], hk⟩
theorem appk_eq {α : Type} (l m : List α) (k : List α → R) : appk l m k = k (l ++ m) := by
  induction l generalizing k with
  | nil => rfl
  | cons x l ih => exact ih (fun r => k (x :: r))
theorem nthk_ok {α : Type} {n : Nat} {l : List α} {k : α → R} (h : nthk n l k = .ok) : ∃ x, l[n]? = some x ∧ k x = .ok := by
  induction n generalizing l with
  | zero => cases l with
    | nil => simp [nthk] at h
    | cons x xs => exact ⟨x, rfl, h⟩
  | succ n ih => cases l with
    | nil => simp [nthk] at h
    | cons x xs => obtain ⟨y, e, hk⟩ := ih (l := xs) h; exact ⟨y, by simpa using e, hk⟩
theorem setNthk_ok {α : Type} {n : Nat} {y : α} {l : List α} {k : List α → R} (h : setNthk n y l k = .ok) : n < l.length ∧ k (l.set n y) = .ok := by
  induction n generalizing l k with
  | zero => cases l with
    | nil => simp [setNthk] at h
    | cons x xs => exact ⟨by simp, h⟩
  | succ n ih => cases l with
    | nil => simp [setNthk] at h
    | cons x xs => obtain ⟨e, hk⟩ := ih (l := xs) (k := fun r => k (x :: r)) h; exact ⟨by simp [e], by simpa using hk⟩
theorem lenFk_eq {α : Type} (l : List α) (n : Nat) (k : Nat → R) : lenFk l n k = k (n + l.length) := by
  induction l generalizing n with
  | nil => rfl
  | cons x l ih =>
    show fN (Nat.add n 1) (fun n => lenFk l n k) = _
    rw [fN_eq, ih]; simp [Nat.add_comm, Nat.add_left_comm]
theorem lenk_eq {α : Type} (l : List α) (k : Nat → R) : lenk l k = k l.length := by simp [lenk, lenFk_eq]
theorem repk_eq {α : Type} (n : Nat) (l : List α) (k : List α → R) : repk n l k = k (List.replicate n l).flatten := by
  induction n generalizing k with
  | zero => rfl
  | succ n ih =>
    show repk n l (fun r => appk l r k) = _
    rw [ih, appk_eq, List.replicate_succ, List.flatten_cons]

section
variable {α : Type}
theorem T.get_e (t : T α) : T.get .e t = match t with | .l => none | .n x _ _ _ _ => x := by cases t <;> rfl
theorem T.get_a (p : Adr) (t : T α) : T.get (.a p) t = match t with | .l => none | .n _ x _ _ _ => T.get p x := by cases t <;> rfl
theorem T.get_b (p : Adr) (t : T α) : T.get (.b p) t = match t with | .l => none | .n _ _ x _ _ => T.get p x := by cases t <;> rfl
theorem T.get_c (p : Adr) (t : T α) : T.get (.c p) t = match t with | .l => none | .n _ _ _ x _ => T.get p x := by cases t <;> rfl
theorem T.get_d (p : Adr) (t : T α) : T.get (.d p) t = match t with | .l => none | .n _ _ _ _ x => T.get p x := by cases t <;> rfl
theorem T.get_l (p : Adr) : T.get p (.l : T α) = none := by cases p <;> rfl

def T.set (y : Option α) : Adr → T α → T α
  | .e, .l => .n y .l .l .l .l
  | .e, .n _ a b c d => .n y a b c d
  | .a p, .l => .n none (T.set y p .l) .l .l .l
  | .a p, .n x a b c d => .n x (T.set y p a) b c d
  | .b p, .l => .n none .l (T.set y p .l) .l .l
  | .b p, .n x a b c d => .n x a (T.set y p b) c d
  | .c p, .l => .n none .l .l (T.set y p .l) .l
  | .c p, .n x a b c d => .n x a b (T.set y p c) d
  | .d p, .l => .n none .l .l .l (T.set y p .l)
  | .d p, .n x a b c d => .n x a b c (T.set y p d)

theorem T.setk_eq (p : Adr) (y : Option α) (t : T α) (k : T α → R) : T.setk p y t k = k (T.set y p t) := by
  induction p generalizing t k with
  | e => cases t <;> simp [T.set] <;> rfl
  | a p ih => cases t with
    | l => exact ih .l _
    | n x a b c d => exact ih a _
  | b p ih => cases t with
    | l => exact ih .l _
    | n x a b c d => exact ih b _
  | c p ih => cases t with
    | l => exact ih .l _
    | n x a b c d => exact ih c _
  | d p ih => cases t with
    | l => exact ih .l _
    | n x a b c d => exact ih d _

theorem T.get_set_self (y : Option α) (p : Adr) (t : T α) : T.get p (T.set y p t) = y := by
  induction p generalizing t with
  | e => cases t <;> rfl
  | a p ih => cases t <;> simp [T.set, T.get_a, ih]
  | b p ih => cases t <;> simp [T.set, T.get_b, ih]
  | c p ih => cases t <;> simp [T.set, T.get_c, ih]
  | d p ih => cases t <;> simp [T.set, T.get_d, ih]
theorem T.get_set_ne (y : Option α) {p q : Adr} (h : p ≠ q) (t : T α) : T.get q (T.set y p t) = T.get q t := by
  induction p generalizing q t with
  | e => cases q <;> cases t <;> simp_all [T.set, T.get_a, T.get_b, T.get_c, T.get_d, T.get_l]
  | a p ih => cases q <;> cases t <;> simp_all [T.set, T.get_e, T.get_a, T.get_b, T.get_c, T.get_d, T.get_l]
  | b p ih => cases q <;> cases t <;> simp_all [T.set, T.get_e, T.get_a, T.get_b, T.get_c, T.get_d, T.get_l]
  | c p ih => cases q <;> cases t <;> simp_all [T.set, T.get_e, T.get_a, T.get_b, T.get_c, T.get_d, T.get_l]
  | d p ih => cases q <;> cases t <;> simp_all [T.set, T.get_e, T.get_a, T.get_b, T.get_c, T.get_d, T.get_l]
end

theorem Adr.nat_inj {p q : Adr} (h : p.nat = q.nat) : p = q := by
  induction p generalizing q with
  | e => cases q <;> simp only [Adr.nat] at h <;> first | rfl | (exfalso; omega)
  | a p ih => cases q <;> simp only [Adr.nat] at h <;> first | (exfalso; omega) | exact congrArg Adr.a (ih (by omega))
  | b p ih => cases q <;> simp only [Adr.nat] at h <;> first | (exfalso; omega) | exact congrArg Adr.b (ih (by omega))
  | c p ih => cases q <;> simp only [Adr.nat] at h <;> first | (exfalso; omega) | exact congrArg Adr.c (ih (by omega))
  | d p ih => cases q <;> simp only [Adr.nat] at h <;> first | (exfalso; omega) | exact congrArg Adr.d (ih (by omega))
theorem Adr.nat_succ (p : Adr) : p.succ.nat = p.nat + 1 := by
  induction p with
  | e => rfl
  | a p ih => rfl
  | b p ih => rfl
  | c p ih => rfl
  | d p ih => show 4 * p.succ.nat + 1 = _; rw [ih]; simp [Adr.nat]; omega

theorem adrF_nat (f n : Nat) (h : n ≤ f) : (adrF f n).nat = n := by
  induction f generalizing n with
  | zero => have : n = 0 := by omega
            subst this; rfl
  | succ f ih =>
    cases n with
    | zero => rfl
    | succ m =>
      have hd : (adrF f (m / 4)).nat = m / 4 := ih _ (by omega)
      have hr : m % 4 = 0 ∨ m % 4 = 1 ∨ m % 4 = 2 ∨ m % 4 = 3 := by omega
      have e : adrF (f + 1) (m + 1) = Nat.rec (motive := fun _ => Adr) (.a (adrF f (m / 4))) (fun r _ => Nat.rec (motive := fun _ => Adr) (.b (adrF f (m / 4))) (fun r _ => Nat.rec (motive := fun _ => Adr) (.c (adrF f (m / 4))) (fun _ _ => .d (adrF f (m / 4))) r) r) (m % 4) := rfl
      rw [e]
      rcases hr with h | h | h | h <;> rw [h] <;> simp [Adr.nat, hd] <;> omega
theorem adr_nat (n : Nat) : (adr n).nat = n := adrF_nat n n (Nat.le_refl _)
theorem nat_adr (a : Adr) : adr a.nat = a := Adr.nat_inj (adr_nat _)
theorem adr_inj {m n : Nat} (h : adr m = adr n) : m = n := by rw [← adr_nat m, h, adr_nat]
theorem Adr.beq_iff (p q : Adr) : p.beq q = true ↔ p = q := by
  induction p generalizing q with
  | e => cases q <;> simp [Adr.beq]
  | a p ih => cases q <;> first | (show p.beq _ = true ↔ _; simp [ih]) | (show false = true ↔ _; simp)
  | b p ih => cases q <;> first | (show p.beq _ = true ↔ _; simp [ih]) | (show false = true ↔ _; simp)
  | c p ih => cases q <;> first | (show p.beq _ = true ↔ _; simp [ih]) | (show false = true ↔ _; simp)
  | d p ih => cases q <;> first | (show p.beq _ = true ↔ _; simp [ih]) | (show false = true ↔ _; simp)

-- the eliminators
theorem AV.onBool_ok {v : AV} {k : Bool → R} {n : Nat} (h : v.onBool k (.no n) = .ok) : ∃ b, v = .bool b ∧ k b = .ok := by
  cases v <;> first | exact ⟨_, rfl, h⟩ | exact ⟨_, _, rfl, h⟩ | exact ⟨_, _, _, rfl, h⟩ | (have h' : R.no n = R.ok := h; cases h')
theorem AV.onInt_ok {v : AV} {k : IntKind → Int → R} {n : Nat} (h : v.onInt k (.no n) = .ok) : ∃ q m, v = .int q m ∧ k q m = .ok := by
  cases v <;> first | exact ⟨_, rfl, h⟩ | exact ⟨_, _, rfl, h⟩ | exact ⟨_, _, _, rfl, h⟩ | (have h' : R.no n = R.ok := h; cases h')
theorem AV.onStr_ok {v : AV} {k : Nat → Nat → R} {n : Nat} (h : v.onStr k (.no n) = .ok) : ∃ q m, v = .str q m ∧ k q m = .ok := by
  cases v <;> first | exact ⟨_, rfl, h⟩ | exact ⟨_, _, rfl, h⟩ | exact ⟨_, _, _, rfl, h⟩ | (have h' : R.no n = R.ok := h; cases h')
theorem AV.onPtr_ok {v : AV} {k : Adr → Nat → R} {n : Nat} (h : v.onPtr k (.no n) = .ok) : ∃ q m, v = .ptr q m ∧ k q m = .ok := by
  cases v <;> first | exact ⟨_, rfl, h⟩ | exact ⟨_, _, rfl, h⟩ | exact ⟨_, _, _, rfl, h⟩ | (have h' : R.no n = R.ok := h; cases h')
theorem AV.onAgg_ok {v : AV} {k : List AV → R} {n : Nat} (h : v.onAgg k (.no n) = .ok) : ∃ b, v = .agg b ∧ k b = .ok := by
  cases v <;> first | exact ⟨_, rfl, h⟩ | exact ⟨_, _, rfl, h⟩ | exact ⟨_, _, _, rfl, h⟩ | (have h' : R.no n = R.ok := h; cases h')
theorem AV.onTuple_ok {v : AV} {k : List AV → R} {n : Nat} (h : v.onTuple k (.no n) = .ok) : ∃ b, v = .tuple b ∧ k b = .ok := by
  cases v <;> first | exact ⟨_, rfl, h⟩ | exact ⟨_, _, rfl, h⟩ | exact ⟨_, _, _, rfl, h⟩ | (have h' : R.no n = R.ok := h; cases h')
theorem AV.onIface_ok {v : AV} {k : TypeId → AV → R} {n : Nat} (h : v.onIface k (.no n) = .ok) : ∃ t b, v = .iface t b ∧ k t b = .ok := by
  cases v <;> first | exact ⟨_, rfl, h⟩ | exact ⟨_, _, rfl, h⟩ | exact ⟨_, _, _, rfl, h⟩ | (have h' : R.no n = R.ok := h; cases h')
theorem AV.onMap_ok {v : AV} {k : Adr → R} {n : Nat} (h : v.onMap k (.no n) = .ok) : ∃ a, v = .map a ∧ k a = .ok := by
  cases v <;> first | exact ⟨_, rfl, h⟩ | exact ⟨_, _, rfl, h⟩ | exact ⟨_, _, _, rfl, h⟩ | (have h' : R.no n = R.ok := h; cases h')
theorem AV.onFunc_ok {v : AV} {k : Fn → List AV → List AV → R} {n : Nat} (h : v.onFunc k (.no n) = .ok) : ∃ f a c, v = .func f a c ∧ k f a c = .ok := by
  cases v <;> first | exact ⟨_, rfl, h⟩ | exact ⟨_, _, rfl, h⟩ | exact ⟨_, _, _, rfl, h⟩ | (have h' : R.no n = R.ok := h; cases h')
theorem AV.sl_ok {v : AV} {k0 : R} {k1 k2 : Adr → Nat → Nat → Nat → R} {d : R} (h : v.sl k0 k1 k2 d = .ok) :
    (v = .nilslice ∧ k0 = .ok) ∨ (∃ a o l c, v = .slice a o l c ∧ k1 a o l c = .ok) ∨ (∃ a o l c, v = .gslice a o l c ∧ k2 a o l c = .ok) ∨ d = .ok := by
  cases v <;> first | exact .inl ⟨rfl, h⟩ | exact .inr (.inl ⟨_, _, _, _, rfl, h⟩) | exact .inr (.inr (.inl ⟨_, _, _, _, rfl, h⟩)) | exact .inr (.inr (.inr h))
theorem AV.bin_ok {v : AV} {k0 : IntKind → Int → R} {k1 : Nat → Nat → R} {k2 : R} {k3 : List AV → R} {d : R} (h : v.bin k0 k1 k2 k3 d = .ok) :
    (∃ q n, v = .int q n ∧ k0 q n = .ok) ∨ (∃ l n, v = .str l n ∧ k1 l n = .ok) ∨ (v = .niliface ∧ k2 = .ok) ∨ (∃ c, v = .agg c ∧ k3 c = .ok) ∨ d = .ok := by
  cases v <;> first | exact .inl ⟨_, _, rfl, h⟩ | exact .inr (.inl ⟨_, _, rfl, h⟩) | exact .inr (.inr (.inl ⟨rfl, h⟩)) | exact .inr (.inr (.inr (.inl ⟨_, rfl, h⟩))) | exact .inr (.inr (.inr (.inr h)))
theorem AV.nilc_ok {v : AV} {k0 : Adr → Nat → R} {k1 : TypeId → AV → R} {k2 : Fn → List AV → List AV → R} {n : Nat} (h : v.nilc k0 k1 k2 (.no n) = .ok) :
    (∃ a o, v = .ptr a o ∧ k0 a o = .ok) ∨ (∃ t x, v = .iface t x ∧ k1 t x = .ok) ∨ (∃ f a c, v = .func f a c ∧ k2 f a c = .ok) := by
  cases v <;> first | exact .inl ⟨_, _, rfl, h⟩ | exact .inr (.inl ⟨_, _, rfl, h⟩) | exact .inr (.inr ⟨_, _, _, rfl, h⟩) | (have h' : R.no n = R.ok := h; cases h')
theorem AObj.onCells_ok {o : AObj} {k : TypeId → Bool → Nat → List AV → R} {n : Nat} (h : o.onCells k (.no n) = .ok) : ∃ e g f v, o = .cells e g f v ∧ k e g f v = .ok := by
  cases o <;> first | exact ⟨_, _, rfl, h⟩ | exact ⟨_, _, _, _, rfl, h⟩ | (have h' : R.no n = R.ok := h; cases h')
theorem AObj.onMap_ok {o : AObj} {k : List (AV × AV) → Nat → R} {n : Nat} (h : o.onMap k (.no n) = .ok) : ∃ e c, o = .map e c ∧ k e c = .ok := by
  cases o <;> first | exact ⟨_, _, rfl, h⟩ | exact ⟨_, _, _, _, rfl, h⟩ | (have h' : R.no n = R.ok := h; cases h')
theorem evonStruct_ok {d : TypeDesc} {k : Array Field → R} {n : Nat} (h : d.evonStruct k (.no n) = .ok) : ∃ f, d = .struct f ∧ k f = .ok := by
  cases d <;> first | exact ⟨_, rfl, h⟩ | exact ⟨_, _, rfl, h⟩ | (have h' : R.no n = R.ok := h; cases h')
theorem evonSlice_ok {d : TypeDesc} {k : TypeId → R} {n : Nat} (h : d.evonSlice k (.no n) = .ok) : ∃ e, d = .slice e ∧ k e = .ok := by
  cases d <;> first | exact ⟨_, rfl, h⟩ | exact ⟨_, _, rfl, h⟩ | (have h' : R.no n = R.ok := h; cases h')
theorem evonArray_ok {d : TypeDesc} {k : Nat → TypeId → R} {n : Nat} (h : d.evonArray k (.no n) = .ok) : ∃ m e, d = .array m e ∧ k m e = .ok := by
  cases d <;> first | exact ⟨_, rfl, h⟩ | exact ⟨_, _, rfl, h⟩ | (have h' : R.no n = R.ok := h; cases h')
theorem evonMap_ok {d : TypeDesc} {k : TypeId → TypeId → R} {n : Nat} (h : d.evonMap k (.no n) = .ok) : ∃ q e, d = .map q e ∧ k q e = .ok := by
  cases d <;> first | exact ⟨_, rfl, h⟩ | exact ⟨_, _, rfl, h⟩ | (have h' : R.no n = R.ok := h; cases h')
end Go.Ev
