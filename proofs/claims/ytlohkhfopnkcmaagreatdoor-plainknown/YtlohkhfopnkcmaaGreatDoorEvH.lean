/- What a computation of the evaluator hands on does not hang on what stands behind it. -/
import Derived.Test.YtlohkhfopnkcmaaGreatDoorEvA
import Derived.Test.YtlohkhfopnkcmaaGreatDoorEvG

/- What a computation of the evaluator hands on does not hang on what stands behind it. -/
namespace Go.Ev
open Go

def Det {α : Type} (f : (α → R) → R) : Prop := (∃ x, ∀ k, f k = k x) ∨ ∃ n, ∀ k, f k = .no n

section
variable {α β γ : Type}
theorem Det.ret (x : α) : Det fun k : α → R => k x := .inl ⟨x, fun _ => rfl⟩
theorem Det.no (n : Nat) : Det fun _ : α → R => .no n := .inr ⟨n, fun _ => rfl⟩
theorem Det.bind {f : (α → R) → R} {g : α → (β → R) → R} (hf : Det f) (hg : ∀ x, Det (g x)) : Det fun k => f fun x => g x k := by
  rcases hf with ⟨x, hx⟩ | ⟨n, hn⟩
  · rcases hg x with ⟨y, hy⟩ | ⟨n, hn⟩
    · exact .inl ⟨y, fun k => (hx _).trans (hy k)⟩
    · exact .inr ⟨n, fun k => (hx _).trans (hn k)⟩
  · exact .inr ⟨n, fun k => hn _⟩
theorem Det.congr {f g : (α → R) → R} (h : ∀ k, f k = g k) (hg : Det g) : Det f := by
  have : f = g := funext h
  rw [this]; exact hg
theorem Det.map {f : (α → R) → R} (g : α → β) (hf : Det f) : Det fun k => f fun x => k (g x) := hf.bind fun x => .ret (g x)
theorem det_ifk {f g : (α → R) → R} (b : Bool) (hf : Det f) (hg : Det g) : Det fun k => ifk b (f k) (g k) := by cases b; exact hg; exact hf
theorem det_brec {f g : (α → R) → R} (b : Bool) (hf : Det f) (hg : Det g) : Det fun k => (Bool.rec (motive := fun _ => R) (f k) (g k) b) := by cases b; exact hf; exact hg
theorem det_optk {f : β → (α → R) → R} (o : Option β) (n : Nat) (hf : ∀ x, Det (f x)) : Det fun k => optk o n fun x => f x k := by
  cases o
  · exact .no n
  · exact hf _
theorem det_orec {f : (α → R) → R} {g : β → (α → R) → R} (o : Option β) (hf : Det f) (hg : ∀ x, Det (g x)) : Det fun k => (Option.rec (motive := fun _ => R) (f k) (fun x => g x k) o) := by
  cases o
  · exact hf
  · exact hg _
theorem det_fN {f : Nat → (α → R) → R} (n : Nat) (hf : Det (f n)) : Det fun k => fN n fun m => f m k := by
  refine Det.congr (fun k => ?_) hf
  rw [fN_eq]
theorem det_fI {f : Int → (α → R) → R} (n : Int) (hf : Det (f n)) : Det fun k => fI n fun m => f m k := by
  refine Det.congr (fun k => ?_) hf
  rw [fI_eq]
theorem det_fB {f : Bool → (α → R) → R} (n : Bool) (hf : Det (f n)) : Det fun k => fB n fun m => f m k := by
  refine Det.congr (fun k => ?_) hf
  rw [fB_eq]
theorem det_onBool {f : Bool → (α → R) → R} (v : AV) (n : Nat) (hf : ∀ b, Det (f b)) : Det fun k => v.onBool (fun b => f b k) (.no n) := by cases v <;> first | exact hf _ | exact .no n
theorem det_onInt {f : IntKind → Int → (α → R) → R} (v : AV) (n : Nat) (hf : ∀ q m, Det (f q m)) : Det fun k => v.onInt (fun q m => f q m k) (.no n) := by cases v <;> first | exact hf _ _ | exact .no n
theorem det_onStr {f : Nat → Nat → (α → R) → R} (v : AV) (n : Nat) (hf : ∀ q m, Det (f q m)) : Det fun k => v.onStr (fun q m => f q m k) (.no n) := by cases v <;> first | exact hf _ _ | exact .no n
theorem det_onPtr {f : Adr → Nat → (α → R) → R} (v : AV) (n : Nat) (hf : ∀ q m, Det (f q m)) : Det fun k => v.onPtr (fun q m => f q m k) (.no n) := by cases v <;> first | exact hf _ _ | exact .no n
theorem det_onAgg {f : List AV → (α → R) → R} (v : AV) (n : Nat) (hf : ∀ q, Det (f q)) : Det fun k => v.onAgg (fun q => f q k) (.no n) := by cases v <;> first | exact hf _ | exact .no n
theorem det_onTuple {f : List AV → (α → R) → R} (v : AV) (n : Nat) (hf : ∀ q, Det (f q)) : Det fun k => v.onTuple (fun q => f q k) (.no n) := by cases v <;> first | exact hf _ | exact .no n
theorem det_onMap {f : Adr → (α → R) → R} (v : AV) {d : (α → R) → R} (hf : ∀ q, Det (f q)) (hd : Det d) : Det fun k => v.onMap (fun q => f q k) (d k) := by cases v <;> first | exact hf _ | exact hd
theorem det_sl {f : (α → R) → R} {g h : Adr → Nat → Nat → Nat → (α → R) → R} {d : (α → R) → R} (v : AV) (hf : Det f) (hg : ∀ a b c d, Det (g a b c d)) (hh : ∀ a b c d, Det (h a b c d)) (hd : Det d) :
    Det fun k => v.sl (f k) (fun a b c d => g a b c d k) (fun a b c d => h a b c d k) (d k) := by cases v <;> first | exact hf | exact hg _ _ _ _ | exact hh _ _ _ _ | exact hd
theorem det_onCells {f : TypeId → Bool → Nat → List AV → (α → R) → R} (o : AObj) (n : Nat) (hf : ∀ a b c d, Det (f a b c d)) : Det fun k => o.onCells (fun a b c d => f a b c d k) (.no n) := by cases o <;> first | exact hf _ _ _ _ | exact .no n
theorem det_oMap {f : List (AV × AV) → Nat → (α → R) → R} (o : AObj) (n : Nat) (hf : ∀ a b, Det (f a b)) : Det fun k => o.onMap (fun a b => f a b k) (.no n) := by cases o <;> first | exact hf _ _ | exact .no n
theorem det_evonStruct {f : Array Field → (α → R) → R} (d : TypeDesc) (n : Nat) (hf : ∀ a, Det (f a)) : Det fun k => d.evonStruct (fun a => f a k) (.no n) := by cases d <;> first | exact hf _ | exact .no n
theorem det_evonMap {f : TypeId → TypeId → (α → R) → R} (d : TypeDesc) (n : Nat) (hf : ∀ a b, Det (f a b)) : Det fun k => d.evonMap (fun a b => f a b k) (.no n) := by cases d <;> first | exact hf _ _ | exact .no n
theorem det_evonArray {f : Nat → TypeId → (α → R) → R} (d : TypeDesc) (n : Nat) (hf : ∀ a b, Det (f a b)) : Det fun k => d.evonArray (fun a b => f a b k) (.no n) := by cases d <;> first | exact hf _ _ | exact .no n
theorem det_evsli {a z : (α → R) → R} {b c : TypeId → (α → R) → R} {e : Nat → TypeId → (α → R) → R} (d : TypeDesc) (ha : Det a) (hb : ∀ t, Det (b t)) (hc : ∀ t, Det (c t)) (he : ∀ n t, Det (e n t)) (hz : Det z) :
    Det fun k => d.evsli (a k) (fun t => b t k) (fun t => c t k) (fun n t => e n t k) (z k) := by cases d <;> first | exact ha | exact hb _ | exact hc _ | exact he _ _ | exact hz
theorem det_splitk {f : List β → List β → (α → R) → R} (n : Nat) : ∀ (l : List β) (_ : ∀ a b, Det (f a b)), Det fun k => splitk n l fun a b => f a b k := by
  induction n generalizing f with
  | zero => intro l hf; exact hf _ _
  | succ n ih => intro l hf; cases l with
    | nil => exact .no 1
    | cons x l => exact ih (f := fun a b => f (x :: a) b) l fun a b => hf _ _
theorem det_nthk (n : Nat) : ∀ (l : List α), Det (nthk n l) := by
  induction n with
  | zero => intro l; cases l; exact .no 2; exact .ret _
  | succ n ih => intro l; cases l with
    | nil => exact .no 2
    | cons x l => exact ih l
theorem det_cvk (v : AV) : Det (cvk v) := by cases v <;> first | exact .inl ⟨_, fun _ => rfl⟩ | exact .inr ⟨_, fun _ => rfl⟩
theorem det_atomk (v : Value) : Det (atomk v) := by
  cases v with
  | int q n => exact det_fI (f := fun n k => k (AV.int q n)) _ (.ret _)
  | string s => exact det_fN (f := fun l k => fN (packL s.data.toList) fun n => k (AV.str l n)) _ (det_fN (f := fun n k => k (AV.str _ n)) _ (.ret _))
  | pointer a => cases a <;> first | exact .inl ⟨_, fun _ => rfl⟩ | exact .inr ⟨_, fun _ => rfl⟩
  | map a => cases a <;> first | exact .inl ⟨_, fun _ => rfl⟩ | exact .inr ⟨_, fun _ => rfl⟩
  | slice a l c => cases a <;> first | exact det_ifk _ (.ret _) (.no _) | exact .inr ⟨_, fun _ => rfl⟩
  | func f a c => exact det_ifk _ (.ret _) (.no _)
  | _ => first | exact .inl ⟨_, fun _ => rfl⟩ | exact .inr ⟨_, fun _ => rfl⟩
theorem det_atomsk (l : List Value) : Det (atomsk l) := by
  induction l with
  | nil => exact .ret _
  | cons v l ih => exact Det.bind (f := atomk v) (g := fun a k => atomsk l fun r => k (a :: r)) (det_atomk v) fun a => ih.map (a :: ·)
theorem det_constk (v : Value) : Det (constk v) := by
  have h := det_atomk v
  cases v with
  | agg cs => exact (det_atomsk cs.toList).map AV.agg
  | tuple cs => exact (det_atomsk cs.toList).map AV.tuple
  | iface t x =>
    have h := det_atomk x
    cases x with
    | agg cs => exact (det_atomsk cs.toList).map fun l => AV.iface t (.agg l)
    | _ => exact h.map fun a => AV.iface t a
  | _ => exact h
end

section
variable {P : Program} {s : St} {α : Type}
theorem det_opk (x : Operand) (P : Program) (fr : T AV) : Det (opk x P fr) := by
  cases x with
  | tmp t =>
    refine Det.congr (g := fun k => Option.rec (motive := fun _ => R) (k AV.top) k (T.get (adr t) fr)) (fun _ => rfl) ?_
    exact det_orec (f := fun k => k AV.top) (g := fun x k => k x) _ (.ret _) fun x => .ret x
  | const v => exact det_constk v
  | global g => exact det_ifk _ (.ret _) (.no _)
  | func f => exact .ret _
theorem det_opsk (l : List Operand) (P : Program) (fr : T AV) : Det (opsk l P fr) := by
  induction l with
  | nil => exact .ret _
  | cons v l ih => exact Det.bind (f := opk v P fr) (g := fun a k => opsk l P fr fun r => k (a :: r)) (det_opk v P fr) fun a => ih.map (a :: ·)
theorem det_partsk (l : List (Nat × Operand)) (P : Program) (fr : T AV) : Det (partsk l P fr) := by
  induction l with
  | nil => exact .ret _
  | cons v l ih => exact Det.bind (f := opk v.2 P fr) (g := fun a k => partsk l P fr fun r => k ((v.1, a) :: r)) (det_opk v.2 P fr) fun a => ih.map ((v.1, a) :: ·)
theorem det_tyk {f : TypeDesc → (α → R) → R} (t : TypeId) (hf : ∀ d, Det (f d)) : Det fun k => tyk P t fun d => f d k := det_optk _ _ hf
theorem det_szk {f : Nat → (α → R) → R} (t : TypeId) (hf : ∀ d, Det (f d)) : Det fun k => szk P t fun d => f d k := det_optk (f := fun (i : TypeInfo) k => fN i.size fun d => f d k) _ _ fun _ => det_fN _ (hf _)
theorem det_bytesk {f : Nat → (α → R) → R} (t : TypeId) (hf : ∀ d, Det (f d)) : Det fun k => bytesk P t fun d => f d k := det_optk (f := fun (i : TypeInfo) k => fN i.bytes fun d => f d k) _ _ fun _ => det_fN _ (hf _)
theorem det_zerok (t : TypeId) : Det (zerok P t) := det_optk (f := fun (i : TypeInfo) k => optk i.zero 22 fun z => constk z k) _ _ fun _ => det_optk (f := fun z k => constk z k) _ _ fun _ => det_constk _
theorem det_objk {f : AObj → (α → R) → R} (a : Adr) (hf : ∀ d, Det (f d)) : Det fun k => objk s a fun d => f d k := det_optk _ _ hf
theorem det_cellsk {f : TypeId → Bool → Nat → List AV → (α → R) → R} (a : Adr) (hf : ∀ a b c d, Det (f a b c d)) : Det fun k => cellsk s a fun a b c d => f a b c d k := det_objk (f := fun o k => o.onCells (fun a b c d => f a b c d k) (.no 31)) a fun _ => det_onCells _ _ hf
theorem det_partk (t : TypeId) (cs : List AV) (off : Nat) : Det (partk P t cs off) :=
  det_tyk (f := fun d k => ifk (isAggD d) (partA P t cs off k) (nthk off cs k)) t fun _ => det_ifk (f := partA P t cs off) (g := nthk off cs) _
    (det_szk (f := fun n k => splitk off cs fun _ r => splitk n r fun l _ => k (AV.agg l)) t fun _ => det_splitk (f := fun _ r k => splitk _ r fun l _ => k (AV.agg l)) _ _ fun _ _ => det_splitk (f := fun l _ k => k (AV.agg l)) _ _ fun _ _ => .ret _) (det_nthk _ _)
theorem det_loadk (a : Adr) (off n : Nat) : Det (loadk s a off n) :=
  det_cellsk (f := fun _ _ _ vs k => splitk off vs fun _ r => splitk n r fun l _ => k l) a fun _ _ _ _ => det_splitk (f := fun _ r k => splitk n r fun l _ => k l) _ _ fun _ _ => det_splitk (f := fun l _ k => k l) _ _ fun _ _ => .ret _
theorem det_loadVark (t : TypeId) (a : Adr) (off : Nat) : Det (loadVark P s t a off) :=
  det_tyk (f := fun d k => ifk (isAggD d) (loadA P s t a off k) (load1 s a off k)) t fun _ => det_ifk (f := loadA P s t a off) (g := load1 s a off) _
    (det_szk (f := fun n k => loadk s a off n fun l => k (AV.agg l)) t fun _ => (det_loadk _ _ _).map _) (det_cellsk (f := fun _ _ _ vs k => nthk off vs k) a fun _ _ _ _ => det_nthk _ _)
theorem det_layk (cs : List AV) (off size : Nat) (v : AV) : Det (layk cs off size v) := by
  refine Det.bind (f := cvk v) (g := fun vs k => lenk vs fun m => ifk (Nat.beq m size) (splitk off cs fun l r => splitk m r fun _ r => appk vs r fun r => appk l r k) (.no 34)) (det_cvk v) fun vs => ?_
  simp only [lenk_eq, appk_eq]
  exact det_ifk _ (det_splitk (f := fun l r k => splitk _ r fun _ r => k (l ++ (vs ++ r))) _ _ fun _ _ => det_splitk (f := fun _ r k => k (_ ++ (vs ++ r))) _ _ fun _ _ => .ret _) (.no _)
theorem det_fillk {place : Nat → (Nat → Nat → R) → R} (hp : ∀ (i : Nat) (f : Nat → Nat → (List AV → R) → R), (∀ a b, Det (f a b)) → Det fun k => place i fun a b => f a b k) : ∀ (ps : List (Nat × AV)) (cs : List AV), Det (fillk ps place cs) := by
  intro ps
  induction ps with
  | nil => intro cs; exact .ret _
  | cons p ps ih => intro cs; exact hp p.1 (fun off size k => layk cs off size p.2 fun cs => fillk ps place cs k) fun off size => Det.bind (det_layk _ _ _ _) fun cs => ih cs
theorem det_placeS (fs : Array Field) (i : Nat) (f : Nat → Nat → (α → R) → R) (hf : ∀ a b, Det (f a b)) : Det fun k => placeS P fs i fun a b => f a b k :=
  det_optk (f := fun (g : Field) k => szk P g.type fun n => f g.offset n k) _ _ fun g => det_szk (f := fun n k => f g.offset n k) _ fun _ => hf _ _
theorem det_placeA (n i : Nat) (f : Nat → Nat → (α → R) → R) (hf : ∀ a b, Det (f a b)) : Det fun k => placeA n i fun a b => f a b k := det_fN (f := fun o k => f o n k) _ (hf _ _)
theorem det_wrapk (q : IntKind) (n : Int) : Det (wrapk q n) := det_fI (f := fun n k => k (AV.int q n)) _ (.ret _)
theorem det_cleank {f : (α → R) → R} (a : Adr) (hf : Det f) : Det fun k => cleank s a (f k) := det_cellsk (f := fun _ _ fz _ k => ifk (Nat.beq fz 0) (f k) (.no 47)) a fun _ _ _ _ => det_ifk (f := f) _ hf (.no _)

-- comparisons
theorem det_eqFields {ih : TypeId → AV → AV → (Bool → R) → R} (hi : ∀ t x y, Det (ih t x y)) (xs ys : List AV) : ∀ fs : List Field, Det fun k => eqFields P ih xs ys k fs := by
  intro fs
  induction fs with
  | nil => exact .ret _
  | cons f fs go =>
    refine det_ifk (f := fun k => eqFields P ih xs ys k fs) (g := fun k => partk P f.type xs f.offset fun x => partk P f.type ys f.offset fun y => ih f.type x y fun b => Bool.rec (k false) (eqFields P ih xs ys k fs) b) _ go ?_
    exact Det.bind (det_partk _ _ _) fun x => Det.bind (det_partk _ _ _) fun y => Det.bind (hi _ _ _) fun b => det_brec b (.ret _) go
theorem det_eqD {ih : TypeId → AV → AV → (Bool → R) → R} (hi : ∀ t x y, Det (ih t x y)) (t : TypeId) (d : TypeDesc) (x y : AV) : Det (eqD P s ih t d x y) := by
  cases d with
  | bool => exact det_onBool (f := fun a k => y.onBool (fun b => fB (a == b) k) (.no 46)) x _ fun a => det_onBool (f := fun b k => fB (a == b) k) y _ fun b => det_fB _ (.ret _)
  | int q => exact det_onInt (f := fun p a k => y.onInt (fun q b => ifk (decide (p = q)) (fB (decide (a = b)) k) (.no 41)) (.no 46)) x _ fun p a => det_onInt (f := fun q b k => ifk (decide (p = q)) (fB (decide (a = b)) k) (.no 41)) y _ fun q b => det_ifk _ (det_fB _ (.ret _)) (.no _)
  | string => exact det_onStr (f := fun l a k => y.onStr (fun m b => fB (Nat.beq l m && Nat.beq a b) k) (.no 46)) x _ fun p a => det_onStr (f := fun m b k => fB (Nat.beq p m && Nat.beq a b) k) y _ fun q b => det_fB _ (.ret _)
  | pointer e =>
    show Det (eqPtr P s e x y)
    cases x with
    | ptr a i =>
      cases y with
      | ptr b j => exact det_szk (f := fun n k => ifk (Nat.beq n 0) (.no 42) (Bool.rec (cleank s a (cleank s b (k false))) (fB (Nat.beq i j) k) (a.beq b))) e fun n => det_ifk _ (.no _) (det_brec (f := fun k => cleank s a (cleank s b (k false))) (g := fun k => fB (Nat.beq i j) k) _ (det_cleank _ (det_cleank _ (.ret _))) (det_fB (f := fun r k => k r) _ (.ret _)))
      | _ => first | exact .ret _ | exact .no _
    | _ => cases y <;> first | exact .ret _ | exact .no _
  | interface m =>
    show Det (eqIface P ih x y)
    cases x <;> cases y <;> first
      | exact .ret _
      | exact .no _
      | exact det_ifk _ (det_optk (f := fun (i : TypeInfo) k => ifk i.comparable (ih _ _ _ k) (.no 44)) _ _ fun i => det_ifk _ (hi _ _ _) (.no _)) (.ret _)
  | struct fs => exact det_onAgg (f := fun xs k => y.onAgg (fun ys => ifk (P.stoodInHeld t) (.no 45) (eqFields P ih xs ys k fs.toList)) (.no 46)) x _ fun xs => det_onAgg (f := fun ys k => ifk (P.stoodInHeld t) (.no 45) (eqFields P ih xs ys k fs.toList)) y _ fun ys => det_ifk _ (.no _) (det_eqFields hi _ _ _)
  | slice e => show Det (eqNilS x y); cases x <;> cases y <;> first | exact .ret _ | exact .no _
  | map a b => show Det (eqNilM x y); cases x <;> cases y <;> first | exact .ret _ | exact .no _
  | func a b c => show Det (eqNilF x y); cases x <;> cases y <;> first | exact .ret _ | exact .no _
  | _ => exact .no _
theorem det_eqF (f : Nat) : ∀ t x y, Det (eqF P s f t x y) := by
  induction f with
  | zero => intro t x y; exact .no _
  | succ f ih => intro t x y; exact det_tyk (f := fun d k => eqD P s (eqF P s f) t d x y k) t fun d => det_eqD ih t d x y
theorem det_eqk (t : TypeId) (x y : AV) : Det (eqk P s t x y) := det_eqF 8 t x y
theorem det_keyFields {ih : TypeId → AV → R → R} {f : (α → R) → R} (hi : ∀ t x (g : (α → R) → R), Det g → Det fun k => ih t x (g k)) (xs : List AV) (hf : Det f) : ∀ fs : List Field, Det fun k => keyFields P ih xs (f k) fs := by
  intro fs
  induction fs with
  | nil => exact hf
  | cons q fs go =>
    refine det_ifk (f := fun k => keyFields P ih xs (f k) fs) (g := fun k => partk P q.type xs q.offset fun x => ih q.type x (keyFields P ih xs (f k) fs)) _ go ?_
    exact Det.bind (det_partk _ _ _) fun x => hi _ _ _ go
theorem det_keyF (n : Nat) : ∀ t x (g : (α → R) → R), Det g → Det fun k => keyF P n t x (g k) := by
  induction n with
  | zero => intro t x g _; exact .no _
  | succ n ih =>
    intro t x g hg
    refine det_tyk (f := fun d k => keyD P (keyF P n) d x (g k)) t fun d => ?_
    have other : Det fun k => ifk x.isTop (.no 51) (g k) := det_ifk _ (.no _) hg
    have str : ∀ fs : Array Field, Det fun k => x.onAgg (fun xs => keyFields P (keyF P n) xs (g k) fs.toList) (.no 51) := fun fs => det_onAgg (f := fun xs k => keyFields P (keyF P n) xs (g k) fs.toList) x _ fun xs => det_keyFields ih xs hg _
    cases d <;> first | exact other | exact str _ | exact .no _
theorem det_findF {f : Nat → AV × AV → (α → R) → R} {g : (α → R) → R} (hf : ∀ i e, Det (f i e)) (hg : Det g) : ∀ (es : List (AV × AV)) (t : TypeId) (x : AV) (i : Nat), Det fun k => findF es P s t x i (fun i e => f i e k) (g k) := by
  intro es
  induction es with
  | nil => intro t x i; exact hg
  | cons e es ih =>
    intro t x i
    refine Det.bind (f := eqk P s t x e.1) (g := fun b k => Bool.rec (fN (Nat.add i 1) fun i => findF es P s t x i (fun i e => f i e k) (g k)) (f i e k) b) (det_eqk _ _ _) fun b => ?_
    exact det_brec b (det_fN (f := fun i k => findF es P s t x i (fun i e => f i e k) (g k)) _ (ih _ _ _)) (hf _ _)
theorem det_strLtF (f : Nat) : ∀ l a m b, Det (strLtF f l a m b) := by
  induction f with
  | zero => intro l a m b; exact .no _
  | succ f ih =>
    intro l a m b
    refine det_ifk _ (.ret _) (det_ifk _ (.ret _) (det_ifk _ ?_ (det_fB _ (.ret _))))
    refine Det.congr (g := strLtF f (l.sub 1) (a.div 256) (m.sub 1) (b.div 256)) (fun k => ?_) (ih _ _ _ _)
    show fN (Nat.sub l 1) (fun l => fN (Nat.div a 256) fun a => fN (Nat.sub m 1) fun m => fN (Nat.div b 256) fun b => strLtF f l a m b k) = _
    simp only [fN_eq]
theorem det_strLtk (l a m b : Nat) : Det (strLtk l a m b) := det_strLtF _ _ _ _ _
theorem det_strOpk (op : BinOp) (l a m b : Nat) : Det (strOpk op l a m b) := by
  cases op <;> first
    | exact .no _
    | exact det_ifk _ (det_fN _ (det_fN _ (.ret _))) (.no _)
    | exact det_fB (f := fun r k => k (AV.bool r)) _ (.ret _)
    | exact (det_strLtk _ _ _ _).map _
    | exact Det.bind (f := strLtk _ _ _ _) (g := fun r k => fB (!r) fun r => k (AV.bool r)) (det_strLtk _ _ _ _) fun r => det_fB (f := fun r k => k (AV.bool r)) _ (.ret _)
theorem det_intOpk (op : BinOp) (q : IntKind) (a b : Int) : Det (intOpk op q a b) := by
  cases op <;> first
    | exact det_wrapk _ _
    | exact .no _
    | exact det_ifk _ (.no _) (det_wrapk _ _)
    | exact det_ifk _ (.no _) (det_fI (f := fun n k => k (AV.int q n)) _ (.ret _))
    | exact det_fB (f := fun r k => k (AV.bool r)) _ (.ret _)
theorem det_intsk (op : BinOp) (q : IntKind) (a : Int) (p : IntKind) (b : Int) : Det (intsk op q a p b) := by
  refine det_brec _ (det_ifk _ (det_intOpk _ _ _ _) (.no _)) (det_brec _ (det_ifk _ (.no _) (det_fI (f := fun n k => k (AV.int q n)) _ (.ret _))) (det_ifk _ (.no _) (det_wrapk _ _)))
theorem det_eqOrk (op : BinOp) {r : (Bool → R) → R} (hr : Det r) : Det (eqOrk op r) := by
  refine det_brec _ (det_brec _ (.no _) ?_) (hr.map _)
  exact hr.bind fun b => det_brec b (.ret _) (.ret _)
theorem det_binOther (op : BinOp) (t : TypeId) (a b : AV) : Det (binOther P s op t a b) := det_eqOrk _ (det_eqk _ _ _)
theorem det_binNil (op : BinOp) (t : TypeId) (x y : Operand) (b : AV) : Det (binNil P s op t x y b) := det_brec _ (det_binOther _ _ _ _) (det_ifk _ (det_binOther _ _ _ _) (.no _))
theorem det_binOpk (op : BinOp) (t : TypeId) (x y : Operand) (a b : AV) : Det (binOpk P s op t x y a b) := by
  have other : ∀ a, Det (binOther P s op t a b) := fun a => det_binOther _ _ _ _
  cases a with
  | int q n =>
    have bd : ∀ lo hi, Det (cmpBd n lo hi) := fun lo hi => by
      have high : Det fun k => (Option.rec (motive := fun _ => R) (k AV.abool) (fun h => ifk (decide (h ≤ n)) (k (AV.bool false)) (k AV.abool)) hi : R) := by
        cases hi with
        | none => exact .ret _
        | some h => exact det_ifk _ (.ret _) (.ret _)
      cases lo with
      | none => exact high
      | some l => exact det_ifk _ (.ret _) high
    have unk : Det (cmpUnk op q n b) := by cases b <;> first | exact .no _ | exact det_ifk _ ((bd _ _).map fun r => (Bool.rec (motive := fun _ => AV) r r.notB (isGtr op) : AV)) (.no _)
    show Det fun k => b.onInt (fun p m => intsk op q n p m k) (cmpUnk op q n b k)
    cases b <;> first | exact unk | exact det_intsk _ _ _ _ _
  | str l m => exact det_onStr (f := fun l' m' k => strOpk op l m l' m' k) b _ fun _ _ => det_strOpk _ _ _ _ _
  | niliface => exact det_binNil _ _ _ _ _
  | agg l => exact det_ifk _ (.no _) (other _)
  | _ => exact other _
theorem det_unOpk (op : UnOp) (a : AV) : Det (unOpk op a) := by
  cases op <;> first
    | exact det_onInt (f := fun q n k => wrapk q (0 - n) k) a _ fun _ _ => det_wrapk _ _
    | exact det_onInt (f := fun q n k => intOpk .xor q (if q.signed then -1 else q.max) n k) a _ fun _ _ => det_intOpk _ _ _ _
    | exact det_onBool (f := fun b k => fB (!b) fun b => k (AV.bool b)) a _ fun _ => det_fB (f := fun b k => k (AV.bool b)) _ (.ret _)
    | exact .no _

-- indexes
theorem det_natk {f : Nat → (α → R) → R} (a : AV) (hf : ∀ n, Det (f n)) : Det fun k => natk a fun n => f n k :=
  det_onInt (f := fun _ n k => Int.rec (fun n => f n k) (fun _ => .no 68) n) a _ fun _ n => by cases n; exact hf _; exact .no _
theorem det_onatk {f : Nat → (α → R) → R} (cx : T AV) (o : Option Operand) (d : Nat) (hf : ∀ n, Det (f n)) : Det fun k => onatk P cx o d fun n => f n k := by
  cases o with
  | none => exact hf _
  | some x => exact Det.bind (f := opk x P cx) (g := fun a k => natk a fun n => f n k) (det_opk x P cx) fun a => det_natk a hf
theorem det_slTo (z : Nat) (p : Adr) (off a b c : Nat) : Det (slTo z p off a b c) := by
  unfold slTo
  simp only [fN_eq]
  exact det_ifk _ (.ret _) (.ret _)
theorem det_slEx (e : TypeId) (mx : Option Operand) (cx : T AV) (lo hi : Option Operand) (p : Adr) (off len cap : Nat) : Det (slEx P e mx cx lo hi p off len cap) := by
  refine det_onatk (f := fun a k => onatk P cx hi len fun b => onatk P cx mx cap fun c => ifk (Nat.ble a b && Nat.ble b c && Nat.ble c cap) (szk P e fun z => slTo z p off a b c k) (.no 73)) cx lo 0 fun a => ?_
  refine det_onatk (f := fun b k => onatk P cx mx cap fun c => ifk (Nat.ble a b && Nat.ble b c && Nat.ble c cap) (szk P e fun z => slTo z p off a b c k) (.no 73)) cx hi len fun b => ?_
  refine det_onatk (f := fun c k => ifk (Nat.ble a b && Nat.ble b c && Nat.ble c cap) (szk P e fun z => slTo z p off a b c k) (.no 73)) cx mx cap fun c => ?_
  exact det_ifk _ (det_szk (f := fun z k => slTo z p off a b c k) e fun z => det_slTo _ _ _ _ _ _) (.no _)
theorem det_slG (e : TypeId) (mx : Option Operand) (cx : T AV) (lo hi : Option Operand) (p : Adr) (off len es : Nat) : Det (slG P s e mx cx lo hi p off len es) := by
  refine det_szk (f := fun z k => ifk (Nat.beq z es && Nat.blt 0 z) (onatk P cx lo 0 fun a => onatk P cx hi len fun b => Option.rec (slG2 s z p off a b es k) (slG3 P s z cx p off a b k) mx) (.no 78)) e fun z => ?_
  refine det_ifk _ ?_ (.no _)
  refine det_onatk (f := fun a k => onatk P cx hi len fun b => Option.rec (slG2 s z p off a b es k) (slG3 P s z cx p off a b k) mx) cx lo 0 fun a => ?_
  refine det_onatk (f := fun b k => Option.rec (slG2 s z p off a b es k) (slG3 P s z cx p off a b k) mx) cx hi len fun b => ?_
  refine det_orec (f := fun k => slG2 s z p off a b es k) (g := fun m k => slG3 P s z cx p off a b k m) mx ?_ fun m => ?_
  · refine det_ifk _ (det_cellsk (f := fun _ _ _ vs k => lenk vs fun f => ifk (Nat.ble (Nat.add off (Nat.mul b z)) f) (fN (Nat.sub b a) fun l => fN (Nat.add off (Nat.mul a z)) fun off => k (AV.gslice p off l es)) (.no 77)) p fun _ _ _ vs => ?_) (.no _)
    simp only [lenk_eq, fN_eq]
    exact det_ifk _ (.ret _) (.no _)
  · refine Det.bind (det_opk m P cx) fun v => det_natk (f := fun c k => ifk (Nat.ble a b && Nat.ble b c) (cellsk s p fun _ _ _ vs => lenk vs fun f => ifk (Nat.ble (Nat.add off (Nat.mul c z)) f) (ifk (Nat.beq a c) (k .zslice) (slTo z p off a b c k)) (.no 75)) (.no 76)) v fun c => ?_
    refine det_ifk _ (det_cellsk (f := fun _ _ _ vs k => lenk vs fun f => ifk (Nat.ble (Nat.add off (Nat.mul c z)) f) (ifk (Nat.beq a c) (k .zslice) (slTo z p off a b c k)) (.no 75)) p fun _ _ _ vs => ?_) (.no _)
    simp only [lenk_eq]
    exact det_ifk _ (det_ifk _ (.ret _) (det_slTo _ _ _ _ _ _)) (.no _)
theorem det_zOr {f g : (α → R) → R} (x : AV) (hf : Det f) (hg : Det g) : Det fun k => zOr x (f k) (g k) := by cases x <;> first | exact hf | exact hg
theorem det_slZ (e : TypeId) (mx : Option Operand) (cx : T AV) (lo hi : Option Operand) : Det (slZ P e mx cx lo hi) := by
  refine det_szk (f := fun _ k => onatk P cx lo 0 fun a => onatk P cx hi 0 fun b => onatk P cx mx 0 fun c => ifk (Nat.beq a 0 && Nat.beq b 0 && Nat.beq c 0) (k AV.zslice) (.no 72)) e fun _ => ?_
  refine det_onatk (f := fun a k => onatk P cx hi 0 fun b => onatk P cx mx 0 fun c => ifk (Nat.beq a 0 && Nat.beq b 0 && Nat.beq c 0) (k AV.zslice) (.no 72)) cx lo 0 fun a => ?_
  refine det_onatk (f := fun b k => onatk P cx mx 0 fun c => ifk (Nat.beq a 0 && Nat.beq b 0 && Nat.beq c 0) (k AV.zslice) (.no 72)) cx hi 0 fun b => ?_
  refine det_onatk (f := fun c k => ifk (Nat.beq a 0 && Nat.beq b 0 && Nat.beq c 0) (k AV.zslice) (.no 72)) cx mx 0 fun c => ?_
  exact det_ifk _ (.ret _) (.no _)
theorem det_slicek (t : TypeId) (cx : T AV) (x : AV) (lo hi mx : Option Operand) : Det (slicek P s t cx x lo hi mx) := by
  refine det_ifk _ (.no _) ?_
  refine det_tyk (f := fun d k => d.evsli (slStr P mx cx lo hi x k) (fun e => slSl P s e mx cx lo hi x k) (fun e => tyk P e fun d => d.evonArray (fun n e => slArr P n e mx cx lo hi x k) (.no 79)) (fun n e => slArr P n e mx cx lo hi x k) (.no 79)) t fun d => ?_
  have arr : ∀ n e, Det (slArr P n e mx cx lo hi x) := fun n e => det_onPtr (f := fun p off k => slEx P e mx cx lo hi p off n n k) x _ fun _ _ => det_slEx _ _ _ _ _ _ _ _ _
  have sli : ∀ e, Det (slSl P s e mx cx lo hi x) := fun e => by
    refine det_sl (f := fun k => slNil P e mx cx lo hi k) (g := fun p off len cap k => slEx P e mx cx lo hi p off len cap k) (h := fun p off len es k => slG P s e mx cx lo hi p off len es k) (d := fun k => zOr x (slZ P e mx cx lo hi k) (.no 79)) x ?_ (fun _ _ _ _ => det_slEx _ _ _ _ _ _ _ _ _) (fun _ _ _ _ => det_slG _ _ _ _ _ _ _ _ _) (det_zOr x (det_slZ _ _ _ _ _) (.no _))
    refine det_szk (f := fun _ k => onatk P cx lo 0 fun a => onatk P cx hi 0 fun b => onatk P cx mx 0 fun c => ifk (Nat.beq a 0 && Nat.beq b 0 && Nat.beq c 0) (k AV.nilslice) (.no 72)) e fun _ => ?_
    refine det_onatk (f := fun a k => onatk P cx hi 0 fun b => onatk P cx mx 0 fun c => ifk (Nat.beq a 0 && Nat.beq b 0 && Nat.beq c 0) (k AV.nilslice) (.no 72)) cx lo 0 fun a => ?_
    refine det_onatk (f := fun b k => onatk P cx mx 0 fun c => ifk (Nat.beq a 0 && Nat.beq b 0 && Nat.beq c 0) (k AV.nilslice) (.no 72)) cx hi 0 fun b => ?_
    refine det_onatk (f := fun c k => ifk (Nat.beq a 0 && Nat.beq b 0 && Nat.beq c 0) (k AV.nilslice) (.no 72)) cx mx 0 fun c => ?_
    exact det_ifk _ (.ret _) (.no _)
  have str : Det (slStr P mx cx lo hi x) := by
    refine det_orec (f := fun k => x.onStr (fun l n => onatk P cx lo 0 fun a => onatk P cx hi l fun b => ifk (Nat.ble a b && Nat.ble b l) (fN (Nat.sub b a) fun m => fN (Nat.mod (Nat.div n (Nat.pow 256 a)) (Nat.pow 256 m)) fun n => k (AV.str m n)) (.no 71)) (.no 79)) (g := fun _ _ => .no 70) mx ?_ fun _ => .no _
    refine det_onStr (f := fun l n k => onatk P cx lo 0 fun a => onatk P cx hi l fun b => ifk (Nat.ble a b && Nat.ble b l) (fN (Nat.sub b a) fun m => fN (Nat.mod (Nat.div n (Nat.pow 256 a)) (Nat.pow 256 m)) fun n => k (AV.str m n)) (.no 71)) x _ fun l n => ?_
    refine det_onatk (f := fun a k => onatk P cx hi l fun b => ifk (Nat.ble a b && Nat.ble b l) (fN (Nat.sub b a) fun m => fN (Nat.mod (Nat.div n (Nat.pow 256 a)) (Nat.pow 256 m)) fun n => k (AV.str m n)) (.no 71)) cx lo 0 fun a => ?_
    refine det_onatk (f := fun b k => ifk (Nat.ble a b && Nat.ble b l) (fN (Nat.sub b a) fun m => fN (Nat.mod (Nat.div n (Nat.pow 256 a)) (Nat.pow 256 m)) fun n => k (AV.str m n)) (.no 71)) cx hi l fun b => ?_
    simp only [fN_eq]
    exact det_ifk _ (.ret _) (.no _)
  cases d <;> first
    | exact str
    | exact sli _
    | exact arr _ _
    | exact det_tyk (f := fun d k => d.evonArray (fun n e => slArr P n e mx cx lo hi x k) (.no 79)) _ fun d => det_evonArray (f := fun n e k => slArr P n e mx cx lo hi x k) d _ fun _ _ => arr _ _
    | exact .no _
theorem det_fieldAtk {f : Field → (α → R) → R} (t : TypeId) (i : Nat) (hf : ∀ q, Det (f q)) : Det fun k => fieldAtk P t i fun q => f q k :=
  det_tyk (f := fun d k => d.evonStruct (fun fs => optk fs[i]? 80 fun q => f q k) (.no 81)) t fun d => det_evonStruct (f := fun fs k => optk fs[i]? 80 fun q => f q k) d _ fun _fs => det_optk _ _ hf
theorem det_fieldAddrk (t : TypeId) (a : AV) (i : Nat) : Det (fieldAddrk P t a i) := by
  refine det_onPtr (f := fun p off k => fieldAtk P t i fun f => szk P f.type fun z => ifk (Nat.beq z 0) (.no 82) (fN (Nat.add off f.offset) fun o => k (AV.ptr p o))) a _ fun p off => ?_
  refine det_fieldAtk (f := fun f k => szk P f.type fun z => ifk (Nat.beq z 0) (.no 82) (fN (Nat.add off f.offset) fun o => k (AV.ptr p o))) t i fun f => ?_
  refine det_szk (f := fun z k => ifk (Nat.beq z 0) (.no 82) (fN (Nat.add off f.offset) fun o => k (AV.ptr p o))) _ fun z => ?_
  exact det_ifk _ (.no _) (det_fN (f := fun o k => k (AV.ptr p o)) _ (.ret _))
theorem det_iaTo (e : TypeId) (p : Adr) (off i len : Nat) : Det (iaTo P e p off i len) :=
  det_ifk _ (det_szk (f := fun z k => fN (Nat.add off (Nat.mul i z)) fun o => k (AV.ptr p o)) e fun _z => det_fN (f := fun o k => k (AV.ptr p o)) _ (.ret _)) (.no _)
theorem det_indexAddrk (t : TypeId) (x i : AV) : Det (indexAddrk P t x i) := by
  refine det_tyk (f := fun d k => natk i fun i => d.evix (fun n e => x.onPtr (fun p off => iaTo P e p off i n k) (.no 85)) (fun e => x.sl (.no 85) (fun p off len _ => iaTo P e p off i len k) (fun p off len _ => iaTo P e p off i len k) (.no 85)) (.no 85) (.no 85)) t fun d => ?_
  refine det_natk (f := fun i k => d.evix (fun n e => x.onPtr (fun p off => iaTo P e p off i n k) (.no 85)) (fun e => x.sl (.no 85) (fun p off len _ => iaTo P e p off i len k) (fun p off len _ => iaTo P e p off i len k) (.no 85)) (.no 85) (.no 85)) i fun i => ?_
  cases d <;> first
    | exact .no _
    | exact det_onPtr (f := fun p off k => iaTo P _ p off i _ k) x _ fun _ _ => det_iaTo _ _ _ _ _
    | exact det_sl (f := fun _ => .no 85) (g := fun p off len _ k => iaTo P _ p off i len k) (h := fun p off len _ k => iaTo P _ p off i len k) x (.no _) (fun _ _ _ _ => det_iaTo _ _ _ _ _) (fun _ _ _ _ => det_iaTo _ _ _ _ _) (.no _)
theorem det_indexk (t : TypeId) (x i : AV) : Det (indexk P t x i) := by
  refine det_tyk (f := fun d k => natk i fun i => d.evix (fun n e => x.onAgg (ixArr P n e i k) (.no 88)) (fun _ => .no 88) (x.onStr (fun l n => ixStr i l n k) (.no 88)) (.no 88)) t fun d => ?_
  refine det_natk (f := fun i k => d.evix (fun n e => x.onAgg (ixArr P n e i k) (.no 88)) (fun _ => .no 88) (x.onStr (fun l n => ixStr i l n k) (.no 88)) (.no 88)) i fun i => ?_
  have str : Det fun k => x.onStr (fun l n => ixStr i l n k) (.no 88) := det_onStr (f := fun l n k => ixStr i l n k) x _ fun l n => det_ifk _ (det_fN (f := fun b k => k (AV.int .u8 (.ofNat b))) _ (.ret _)) (.no _)
  have arr : ∀ n e, Det fun k => x.onAgg (ixArr P n e i k) (.no 88) := fun n e => det_onAgg (f := fun cs k => ixArr P n e i k cs) x _ fun cs => det_ifk _ (det_szk (f := fun z k => fN (Nat.mul i z) fun o => partk P e cs o k) e fun z => det_fN (f := fun o k => partk P e cs o k) _ (det_partk _ _ _)) (.no _)
  cases d <;> first
    | exact .no _
    | exact str
    | exact arr _ _
theorem det_lookupk (t : TypeId) (x i : AV) (ok : Bool) : Det (lookupk P s t x i ok) := by
  refine det_tyk (f := fun d k => d.evonMap (fun q e => keyF P 8 q i (Bool.rec (x.onMap (lkMap P s q e i ok k) (.no 103)) (lkNone P e ok k) x.isNilMap)) (.no 104)) t fun d => ?_
  refine det_evonMap (f := fun q e k => keyF P 8 q i (Bool.rec (x.onMap (lkMap P s q e i ok k) (.no 103)) (lkNone P e ok k) x.isNilMap)) d _ fun q e => ?_
  have none : Det (lkNone P e ok) := Det.bind (f := zerok P e) (g := fun z k => Bool.rec (k z) (k (.tuple [z, .bool false])) ok) (det_zerok e) fun z => det_brec (f := fun k => k z) (g := fun k => k (.tuple [z, .bool false])) ok (.ret _) (.ret _)
  refine det_keyF 8 q i (fun k => Bool.rec (x.onMap (lkMap P s q e i ok k) (.no 103)) (lkNone P e ok k) x.isNilMap) (det_brec (f := fun k => x.onMap (lkMap P s q e i ok k) (.no 103)) (g := lkNone P e ok) _ ?_ none)
  refine det_onMap (f := fun a k => lkMap P s q e i ok k a) (d := fun _ => .no 103) x (fun a => ?_) (.no _)
  refine det_objk (f := fun o k => o.onMap (fun es _ => findk P s q i es (fun _ v => lkSome ok k v.2) (lkNone P e ok k)) (.no 102)) a fun o => ?_
  refine det_oMap (f := fun es _ k => findk P s q i es (fun _ v => lkSome ok k v.2) (lkNone P e ok k)) o _ fun es _ => ?_
  exact det_findF (f := fun _ v k => lkSome ok k v.2) (fun _ v => det_brec (f := fun k => k v.2) (g := fun k => k (.tuple [v.2, .bool true])) ok (.ret _) (.ret _)) none es q i 0
theorem det_taK (t : TypeId) (ok : Bool) (d : TypeDesc) (v : AV) : Det fun k => taK P t ok k d v := by
  have zero : ∀ n : Nat, Det fun k => (Bool.rec (motive := fun _ => R) (.no n) (zerok P t fun z => k (AV.tuple [z, .bool false])) ok) := fun n => det_brec ok (Det.no _) ((det_zerok t).map _)
  cases d <;> cases v <;> first
    | exact .no _
    | exact zero _
    | exact det_ifk _ (det_brec ok (.ret _) (.ret _)) (zero _)
theorem det_lenBk (ts : List TypeId) (x : AV) : Det (lenBk P s ts x) := by
  refine Det.bind (f := nthk 0 ts) (g := fun t k => tyk P t fun d => d.evsli (x.onStr (fun l _ => lbInt k l) (.no 109)) (fun _ => x.sl (lbInt k 0) (fun _ _ n _ => lbInt k n) (fun _ _ n _ => lbInt k n) (zOr x (lbInt k 0) (.no 109))) (fun _ => lenBd P s x k d) (fun _ _ => lenBd P s x k d) (lenBd P s x k d)) (det_nthk 0 ts) fun t => ?_
  refine det_tyk (f := fun d k => d.evsli (x.onStr (fun l _ => lbInt k l) (.no 109)) (fun _ => x.sl (lbInt k 0) (fun _ _ n _ => lbInt k n) (fun _ _ n _ => lbInt k n) (zOr x (lbInt k 0) (.no 109))) (fun _ => lenBd P s x k d) (fun _ _ => lenBd P s x k d) (lenBd P s x k d)) t fun d => ?_
  have bd : ∀ d, Det fun k => lenBd P s x k d := fun d => by
    cases d <;> first
      | exact .ret _
      | exact .no _
      | exact det_tyk (f := fun d k => d.evonArray (fun n _ => lbInt k n) (.no 108)) _ fun d => det_evonArray (f := fun n _ k => lbInt k n) d _ fun _ _ => .ret _
      | (refine det_brec (f := fun k => x.onMap (fun a => mapk s a fun es _ => lenk es fun n => lbInt k n) (.no 109)) (g := fun k => lbInt k 0) _ ?_ (.ret _)
         refine det_onMap (f := fun a k => mapk s a fun es _ => lenk es fun n => lbInt k n) (d := fun _ => .no 109) x (fun a => ?_) (.no _)
         refine det_objk (f := fun o k => o.onMap (fun es _ => lenk es fun n => lbInt k n) (.no 102)) a fun o => det_oMap (f := fun es _ k => lenk es fun n => lbInt k n) o _ fun es _ => ?_
         simp only [lenk_eq]
         exact .ret _)
  exact det_evsli (a := fun k => x.onStr (fun l _ => lbInt k l) (.no 109)) (b := fun _ k => x.sl (lbInt k 0) (fun _ _ n _ => lbInt k n) (fun _ _ n _ => lbInt k n) (zOr x (lbInt k 0) (.no 109))) (c := fun _ k => lenBd P s x k d) (e := fun _ _ k => lenBd P s x k d) (z := fun k => lenBd P s x k d) d
    (det_onStr (f := fun l _ k => lbInt k l) x _ fun _ _ => .ret _)
    (fun _ => det_sl (f := fun k => lbInt k 0) (g := fun _ _ n _ k => lbInt k n) (h := fun _ _ n _ k => lbInt k n) (d := fun k => zOr x (lbInt k 0) (.no 109)) x (.ret _) (fun _ _ _ _ => .ret _) (fun _ _ _ _ => .ret _) (det_zOr x (.ret _) (.no _))) (fun _ => bd d) (fun _ _ => bd d) (bd d)
theorem det_capBk (ts : List TypeId) (x : AV) : Det (capBk P ts x) := by
  rcases det_nthk 0 ts with ⟨t, ht⟩ | ⟨n, hn⟩
  · refine Det.congr (fun k => ht _) ?_
    cases hd : tyAt P t with
    | none => exact Det.congr (fun k => by unfold tyk; rw [hd]; rfl) (.no 20)
    | some d => 
      cases d <;> cases x <;> first
        | exact Det.congr (fun k => by unfold tyk; rw [hd]; rfl) (.ret _)
        | exact Det.congr (fun k => by unfold tyk; rw [hd]; rfl) (.no 110)
  · exact Det.congr (fun k => hn _) (.no n)
end
end Go.Ev

/- Operations that may be done at several places: what they hand on. -/
namespace Go.Ev
open Go

section
variable {P : Program}

/-- frames that tell the same of an operand -/
def SameAt (fr fr' : T AV) (x : Operand) : Prop := ∀ t, x = .tmp t → T.get (adr t) fr = T.get (adr t) fr'
theorem opk_congr {fr fr' : T AV} {x : Operand} (h : SameAt fr fr' x) : opk x P fr = opk x P fr' := by
  cases x with
  | tmp t =>
    funext k
    show Option.rec (motive := fun _ => R) (k .top) k (T.get (adr t) fr) = Option.rec (motive := fun _ => R) (k .top) k (T.get (adr t) fr')
    rw [h t rfl]
  | _ => rfl
theorem opsk_congr {fr fr' : T AV} : ∀ {l : List Operand}, (∀ x ∈ l, SameAt fr fr' x) → opsk l P fr = opsk l P fr' := by
  intro l
  induction l with
  | nil => intro _; rfl
  | cons x l ih =>
    intro h
    funext k
    show opk x P fr (fun a => opsk l P fr fun r => k (a :: r)) = opk x P fr' (fun a => opsk l P fr' fun r => k (a :: r))
    rw [opk_congr (h x (by simp)), ih fun y hy => h y (by simp [hy])]
theorem partsk_congr {fr fr' : T AV} : ∀ {l : List (Nat × Operand)}, (∀ x ∈ l, SameAt fr fr' x.2) → partsk l P fr = partsk l P fr' := by
  intro l
  induction l with
  | nil => intro _; rfl
  | cons x l ih =>
    intro h
    funext k
    show opk x.2 P fr (fun a => partsk l P fr fun r => k ((x.1, a) :: r)) = opk x.2 P fr' (fun a => partsk l P fr' fun r => k ((x.1, a) :: r))
    rw [opk_congr (h x (by simp)), ih fun y hy => h y (by simp [hy])]
theorem onatk_congr {fr fr' : T AV} {o : Option Operand} (h : ∀ x, o = some x → SameAt fr fr' x) : onatk P fr o = onatk P fr' o := by
  cases o with
  | none => rfl
  | some x =>
    funext d k
    show opk x P fr (fun a => natk a k) = opk x P fr' (fun a => natk a k)
    rw [opk_congr (h x rfl)]

/-- how an operation hands on what it gives -/
structure Form (P : Program) (o : Oper) (F : T AV → St → (AV → R) → R) : Prop where
  det : ∀ fr s, Det (F fr s)
  eq : ∀ fr s k, execk o.op P fr s k = F fr s fun v => k (.val v) s
  still : rdB o.op = false → ∀ fr s s', F fr s = F fr s'
  same : ∀ fr fr' s, (∀ x ∈ o.op.operands, SameAt fr fr' x) → F fr s = F fr' s

theorem slicek_congr {fr fr' : T AV} {s : St} {t : TypeId} {lo hi mx : Option Operand} (h1 : ∀ x, lo = some x → SameAt fr fr' x) (h2 : ∀ x, hi = some x → SameAt fr fr' x) (h3 : ∀ x, mx = some x → SameAt fr fr' x) (v : AV) :
    slicek P s t fr v lo hi mx = slicek P s t fr' v lo hi mx := by
  have e1 := onatk_congr (P := P) h1
  have e2 := onatk_congr (P := P) h2
  have e3 := onatk_congr (P := P) h3
  funext k
  cases mx with
  | none => simp only [slicek, slStr, slSl, slNil, slZ, slArr, slEx, slG, e1, e2, e3]
  | some m =>
    have e4 := opk_congr (P := P) (h3 m rfl)
    simp only [slicek, slStr, slSl, slNil, slZ, slArr, slEx, slG, slG3, e1, e2, e3, e4]

def onVal (k : AV → R) : ARes → St → R := fun r _ => match r with
  | .val v => k v
  | _ => .no 0

theorem form_move (dst : Option Tmp) (type : TypeId) (pos : String) (after : Array Edge) (guard : Option (Nat × Bool)) (x : Operand) : ∃ F, Form P ⟨dst, .move x, type, pos, after, guard⟩ F := by
  exact ⟨fun fr _ k => opk x P fr k, fun fr s => det_opk x P fr, fun _ _ _ => rfl, fun _ _ _ _ => rfl, fun fr fr' s hh => by
    have := opk_congr (P := P) (hh x (by simp [Op.operands])); funext k; simp only [this]⟩
theorem form_pick (dst : Option Tmp) (type : TypeId) (pos : String) (after : Array Edge) (guard : Option (Nat × Bool)) (c : Operand) (a : Operand) (b : Operand) : ∃ F, Form P ⟨dst, .pick c a b, type, pos, after, guard⟩ F := by
  exact ⟨fun fr _ k => opk c P fr fun c => c.onBool (fun c => Bool.rec (opk b P fr k) (opk a P fr k) c) (.no 200), fun fr s => Det.bind (det_opk c P fr) fun v => det_onBool (f := fun c k => Bool.rec (opk b P fr k) (opk a P fr k) c) v _ fun t => det_brec (f := opk b P fr) (g := opk a P fr) t (det_opk b P fr) (det_opk a P fr), fun _ _ _ => rfl, fun _ _ _ _ => rfl, fun fr fr' s hh => by
    have h1 := opk_congr (P := P) (hh c (by simp [Op.operands]))
    have h2 := opk_congr (P := P) (hh a (by simp [Op.operands]))
    have h3 := opk_congr (P := P) (hh b (by simp [Op.operands]))
    funext k; simp only [h1, h2, h3]⟩
theorem form_build (dst : Option Tmp) (type : TypeId) (pos : String) (after : Array Edge) (guard : Option (Nat × Bool)) (t : TypeId) (ps : Array (Nat × Operand)) : ∃ F, Form P ⟨dst, .build t ps, type, pos, after, guard⟩ F := by
  refine ⟨fun fr s k => execk (.build t ps) P fr s (onVal k), fun fr s => ?_, fun _ _ _ => rfl, fun _ _ _ _ => rfl, fun fr fr' s hh => ?_⟩
  · show Det fun k => partsk ps.toList P fr fun us => _
    refine Det.bind (det_partsk _ _ _) fun us => ?_
    refine det_tyk _ fun d => ?_
    refine Det.bind (det_zerok t) fun z => ?_
    refine Det.bind (det_cvk z) fun zs => ?_
    cases d <;> first
      | exact .no _
      | exact (det_fillk (det_placeS _) us zs).map AV.agg
      | (refine det_szk _ fun n => ?_
         exact (det_fillk (det_placeA n) us zs).map AV.agg)
  · have := partsk_congr (P := P) (l := ps.toList) (fr := fr) (fr' := fr') fun x hx => hh x.2 (by simp [Op.operands]; exact ⟨_, Array.mem_def.2 hx⟩)
    funext k
    show partsk ps.toList P fr (fun us => _) = partsk ps.toList P fr' (fun us => _)
    rw [this]
theorem form_load (dst : Option Tmp) (type : TypeId) (pos : String) (after : Array Edge) (guard : Option (Nat × Bool)) (t : TypeId) (a : Operand) : ∃ F, Form P ⟨dst, .load t a, type, pos, after, guard⟩ F := by
  exact ⟨fun fr s k => opk a P fr fun a => a.onPtr (fun p off => loadVark P s t p off k) (.no 205), fun fr s => Det.bind (det_opk a P fr) fun v => det_onPtr (f := fun p off k => loadVark P s t p off k) v _ fun _ _ => det_loadVark _ _ _, fun _ _ _ => rfl, fun hr => by (have h' : true = false := hr; cases h'), fun fr fr' s hh => by
    have := opk_congr (P := P) (hh a (by simp [Op.operands])); funext k; simp only [this]⟩
theorem form_nilCheck (dst : Option Tmp) (type : TypeId) (pos : String) (after : Array Edge) (guard : Option (Nat × Bool)) (x : Operand) : ∃ F, Form P ⟨dst, .nilCheck x, type, pos, after, guard⟩ F := by
  exact ⟨fun fr _ k => opk x P fr fun v => v.nilc (fun _ _ => k v) (fun _ _ => k v) (fun fn _ _ => ifk fn.isFunc (k v) (.no 207)) (.no 207), fun fr s => Det.bind (det_opk x P fr) fun v => by
      cases v <;> first | exact .ret _ | exact .no _ | exact det_ifk _ (.ret _) (.no _), fun _ _ _ => rfl, fun _ _ _ _ => rfl, fun fr fr' s hh => by
    have := opk_congr (P := P) (hh x (by simp [Op.operands])); funext k; simp only [this]⟩
theorem form_binOp (dst : Option Tmp) (type : TypeId) (pos : String) (after : Array Edge) (guard : Option (Nat × Bool)) (op : BinOp) (t : TypeId) (x : Operand) (y : Operand) (u : TypeId) : ∃ F, Form P ⟨dst, .binOp op t x y u, type, pos, after, guard⟩ F := by
  refine ⟨fun fr s k => opk x P fr fun a => opk y P fr fun b => binOpk P s op t x y a b k, fun fr s => Det.bind (det_opk x P fr) fun a => Det.bind (det_opk y P fr) fun b => det_binOpk _ _ _ _ _ _, fun _ _ _ => rfl, fun hr fr s s' => ?_, fun fr fr' s hh => ?_⟩
  · have hne : ∀ a b, binOther P s op t a b = binOther P s' op t a b := fun a b => by
      have hn : isEql op = false ∧ isNeq op = false := by cases op <;> first | exact ⟨rfl, rfl⟩ | (have h' : true = false := hr; cases h')
      funext k
      unfold binOther eqOrk
      rw [hn.1, hn.2]
    funext k
    show opk x P fr (fun a => opk y P fr fun b => binOpk P s op t x y a b k) = opk x P fr (fun a => opk y P fr fun b => binOpk P s' op t x y a b k)
    simp only [binOpk, binNil, hne]
  · have h1 := opk_congr (P := P) (hh x (by simp [Op.operands]))
    have h2 := opk_congr (P := P) (hh y (by simp [Op.operands]))
    funext k; simp only [h1, h2]
theorem form_unOp (dst : Option Tmp) (type : TypeId) (pos : String) (after : Array Edge) (guard : Option (Nat × Bool)) (op : UnOp) (t : TypeId) (x : Operand) : ∃ F, Form P ⟨dst, .unOp op t x, type, pos, after, guard⟩ F := by
  exact ⟨fun fr _ k => opk x P fr fun a => unOpk op a k, fun fr s => Det.bind (det_opk x P fr) fun a => det_unOpk _ _, fun _ _ _ => rfl, fun _ _ _ _ => rfl, fun fr fr' s hh => by
    have := opk_congr (P := P) (hh x (by simp [Op.operands])); funext k; simp only [this]⟩
theorem form_makeInterface (dst : Option Tmp) (type : TypeId) (pos : String) (after : Array Edge) (guard : Option (Nat × Bool)) (t : TypeId) (x : Operand) : ∃ F, Form P ⟨dst, .makeInterface t x, type, pos, after, guard⟩ F := by
  refine ⟨fun fr s k => execk (.makeInterface t x) P fr s (onVal k), fun fr s => ?_, fun _ _ _ => rfl, fun _ _ _ _ => rfl, fun fr fr' s hh => ?_⟩
  · show Det fun k => opk x P fr fun us => _
    refine Det.bind (det_opk _ _ _) fun a => ?_
    refine det_tyk _ fun d => ?_
    cases d <;> first
      | exact .no _
      | exact .ret (AV.iface t a)
  · have := opk_congr (P := P) (hh x (by simp [Op.operands]))
    funext k
    show opk x P fr (fun us => _) = opk x P fr' (fun us => _)
    rw [this]
theorem form_makeFunc (dst : Option Tmp) (type : TypeId) (pos : String) (after : Array Edge) (guard : Option (Nat × Bool)) (fn : Fn) (first : Array Operand) (captured : Array Operand) : ∃ F, Form P ⟨dst, .makeFunc fn first captured, type, pos, after, guard⟩ F := by
  refine ⟨fun fr _ k => opsk first.toList P fr fun a => opsk captured.toList P fr fun b => ifk (notYield fn) (k (.func fn a b)) (.no 235), fun fr s => Det.bind (det_opsk _ _ _) fun a => Det.bind (det_opsk _ _ _) fun b => det_ifk _ (.ret _) (.no _), fun _ _ _ => rfl, fun _ _ _ _ => rfl, fun fr fr' s hh => ?_⟩
  have h1 := opsk_congr (P := P) (l := first.toList) (fr := fr) (fr' := fr') fun y hy => hh y (by simp only [Op.operands]; simp; exact .inl (Array.mem_def.2 hy))
  have h2 := opsk_congr (P := P) (l := captured.toList) (fr := fr) (fr' := fr') fun y hy => hh y (by simp only [Op.operands]; simp; exact .inr (Array.mem_def.2 hy))
  funext k; simp only [h1, h2]
theorem form_slice (dst : Option Tmp) (type : TypeId) (pos : String) (after : Array Edge) (guard : Option (Nat × Bool)) (t : TypeId) (x : Operand) (lo : Option Operand) (hi : Option Operand) (mx : Option Operand) : ∃ F, Form P ⟨dst, .slice t x lo hi mx, type, pos, after, guard⟩ F := by
  exact ⟨fun fr s k => opk x P fr fun x => slicek P s t fr x lo hi mx k, fun fr s => Det.bind (det_opk x P fr) fun a => det_slicek _ _ _ _ _ _, fun _ _ _ => rfl, fun hr => by (have h' : true = false := hr; cases h'), fun fr fr' s hh => by
    have h1 := opk_congr (P := P) (hh x (by simp [Op.operands]))
    have h2 := fun v => slicek_congr (P := P) (s := s) (t := t) (fr := fr) (fr' := fr') (lo := lo) (hi := hi) (mx := mx) (fun y hy => hh y (by simp [Op.operands, hy])) (fun y hy => hh y (by simp [Op.operands, hy])) (fun y hy => hh y (by simp [Op.operands, hy])) v
    funext k; simp only [h1, h2]⟩
theorem form_fieldAddr (dst : Option Tmp) (type : TypeId) (pos : String) (after : Array Edge) (guard : Option (Nat × Bool)) (t : TypeId) (x : Operand) (i : Nat) : ∃ F, Form P ⟨dst, .fieldAddr t x i, type, pos, after, guard⟩ F := by
  exact ⟨fun fr _ k => opk x P fr fun a => fieldAddrk P t a i k, fun fr s => Det.bind (det_opk x P fr) fun a => det_fieldAddrk _ _ _, fun _ _ _ => rfl, fun _ _ _ _ => rfl, fun fr fr' s hh => by
    have := opk_congr (P := P) (hh x (by simp [Op.operands])); funext k; simp only [this]⟩
theorem form_field (dst : Option Tmp) (type : TypeId) (pos : String) (after : Array Edge) (guard : Option (Nat × Bool)) (t : TypeId) (x : Operand) (i : Nat) : ∃ F, Form P ⟨dst, .field t x i, type, pos, after, guard⟩ F := by
  exact ⟨fun fr _ k => opk x P fr fun a => fieldAtk P t i fun f => a.onAgg (fun cs => partk P f.type cs f.offset k) (.no 212), fun fr s => Det.bind (det_opk x P fr) fun a => det_fieldAtk (f := fun f k => a.onAgg (fun cs => partk P f.type cs f.offset k) (.no 212)) t i fun f => det_onAgg (f := fun cs k => partk P f.type cs f.offset k) a _ fun cs => det_partk _ _ _, fun _ _ _ => rfl, fun _ _ _ _ => rfl, fun fr fr' s hh => by
    have := opk_congr (P := P) (hh x (by simp [Op.operands])); funext k; simp only [this]⟩
theorem form_indexAddr (dst : Option Tmp) (type : TypeId) (pos : String) (after : Array Edge) (guard : Option (Nat × Bool)) (t : TypeId) (x : Operand) (i : Operand) : ∃ F, Form P ⟨dst, .indexAddr t x i, type, pos, after, guard⟩ F := by
  exact ⟨fun fr _ k => opk x P fr fun x => opk i P fr fun i => indexAddrk P t x i k, fun fr s => Det.bind (det_opk x P fr) fun a => Det.bind (det_opk i P fr) fun b => det_indexAddrk _ _ _, fun _ _ _ => rfl, fun _ _ _ _ => rfl, fun fr fr' s hh => by
    have h1 := opk_congr (P := P) (hh x (by simp [Op.operands]))
    have h2 := opk_congr (P := P) (hh i (by simp [Op.operands]))
    funext k; simp only [h1, h2]⟩
theorem form_index (dst : Option Tmp) (type : TypeId) (pos : String) (after : Array Edge) (guard : Option (Nat × Bool)) (t : TypeId) (x : Operand) (i : Operand) : ∃ F, Form P ⟨dst, .index t x i, type, pos, after, guard⟩ F := by
  exact ⟨fun fr _ k => opk x P fr fun x => opk i P fr fun i => indexk P t x i k, fun fr s => Det.bind (det_opk x P fr) fun a => Det.bind (det_opk i P fr) fun b => det_indexk _ _ _, fun _ _ _ => rfl, fun _ _ _ _ => rfl, fun fr fr' s hh => by
    have h1 := opk_congr (P := P) (hh x (by simp [Op.operands]))
    have h2 := opk_congr (P := P) (hh i (by simp [Op.operands]))
    funext k; simp only [h1, h2]⟩
theorem form_lookup (dst : Option Tmp) (type : TypeId) (pos : String) (after : Array Edge) (guard : Option (Nat × Bool)) (t : TypeId) (x : Operand) (i : Operand) (ok : Bool) : ∃ F, Form P ⟨dst, .lookup t x i ok, type, pos, after, guard⟩ F := by
  exact ⟨fun fr s k => opk x P fr fun x => opk i P fr fun i => lookupk P s t x i ok k, fun fr s => Det.bind (det_opk x P fr) fun a => Det.bind (det_opk i P fr) fun b => det_lookupk _ _ _ _, fun _ _ _ => rfl, fun hr => by (have h' : true = false := hr; cases h'), fun fr fr' s hh => by
    have h1 := opk_congr (P := P) (hh x (by simp [Op.operands]))
    have h2 := opk_congr (P := P) (hh i (by simp [Op.operands]))
    funext k; simp only [h1, h2]⟩
theorem form_typeAssert (dst : Option Tmp) (type : TypeId) (pos : String) (after : Array Edge) (guard : Option (Nat × Bool)) (x : Operand) (a : TypeId) (t : TypeId) (ok : Bool) : ∃ F, Form P ⟨dst, .typeAssert x a t ok, type, pos, after, guard⟩ F := by
  exact ⟨fun fr _ k => opk x P fr fun v => tyk P t fun d => taK P t ok k d v, fun fr s => Det.bind (det_opk x P fr) fun v => det_tyk (f := fun d k => taK P t ok k d v) t fun d => det_taK t ok d v, fun _ _ _ => rfl, fun _ _ _ _ => rfl, fun fr fr' s hh => by
    have := opk_congr (P := P) (hh x (by simp [Op.operands])); funext k; simp only [this]⟩
theorem form_extract (dst : Option Tmp) (type : TypeId) (pos : String) (after : Array Edge) (guard : Option (Nat × Bool)) (x : Operand) (i : Nat) : ∃ F, Form P ⟨dst, .extract x i, type, pos, after, guard⟩ F := by
  exact ⟨fun fr _ k => opk x P fr fun v => v.onTuple (fun vs => nthk i vs k) (.no 217), fun fr s => Det.bind (det_opk x P fr) fun v => det_onTuple (f := fun vs k => nthk i vs k) v _ fun vs => det_nthk _ _, fun _ _ _ => rfl, fun _ _ _ _ => rfl, fun fr fr' s hh => by
    have := opk_congr (P := P) (hh x (by simp [Op.operands])); funext k; simp only [this]⟩
theorem form_of {o : Oper} (h : flB o.op = true) : ∃ F, Form P o F := by
  obtain ⟨dst, op, type, pos, after, guard⟩ := o
  cases op <;> first | (have ho' : false = true := h; cases ho'; done) | skip
  case move x => exact form_move _ _ _ _ _ x
  case pick c a b => exact form_pick _ _ _ _ _ c a b
  case build t ps => exact form_build _ _ _ _ _ t ps
  case load t a => exact form_load _ _ _ _ _ t a
  case nilCheck x => exact form_nilCheck _ _ _ _ _ x
  case binOp op t x y u => exact form_binOp _ _ _ _ _ op t x y u
  case unOp op t x => exact form_unOp _ _ _ _ _ op t x
  case makeInterface t x => exact form_makeInterface _ _ _ _ _ t x
  case makeFunc fn first captured => exact form_makeFunc _ _ _ _ _ fn first captured
  case slice t x lo hi mx => exact form_slice _ _ _ _ _ t x lo hi mx
  case fieldAddr t x i => exact form_fieldAddr _ _ _ _ _ t x i
  case field t x i => exact form_field _ _ _ _ _ t x i
  case indexAddr t x i => exact form_indexAddr _ _ _ _ _ t x i
  case index t x i => exact form_index _ _ _ _ _ t x i
  case lookup t x i ok => exact form_lookup _ _ _ _ _ t x i ok
  case typeAssert x a t ok => exact form_typeAssert _ _ _ _ _ x a t ok
  case extract x i => exact form_extract _ _ _ _ _ x i
  case call c =>
    obtain ⟨callee, args, argTypes⟩ := c
    cases callee <;> first | (have ho' : false = true := h; cases ho'; done) | skip
    case builtin b =>
    have hcong : ∀ fr fr', (∀ x ∈ (Op.call ⟨.builtin b, args, argTypes⟩).operands, SameAt fr fr' x) → opsk args.toList P fr = opsk args.toList P fr' := fun fr fr' hh =>
      opsk_congr fun y hy => hh y (by simp only [Op.operands, Call.operands]; simp; exact Array.mem_def.2 hy)
    cases b <;> first | (have ho' : false = true := h; cases ho'; done) | skip
    case len =>
      refine ⟨fun fr s k => opsk args.toList P fr fun l => l1 l fun x => lenBk P s argTypes.toList x k, fun fr s => Det.bind (det_opsk _ _ _) fun l => ?_, fun _ _ _ => rfl, fun hr => by (have h' : true = false := hr; cases h'), fun fr fr' s hh => ?_⟩
      · cases l with
        | nil => exact .no 120
        | cons x r => cases r with
          | nil => exact det_lenBk _ _
          | cons => exact .no 120
      · have := hcong fr fr' hh
        funext k; simp only [this]
    case cap =>
      refine ⟨fun fr s k => opsk args.toList P fr fun l => l1 l fun x => capBk P argTypes.toList x k, fun fr s => Det.bind (det_opsk _ _ _) fun l => ?_, fun _ _ _ => rfl, fun hr => by (have h' : true = false := hr; cases h'), fun fr fr' s hh => ?_⟩
      · cases l with
        | nil => exact .no 120
        | cons x r => cases r with
          | nil => exact det_capBk _ _
          | cons => exact .no 120
      · have := hcong fr fr' hh
        funext k; simp only [this]
end

section
variable {P : Program}
/-- what a new row is made of -/
structure AllocAt (P : Program) (o : Oper) (fr : T AV) (el : TypeId) (cs : List AV) (mk : Adr → AV) : Prop where
  how : (mk = fun a => .ptr a 0) ∨ ∃ len, mk = fun a => .slice a 0 len len
  eq : ∀ s k, execk o.op P fr s k = k (.val (mk s.nx)) (s.new (.cells el false 0 cs))
theorem AllocAt.same {o : Oper} {fr fr' : T AV} {el : TypeId} {cs : List AV} {mk : Adr → AV} (h : AllocAt P o fr el cs mk) (ha : alB o.op = true) (hs : ∀ x ∈ o.op.operands, SameAt fr fr' x) : AllocAt P o fr' el cs mk := by
  refine ⟨h.how, fun s k => ?_⟩
  refine Eq.trans ?_ (h.eq s k)
  obtain ⟨dst, op, type, pos, after, guard⟩ := o
  cases op <;> first | (have ho' : false = true := ha; cases ho'; done) | skip
  case alloc t => rfl
  case box t x =>
    have := opk_congr (P := P) (hs x (by simp [Op.operands]))
    show opk x P fr' (fun v => _) = opk x P fr (fun v => _)
    rw [this]
  case buildSlice t len ps =>
    have := partsk_congr (P := P) (l := ps.toList) (fr := fr) (fr' := fr') fun x hx => hs x.2 (by simp [Op.operands]; exact ⟨_, Array.mem_def.2 hx⟩)
    show partsk ps.toList P fr' (fun us => _) = partsk ps.toList P fr (fun us => _)
    rw [this]
theorem alloc_at {o : Oper} (ha : alB o.op = true) {fr : T AV} {s : St} {k : ARes → St → R} (e : execk o.op P fr s k = .ok) : ∃ el cs mk, AllocAt P o fr el cs mk := by
  obtain ⟨dst, op, type, pos, after, guard⟩ := o
  cases op <;> first | (have ho' : false = true := ha; cases ho'; done) | skip
  case alloc t =>
    have e : zerok P t (fun z => cvk z fun cs => newk s (.cells t false 0 cs) fun a s => k (.val (.ptr a 0)) s) = .ok := e
    rcases det_zerok (P := P) t with ⟨z, hz⟩ | ⟨n, hn⟩
    · rw [hz] at e
      rcases det_cvk z with ⟨cs, hc⟩ | ⟨n, hn⟩
      · refine ⟨t, cs, fun a => .ptr a 0, .inl rfl, fun s k => ?_⟩
        show zerok P t (fun z => cvk z fun cs => newk s (.cells t false 0 cs) fun a s => k (.val (.ptr a 0)) s) = _
        rw [hz, hc, newk_eq]
      · rw [hn] at e; exact (no_ok e).elim
    · rw [hn] at e; exact (no_ok e).elim
  case box t x =>
    have e : opk x P fr (fun v => cvk v fun cs => newk s (.cells t false 0 cs) fun a s => k (.val (.ptr a 0)) s) = .ok := e
    rcases det_opk x P fr with ⟨z, hz⟩ | ⟨n, hn⟩
    · rw [hz] at e
      rcases det_cvk z with ⟨cs, hc⟩ | ⟨n, hn⟩
      · refine ⟨t, cs, fun a => .ptr a 0, .inl rfl, fun s k => ?_⟩
        show opk x P fr (fun v => cvk v fun cs => newk s (.cells t false 0 cs) fun a s => k (.val (.ptr a 0)) s) = _
        rw [hz, hc, newk_eq]
      · rw [hn] at e; exact (no_ok e).elim
    · rw [hn] at e; exact (no_ok e).elim
  case buildSlice t len ps =>
    rcases det_partsk ps.toList P fr with ⟨us, hz⟩ | ⟨n, hn⟩
    rotate_left
    · exact (no_ok ((hn _).symm.trans e)).elim
    have e1 := (hz _).symm.trans e
    obtain ⟨d, hd, e2⟩ := tyk_at e1
    cases d <;> first | (exact (no_ok (n := 204) e2).elim) | skip
    case slice el =>
    obtain ⟨i0, hi0, e3⟩ := szk_at (show szk P el (fun n => ifk (Nat.ble len 65536 && Nat.ble n 256) (zerok P el fun z => cvk z fun zs => repk len zs fun cs => fillk us (placeA n) cs fun cs => newk s (.cells el false 0 cs) fun a s => k (.val (.slice a 0 len len)) s) (.no 203)) = .ok from e2)
    obtain ⟨hb, e4⟩ := ifk_no e3
    rcases det_zerok (P := P) el with ⟨z, hzz⟩ | ⟨n, hn⟩
    rotate_left
    · rw [hn] at e4; exact (no_ok e4).elim
    rw [hzz] at e4
    rcases det_cvk z with ⟨zs, hc⟩ | ⟨n, hn⟩
    rotate_left
    · rw [hn] at e4; exact (no_ok e4).elim
    rw [hc, repk_eq] at e4
    rcases det_fillk (det_placeA i0.size) us (List.replicate len zs).flatten with ⟨cs, hfl⟩ | ⟨n, hn⟩
    rotate_left
    · rw [hn] at e4; exact (no_ok e4).elim
    refine ⟨el, cs, fun a => .slice a 0 len len, .inr ⟨len, rfl⟩, fun s k => ?_⟩
    refine (hz _).trans ?_
    show tyk P t (fun d => _) = _
    rw [hd]
    show szk P el (fun n => ifk (Nat.ble len 65536 && Nat.ble n 256) (zerok P el fun z => cvk z fun zs => repk len zs fun cs => fillk us (placeA n) cs fun cs => newk s (.cells el false 0 cs) fun a s => k (.val (.slice a 0 len len)) s) (.no 203)) = _
    rw [hi0]
    rw [hb, ifk_eq, if_pos rfl, hzz, hc, repk_eq, hfl, newk_eq]

theorem new_inj {s : St} {o o' : AObj} (h : s.new o = s.new o') : o = o' := by
  have h1 := congrArg (fun t : St => T.get s.nx t.heap) h
  simp only [St.new, T.get_set_self] at h1
  exact Option.some.inj h1

theorem alloc_run {σ : Sg} {s : St} {w : World} (hP : Fit P) {o : Oper} (ha : alB o.op = true) {fr : T AV} {el : TypeId} {cs : List AV} {mk : Adr → AV} (hA : AllocAt P o fr el cs mk) (h : Rep P σ s w) {A : Act} (hf : ∀ x ∈ o.op.operands, Knows σ fr A x) :
    ∃ cells x, RelL σ cs cells.toList ∧ (execOp A.eval o).run P w = .ok (.value x) (w.push (.cells cells el)) ∧ ∀ (τ : Sg) (a : Adr), τ a = .at w.heap.size 0 cells.size → RelV τ (mk a) x := by
  classical
  obtain ⟨kT, hkT⟩ : ∃ kT : ARes → St → R, kT = fun r s' => if r = .val (mk s.nx) ∧ s' = s.new (.cells el false 0 cs) then .ok else .no 0 := ⟨_, rfl⟩
  have e : execk o.op P fr s kT = .ok := by rw [hA.eq, hkT]; exact if_pos ⟨rfl, rfl⟩
  have test : ∀ {r s'}, kT r s' = .ok → r = .val (mk s.nx) ∧ s' = s.new (.cells el false 0 cs) := fun {r s'} h => by
    rw [hkT] at h
    by_cases hc : r = .val (mk s.nx) ∧ s' = s.new (.cells el false 0 cs)
    · exact hc
    · simp only [if_neg hc] at h; cases h
  obtain ⟨dst, op, type, pos, after, guard⟩ := o
  cases op <;> first | (have ho' : false = true := ha; cases ho'; done) | skip
  case alloc t =>
    obtain ⟨i, z, a, hi, hz, e1, hr⟩ := zerok_ok σ (show zerok P t (fun z => cvk z fun cs => newk s (.cells t false 0 cs) fun a s => kT (.val (.ptr a 0)) s) = .ok from e)
    obtain ⟨cs', e2, hcs⟩ := cvk_ok hr e1
    rw [newk_eq] at e2
    obtain ⟨h1, h2⟩ := test e2
    have h3 := new_inj h2
    injection h3 with h4 _ _ h5
    subst h4; subst h5
    have hmk : mk = fun a => .ptr a 0 := by
      rcases hA.how with h | ⟨len, h⟩
      · exact h
      · rw [h] at h1; injection h1 with h1; cases h1
    refine ⟨_, .pointer (some ⟨w.heap.size, 0, none⟩), hcs, ?_, fun τ a hτ => by rw [hmk]; exact .ptr _ _ _ _ _ hτ⟩
    simp only [execOp, Instr.alloc, Sem.run_bind, run_zero hi hz, Result.andThen_ok, newVar, newRow, run_newObj, Sem.run_pure]
    rfl
  case box t x =>
    obtain ⟨v, e1, hr⟩ := opk_ok h.toRepC (hf x (by simp [Op.operands])) (show opk x P fr (fun v => cvk v fun cs => newk s (.cells t false 0 cs) fun a s => kT (.val (.ptr a 0)) s) = .ok from e)
    obtain ⟨cs', e2, hcs⟩ := cvk_ok hr e1
    rw [newk_eq] at e2
    obtain ⟨h1, h2⟩ := test e2
    have h3 := new_inj h2
    injection h3 with h4 _ _ h5
    subst h4; subst h5
    have hmk : mk = fun a => .ptr a 0 := by
      rcases hA.how with h | ⟨len, h⟩
      · exact h
      · rw [h] at h1; injection h1 with h1; cases h1
    refine ⟨_, .pointer (some ⟨w.heap.size, 0, none⟩), hcs, ?_, fun τ a hτ => by rw [hmk]; exact .ptr _ _ _ _ _ hτ⟩
    simp only [execOp, Instr.box, newVar, newRow, Sem.run_bind, run_newObj, Result.andThen_ok, Sem.run_pure]
    rfl
  case buildSlice t len ps =>
    obtain ⟨el', cs', cells, e1, hr, hrun⟩ := exBuildSlice_ok (A := A) (k := kT) hP h (fun p hp => hf p.2 (by simp [Op.operands]; exact ⟨_, Array.mem_def.2 hp⟩)) e
    obtain ⟨h1, h2⟩ := test e1
    have h3 := new_inj h2
    injection h3 with h4 _ _ h5
    subst h4; subst h5
    have hmk : mk = fun a => .slice a 0 len len := by
      rcases hA.how with h | ⟨len', h⟩
      · rw [h] at h1; injection h1 with h1; cases h1
      · rw [h] at h1; injection h1 with h1; cases h1; exact h
    refine ⟨cells, _, hr, ?_, fun τ a hτ => by rw [hmk]; have := RelV.slice (σ := τ) a 0 len len _ _ _ hτ; exact this⟩
    simp only [execOp, Sem.run_bind, hrun, Result.andThen_ok, Sem.run_pure]
end
end Go.Ev
