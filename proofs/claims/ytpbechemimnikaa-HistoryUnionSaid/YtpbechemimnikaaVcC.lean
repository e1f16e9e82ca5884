/-
  The verification-condition generator's operations: for each operation of the model, what it does to a symbolic state (actS).
-/
import Derived.Test.YtpbechemimnikaaVcB
set_option linter.unusedVariables false
set_option linter.unusedSimpArgs false
namespace Go.Vc
open Go

structure Need (p : Unit → Prop) : Prop where
  out : p ()
structure Tru (x : Unit → Bool) : Prop where
  out : x () = true
structure Fls (x : Unit → Bool) : Prop where
  out : x () = false
structure Hyp (p : Unit → Prop) : Prop where
  out : p ()

/-! ## One symbolic value says no less than another one -/
mutual
inductive Le : SV → SV → Prop
  | refl (x : SV) : Le x x
  | any (x : SV) : Le x .any
  | b {x y : Unit → Bool} : x () = y () → Le (.b x) (.b y)
  | bc {c : Bool} {y : Unit → Bool} : c = y () → Le (.bc c) (.b y)
  | b_bc {x : Unit → Bool} {c : Bool} : x () = c → Le (.b x) (.bc c)
  | i {k : IntKind} {x y : Unit → Int} : x () = y () → Le (.i k x) (.i k y)
  | ic {k : IntKind} {n : Int} {y : Unit → Int} : n = y () → Le (.ic k n) (.i k y)
  | i_ic {k : IntKind} {x : Unit → Int} {n : Int} : x () = n → Le (.i k x) (.ic k n)
  | str {x y : Unit → ByteArray} : x () = y () → Le (.str x) (.str y)
  | v {x y : Unit → Value} : x () = y () → Le (.v x) (.v y)
  | agg {cs ds : List SV} : LeL cs ds → Le (.agg cs) (.agg ds)
  | tup {cs ds : List SV} : LeL cs ds → Le (.tup cs) (.tup ds)
  | sl {T : Type} {sz : Nat} {c : T → List SV} {xs ys : Unit → List T} : xs () = ys () → Le (.sl sz c xs) (.sl sz c ys)
  | nils {T : Type} {sz : Nat} {c : T → List SV} {ys : Unit → List T} : ys () = [] → (∀ x, LFL (c x)) → Le .nils (.sl sz c ys)
  | lst {T : Type} {cs : List SV} {n sz : Nat} {c : T → List SV} {ys : Unit → List T} : (ys ()).length = n → (∀ y ∈ ys (), (c y).length = sz) → (∀ x, LFL (c x)) →
      LeL cs ((ys ()).flatMap c) → Le (.lst cs n) (.sl sz c ys)
  | spt {cs ds : List SV} {off : Nat} : LeL cs ds → Le (.spt cs off) (.spt ds off)
  | ept {l sz : Nat} {i j : Unit → Nat} {off : Nat} : i () = j () → Le (.ept l sz i off) (.ept l sz j off)
  | osl {l sz : Nat} {m n m' n' : Unit → Nat} : m () = m' () → n () = n' () → Le (.osl l sz m n) (.osl l sz m' n')
  | mp {T : Type} {k : IntKind} {c : T → List SV} {m m' : Unit → Int → Option T} : m () = m' () → Le (.mp k c m) (.mp k c m')
  | csl {T : Type} {sz : Nat} {c : T → List SV} {xs ys : Unit → List T} : xs () = ys () → Le (.csl sz c xs) (.csl sz c ys)
  | cslsl {T : Type} {sz : Nat} {c : T → List SV} {xs ys : Unit → List T} : xs () = ys () → Le (.csl sz c xs) (.sl sz c ys)
  | nilm {T : Type} {k : IntKind} {c : T → List SV} {x : Unit → Value} {m : Unit → Int → Option T} : x () = .map none → (∀ n, m () n = none) → (∀ x, LFL (c x)) → Le (.v x) (.mp k c m)
  | fn {f : Fn} {cs ds cs' ds' : List SV} : LeL cs ds → LeL cs' ds' → Le (.fn f cs cs') (.fn f ds ds')
inductive LeL : List SV → List SV → Prop
  | nil : LeL [] []
  | cons {x y : SV} {xs ys : List SV} : Le x y → LeL xs ys → LeL (x :: xs) (y :: ys)
end

theorem relL_split {η : Nat → Value} {q : Nat → Live} {H : Heap} {s s' : List SV} {v : List Value} (h : relL η q H (s ++ s') v) :
    relL η q H s (v.take s.length) ∧ relL η q H s' (v.drop s.length) := by
  have h1 := relL_take h s.length
  have h2 := relL_drop h s.length
  simp only [List.take_left, List.drop_left] at h1 h2
  exact ⟨h1, h2⟩

theorem relL_flatMap_get {η : Nat → Value} {q : Nat → Live} {H : Heap} {T : Type} {c : T → List SV} {sz : Nat} :
    ∀ {xs : List T} {v : List Value}, (∀ x ∈ xs, (c x).length = sz) → relL η q H (xs.flatMap c) v → ∀ (j : Nat) (x : T), xs[j]? = some x →
      relL η q H (c x) ((v.drop (j * sz)).take sz)
  | [], v, _, _, j, x, hx => by simp at hx
  | y :: r, v, hl, h, j, x, hx => by
    have hy : (c y).length = sz := hl y (by simp)
    rw [List.flatMap_cons] at h
    obtain ⟨h1, h2⟩ := relL_split h
    rw [hy] at h1 h2
    cases j with
    | zero => simp at hx; subst hx; simpa using h1
    | succ j =>
      have := relL_flatMap_get (fun x hx => hl x (by simp [hx])) h2 j x (by simpa using hx)
      rw [List.drop_drop] at this
      rw [show (j + 1) * sz = sz + j * sz by rw [Nat.add_mul]; omega]
      exact this

mutual
theorem rel_le {η : Nat → Value} {q : Nat → Live} {H : Heap} : ∀ {x y : SV}, Le x y → ∀ {v : Value}, rel η q H x v → rel η q H y v
  | _, _, .refl _, _, h => h
  | _, _, .any _, _, _ => by simp [rel]
  | _, _, .b e, _, h => by simp only [rel] at h ⊢; rw [← e]; exact h
  | _, _, .bc e, _, h => by simp only [rel] at h ⊢; rw [← e]; exact h
  | _, _, .b_bc e, _, h => by simp only [rel] at h ⊢; rw [← e]; exact h
  | _, _, .i e, _, h => by simp only [rel] at h ⊢; rw [← e]; exact h
  | _, _, .ic e, _, h => by simp only [rel] at h ⊢; rw [← e]; exact h
  | _, _, .i_ic e, _, h => by simp only [rel] at h ⊢; rw [← e]; exact h
  | _, _, .str e, _, h => by simp only [rel] at h ⊢; rw [← e]; exact h
  | _, _, .v e, _, h => by simp only [rel] at h ⊢; rw [← e]; exact h
  | _, _, .agg e, _, h => by
    simp only [rel] at h ⊢
    obtain ⟨vs, h1, h2⟩ := h
    exact ⟨vs, h1, relL_le e h2⟩
  | _, _, .tup e, _, h => by
    simp only [rel] at h ⊢
    obtain ⟨vs, h1, h2⟩ := h
    exact ⟨vs, h1, relL_le e h2⟩
  | _, _, .sl e, _, h => by simp only [rel] at h ⊢; rw [← e]; exact h
  | _, _, .nils e hlf, _, h => by simp only [rel] at h ⊢; rw [e]; exact ⟨⟨none, 0, h, by simp, .inl rfl⟩, hlf⟩
  | _, _, @Le.lst T cs n sz c ys e1 e2 hlf e3, _, h => by
    simp only [rel] at h ⊢
    obtain ⟨ad, h1, h2⟩ := h
    refine ⟨⟨ad, n, by rw [e1]; exact h1, by omega, ?_⟩, hlf⟩
    rcases h2 with h2 | ⟨a, h3, h4, vals, h5, h6⟩
    · left; exact List.eq_nil_of_length_eq_zero (by omega)
    · right
      refine ⟨a, h3, h4, fun j x hx => ?_⟩
      have h7 := relL_le e3 h5
      have h8 := relL_flatMap_get e2 h7 j x hx
      refine ⟨_, ?_, h8, ?_⟩
      · rw [relL_length h8]; exact e2 x (List.mem_of_getElem? hx)
      · intro i u hu
        rw [List.getElem?_take] at hu
        split at hu
        · rw [List.getElem?_drop] at hu
          have := h6 _ u hu
          rwa [← Nat.add_assoc] at this
        · cases hu
  | _, _, .spt e, _, h => by
    simp only [rel] at h ⊢
    obtain ⟨a, h1, vals, h2, h3⟩ := h
    exact ⟨a, h1, vals, relL_le e h2, h3⟩
  | _, _, .ept e, _, h => by simp only [rel] at h ⊢; rw [← e]; exact h
  | _, _, .osl e e', _, h => by simp only [rel] at h ⊢; rw [← e, ← e']; exact h
  | _, _, .mp e, _, h => by simp only [rel] at h ⊢; rw [← e]; exact h
  | _, _, .csl e, _, h => by simp only [rel] at h ⊢; rw [← e]; exact h
  | _, _, .cslsl e, _, h => by
    simp only [rel] at h ⊢
    rw [← e]
    obtain ⟨⟨ad, h1, h2⟩, hlf⟩ := h
    exact ⟨⟨ad, _, h1, Nat.le_refl _, h2⟩, hlf⟩
  | _, _, .nilm e e' hlf, _, h => by simp only [rel] at h ⊢; exact ⟨.inl ⟨h.trans e, e'⟩, hlf⟩
  | _, _, .fn e e', _, h => by
    simp only [rel] at h ⊢
    obtain ⟨fs, cs, h1, h2, h3⟩ := h
    exact ⟨fs, cs, h1, relL_le e h2, relL_le e' h3⟩
theorem relL_le {η : Nat → Value} {q : Nat → Live} {H : Heap} : ∀ {x y : List SV}, LeL x y → ∀ {v : List Value}, relL η q H x v → relL η q H y v
  | _, _, .nil, _, h => h
  | _, _, .cons e r, _, h => by
    simp only [relL] at h ⊢
    obtain ⟨u, us, h1, h2, h3⟩ := h
    exact ⟨u, us, h1, rel_le e h2, relL_le r h3⟩
end

/-! ## The tables -/
inductive TD where
  | int (k : IntKind)
  | bool
  | str
  | sl (e : TypeId)
  | ptr (e : TypeId)
  | st (fs : List (TypeId × Nat × Nat))
  | arr (n : Nat) (e : TypeId)
  | map (k v : TypeId)
  | other

structure TI where
  d : TD
  size : Nat
  bytes : Nat
  zero : Value
  /-- '==' compares the cells, one by one. -/
  flat : Bool := false

def TI.agg (i : TI) : Bool := match i.d with | .st _ | .arr _ _ => true | _ => false

/-- Two cells that '==' compares. -/
def eqVal : Value → Value → Bool
  | .bool a, .bool b => a == b
  | .int k a, .int k' b => a == b
  | .string a, .string b => a == b
  | _, _ => false
def eqVals : List Value → List Value → Bool
  | a :: as, b :: bs => eqVal a b && eqVals as bs
  | _, _ => true
/-- Cells of one kind each. -/
def likeVal : Value → Value → Bool
  | .bool _, .bool _ => true
  | .int k _, .int k' _ => k == k'
  | .string _, .string _ => true
  | _, _ => false
def likeVals : List Value → List Value → Bool
  | a :: as, b :: bs => likeVal a b && likeVals as bs
  | [], [] => true
  | _, _ => false

structure TIok (P : Program) (t : TypeId) (i : TI) : Prop where
  info : ∃ inf, P.info? t = some inf ∧ inf.size = i.size ∧ inf.bytes = i.bytes ∧ inf.zero = some i.zero
  zsize : i.zero.cells.size = i.size
  pos : 0 < i.size
  desc : match i.d with
    | .int k => P.underlying t = some (.int k)
    | .bool => P.underlying t = some .bool
    | .str => P.underlying t = some .string
    | .sl e => P.underlying t = some (.slice e)
    | .ptr e => P.underlying t = some (.pointer e)
    | .st gs => ∃ fs : Array Field, P.underlying t = some (.struct fs) ∧ fs.size = gs.length ∧
        ∀ (j : Nat) (f : Field), fs[j]? = some f → ∃ inf, P.info? f.type = some inf ∧ inf.size ≠ 0 ∧ gs[j]? = some (f.type, f.offset, inf.size)
    | .arr n e => P.underlying t = some (.array n e)
    | .map k v => P.underlying t = some (.map k v)
    | .other => ∃ d, P.underlying t = some d ∧ (∀ x, d ≠ .struct x) ∧ (∀ n e, d ≠ .array n e)
  flat : i.flat = true → i.agg = true ∧ ∀ (vs us : List Value) (w : World), vs.length = i.size → us.length = i.size →
    likeVals vs us = true → likeVals vs i.zero.cells.toList = true → ∀ op x y, (op = .eql ∨ op = .neq) →
    (do eqGuard op t x y (.agg vs.toArray) (.agg us.toArray); binOp op t (.agg vs.toArray) (.agg us.toArray) : Sem Value).run P w =
      .ok (.bool (if op = .eql then eqVals vs us else !eqVals vs us)) w

/-- How the elements of slices of a type are told: a type of Lean's, the cells of an element, the zero. -/
structure Elt : Type 1 where
  T : Type
  c : T → List SV
  z : T

structure Spec : Type 1 where
  α : Type
  args : α → List SV
  pre : α → Prop
  res : α → SV

structure Ctx : Type 1 where
  tt : TypeId → Option TI
  el : TypeId → Option Elt
  sp : FuncId → Option Spec
  inl : FuncId → Option Func
  /-- The statements ahead of which the generator stops, for the prover to turn the state. -/
  cut : Nat → Bool := fun _ => false
  /-- The functions walked into whose loops are left to the prover. -/
  lp : FuncId → Bool := fun _ => false

def Heap.inW (H : Heap) (w : World) : Prop := ∀ b o, H b = some o → w.heap[b]? = some o

structure FnOk (P : Program) (f : FuncId) (fn : Func) : Prop where
  get : P.funcs[f]? = some fn
  body : fn.body.isSome = true
  name : (fn.name == "runtime.NumGoroutine") = false

/-- What a function's specification says. -/
structure SpecOk (P : Program) (f : FuncId) (S : Spec) : Prop where
  fn : ∃ fn, FnOk P f fn
  lf : ∀ a, LFL (S.args a)
  lr : ∀ a, LF (S.res a)
  run : ∀ a, S.pre a → ∀ (H F : Heap) (w : World) (vals : List Value), H.inW w → F.inW w → relHL H (S.args a) vals →
    Calls P f vals.toArray w fun e w' => ∃ v H', e = .returned v ∧ H.le H' ∧ H'.inW w' ∧ F.inW w' ∧
      (∀ b, H' b ≠ none → H b ≠ none ∨ F b = none) ∧ relH H' (S.res a) v ∧ w'.os = w.os ∧ w'.tape = w.tape ∧ w'.output = w.output

structure EltOk (P : Program) (X : Ctx) (t : TypeId) (E : Elt) : Prop where
  ti : ∃ i, X.tt t = some i
  len : ∀ i, X.tt t = some i → ∀ x, (E.c x).length = i.size
  lf : ∀ x, LFL (E.c x) ∧ (E.c x).all SV.one = true
  zero : ∀ i, X.tt t = some i → ∀ H, relHL H (E.c E.z) i.zero.cells.toList

structure Ctx.Ok (P : Program) (X : Ctx) : Prop where
  tt : ∀ t i, X.tt t = some i → TIok P t i
  el : ∀ t E, X.el t = some E → EltOk P X t E
  sp : ∀ f S, X.sp f = some S → SpecOk P f S
  inl : ∀ f fn, X.inl f = some fn → FnOk P f fn
  mixed : P.follows .mixedOrders = true

/-! ## Symbolic values: small functions -/
def ofV1 : Value → SV
  | .bool c => .bc c
  | .int k n => .ic k n
  | .string s => .str fun _ => s
  | .slice none 0 0 => .nils
  | v => .v fun _ => v
def ofV : Value → SV
  | .agg cs => .agg (cs.toList.map ofV1)
  | v => ofV1 v

def ev (s : St) : Operand → SV
  | .tmp t => (s.t[t]?).getD .any
  | .const v => ofV v
  | .global g => .v fun _ => .pointer (some ⟨g, 0, none⟩)
  | .func f => .fn (.func f) [] []

/-- The cells of a value. -/
def SV.cells? : SV → Option (List SV)
  | .agg cs => if cs.all SV.one then some cs else none
  | x => if x.one then some [x] else none

def SV.toB : SV → Option (Unit → Bool)
  | .bc c => some fun _ => c
  | .b x => some x
  | _ => none
def SV.toI : SV → Option (IntKind × (Unit → Int))
  | .ic k n => some (k, fun _ => n)
  | .i k n => some (k, n)
  | _ => none

/-- What a label is to a reader. -/
def viewF (b : List Slot) : Nat → SV → SV
  | 0, x => x
  | n + 1, .own l => match b[l]? with
    | some (.dyn e sz c xs) => .sl sz c xs
    | _ => .own l
  | n + 1, .osl l sz m k => match b[l]? with
    | some (.dyn e sz' c xs) => (match Nat.beq sz sz' with
      | true => .sl sz' c fun _ => ((xs ()).take (k ())).drop (m ())
      | false => .osl l sz m k)
    | _ => .osl l sz m k
  | n + 1, .ptr l off => match b[l]? with
    | some (.fix e cs) => .spt (cs.map (viewF b n)) off
    | _ => .ptr l off
  | n + 1, .mown l => match b[l]? with
    | some (.map k c m) => .mp k c m
    | _ => .mown l
  | n + 1, .fn f xs ys => .fn f (xs.map (viewF b n)) (ys.map (viewF b n))
  | n + 1, .agg cs => .agg (cs.map (viewF b n))
  | n + 1, .tup cs => .tup (cs.map (viewF b n))
  | n + 1, x => x
def view (b : List Slot) : SV → SV := viewF b 4

mutual
def SV.scalar : SV → Bool
  | .bc _ | .b _ | .ic .. | .i .. | .str _ => true
  | .tup cs => scalars cs
  | .agg cs => scalars cs
  | _ => false
def scalars : List SV → Bool
  | [] => true
  | x :: r => x.scalar && scalars r
end

inductive Act1 : Type 1 where
  | fail
  | pure (x : SV) (u : List (Nat × Slot))
  | need (p : Unit → Prop) (x : SV) (u : List (Nat × Slot))
  | ex (T : Type) (p : T → Prop) (x : T → SV) (u : T → List (Nat × Slot))

def Act1.K : Act1 → (SV → List (Nat × Slot) → Prop) → Prop
  | .fail, _ => False
  | .pure x u, k => k x u
  | .need p x u, k => Need p ∧ k x u
  | .ex T p x u, k => ∃ t, Need (fun _ => p t) ∧ k (x t) (u t)

def setSlots (b : List Slot) : List (Nat × Slot) → List Slot
  | [] => b
  | (l, x) :: r => setSlots (b.set l x) r
def St.upd (s : St) (dst : Option Tmp) (x : SV) (u : List (Nat × Slot)) : St :=
  { t := match dst with | some d => s.t.set d x | none => s.t, b := setSlots s.b u }

/-! ## The operations -/
def intArithF : BinOp → IntKind → Int → Int → Option Int
  | .add, k, x, y => some (k.wrap (x + y))
  | .sub, k, x, y => some (k.wrap (x - y))
  | .mul, k, x, y => some (k.wrap (x * y))
  | _, _, _, _ => none
def ltB (x y : Int) : Bool := decide (x < y)
def leB (x y : Int) : Bool := decide (x ≤ y)
def eqB (x y : Int) : Bool := x == y
def bitF (op : BinOp) (k : IntKind) (x y : Int) : Int :=
  k.wrap (match op with
    | .and => (BitVec.ofInt k.bits x &&& BitVec.ofInt k.bits y).toNat
    | .or => (BitVec.ofInt k.bits x ||| BitVec.ofInt k.bits y).toNat
    | .xor => (BitVec.ofInt k.bits x ^^^ BitVec.ofInt k.bits y).toNat
    | _ => (BitVec.ofInt k.bits x &&& ~~~ BitVec.ofInt k.bits y).toNat : Nat)

def eqSV : SV → SV → Option (Unit → Bool)
  | .bc a, .bc b => some fun _ => a == b
  | .bc a, .b y => some fun _ => a == y ()
  | .b x, .bc b => some fun _ => x () == b
  | .b x, .b y => some fun _ => x () == y ()
  | .ic k a, .ic k' b => if k = k' then some fun _ => a == b else none
  | .ic k a, .i k' y => if k = k' then some fun _ => a == y () else none
  | .i k x, .ic k' b => if k = k' then some fun _ => x () == b else none
  | .i k x, .i k' y => if k = k' then some fun _ => x () == y () else none
  | .str x, .str y => some fun _ => x () == y ()
  | _, _ => none
def eqSVs : List SV → List SV → Option (Unit → Bool)
  | [], [] => some fun _ => true
  | x :: xs, y :: ys => match eqSV x y, eqSVs xs ys with
    | some f, some g => some fun _ => f () && g ()
    | _, _ => none
  | _, _ => none

def binLit (op : BinOp) (k : IntKind) (a b : Int) : Act1 :=
  match op with
  | .add => .pure (.ic k (k.wrap (a + b))) []
  | .sub => .pure (.ic k (k.wrap (a - b))) []
  | .mul => .pure (.ic k (k.wrap (a * b))) []
  | .eql => .pure (.bc (eqB a b)) []
  | .neq => .pure (.bc (!eqB a b)) []
  | .lss => .pure (.bc (ltB a b)) []
  | .leq => .pure (.bc (leB a b)) []
  | .gtr => .pure (.bc (ltB b a)) []
  | .geq => .pure (.bc (leB b a)) []
  | _ => .fail
def binInt (op : BinOp) (k : IntKind) (x y : Unit → Int) : Act1 :=
  match op with
  | .add => .pure (.i k fun _ => k.wrap (x () + y ())) []
  | .sub => .pure (.i k fun _ => k.wrap (x () - y ())) []
  | .mul => .pure (.i k fun _ => k.wrap (x () * y ())) []
  | .quo => .need (fun _ => y () ≠ 0) (.i k fun _ => k.wrap ((x ()).tdiv (y ()))) []
  | .rem => .need (fun _ => y () ≠ 0) (.i k fun _ => (x ()).tmod (y ())) []
  | .and => .pure (.i k fun _ => bitF .and k (x ()) (y ())) []
  | .or => .pure (.i k fun _ => bitF .or k (x ()) (y ())) []
  | .xor => .pure (.i k fun _ => bitF .xor k (x ()) (y ())) []
  | .andNot => .pure (.i k fun _ => bitF .andNot k (x ()) (y ())) []
  | .eql => .pure (.b fun _ => eqB (x ()) (y ())) []
  | .neq => .pure (.b fun _ => !eqB (x ()) (y ())) []
  | .lss => .pure (.b fun _ => ltB (x ()) (y ())) []
  | .leq => .pure (.b fun _ => leB (x ()) (y ())) []
  | .gtr => .pure (.b fun _ => ltB (y ()) (x ())) []
  | .geq => .pure (.b fun _ => leB (y ()) (x ())) []
  | _ => .fail
def strLess (x y : ByteArray) : Bool := Op.bytesLess x.toList y.toList
def strEq (x y : ByteArray) : Bool := x.toList == y.toList
def isShift : BinOp → Bool
  | .shl | .shr => true
  | _ => false
def isLitOp : BinOp → Bool
  | .add | .sub | .mul | .eql | .neq | .lss | .leq | .gtr | .geq => true
  | _ => false

/-- Of two slices, one of them surely nil: what is known if both are. -/
def nilCmp : SV → SV → Option (Unit → Prop)
  | .sl sz c xs, .nils => some fun _ => xs () = []
  | .nils, .sl sz c xs => some fun _ => xs () = []
  | .own _, .nils => some fun _ => True
  | .nils, .own _ => some fun _ => True
  | _, _ => none

/-- Of two maps, one of them surely nil: whether the other one is. -/
def nilMap : SV → SV → Option (Bool × (Unit → Prop))
  | .v a, .v b => some (true, fun _ => a () = .map none ∧ b () = .map none)
  | .mp k c m, .v b => some (false, fun _ => b () = .map none ∧ ∃ n, m () n ≠ none)
  | .v a, .mp k c m => some (false, fun _ => a () = .map none ∧ ∃ n, m () n ≠ none)
  | _, _ => none

def aBin (X : Ctx) (op : BinOp) (t : TypeId) (x y : SV) : Act1 :=
  match isShift op with
  | true => match x.toI, y.toI with
    | some (k, m), some (_, n) =>
      .need (fun _ => 0 ≤ n ()) (.i k fun _ => match op with
        | .shl => k.wrap (m () * 2 ^ (min (n ()).toNat k.bits))
        | _ => (m ()).fdiv (2 ^ (min (n ()).toNat k.bits))) []
    | _, _ => .fail
  | false => match isLitOp op, x, y with
    | true, .ic k a, .ic k' b => if k = k' then binLit op k a b else .fail
    | _, x, y => match x.toI, y.toI with
      | some (k, m), some (k', n) => if k = k' then binInt op k m n else .fail
      | _, _ => match x, y with
        | .str m, .str n => match op with
          | .add => .need (fun _ => (m ()).size + (n ()).size < 9223372036854775808) (.str fun _ => m () ++ n ()) []
          | .eql => .pure (.b fun _ => strEq (m ()) (n ())) []
          | .neq => .pure (.b fun _ => !strEq (m ()) (n ())) []
          | .lss => .pure (.b fun _ => strLess (m ()) (n ())) []
          | .leq => .pure (.b fun _ => strLess (m ()) (n ()) || strEq (m ()) (n ())) []
          | .gtr => .pure (.b fun _ => !(strLess (m ()) (n ()) || strEq (m ()) (n ()))) []
          | .geq => .pure (.b fun _ => !strLess (m ()) (n ())) []
          | _ => .fail
        | .agg cs, .agg ds => match X.tt t with
          | some i => if i.flat && cs.length == i.size && ds.length == i.size then match eqSVs cs ds, eqSVs cs (i.zero.cells.toList.map ofV1) with
              | some f, some _ => match op with
                | .eql => .pure (.b f) []
                | .neq => .pure (.b fun _ => !f ()) []
                | _ => .fail
              | _, _ => .fail
            else .fail
          | none => .fail
        | x, y => match X.tt t with
          | some i => match i.d with
            | .bool => match eqSV x y, x.toB, y.toB with
              | some f, some _, some _ => match op with
                | .eql => .pure (.b f) []
                | .neq => .pure (.b fun _ => !f ()) []
                | _ => .fail
              | _, _, _ => .fail
            | .map _ _ => match nilMap x y with
              | some (d, p) => match op with
                | .eql => .need p (.bc d) []
                | .neq => .need p (.bc (!d)) []
                | _ => .fail
              | none => .fail
            | .sl _ => match nilCmp x y with
              | some p => match op with
                | .eql => .pure (.nb true p) []
                | .neq => .pure (.nb false p) []
                | _ => .fail
              | none => match x, y, op with
                | .nils, .nils, .eql => .pure (.bc true) []
                | .nils, .nils, .neq => .pure (.bc false) []
                | _, _, _ => .fail
            | _ => .fail
          | none => .fail

def aUn (op : UnOp) (x : SV) : Act1 :=
  match op, x with
  | .not, .bc c => .pure (.bc (!c)) []
  | .not, .b x => .pure (.b fun _ => !x ()) []
  | .not, .nb d p => .pure (.nb (!d) p) []
  | .neg, .ic k n => .pure (.ic k (k.wrap (0 - n))) []
  | .neg, .i k n => .pure (.i k fun _ => k.wrap (0 - n ())) []
  | _, _ => .fail

def aPick (c a b : SV) : Act1 :=
  match c with
  | .bc true => .pure a []
  | .bc false => .pure b []
  | .b x => match a.toB, b.toB with
    | some f, some g => .pure (.b fun _ => if x () then f () else g ()) []
    | _, _ => .fail
  | _ => .fail

def aConv (X : Ctx) (src dst : TypeId) (x : SV) : Act1 :=
  match X.tt src, X.tt dst with
  | some i, some j => match j.d, x with
    | .int k, .ic _ n => .pure (.ic k (k.wrap n)) []
    | .int k, .i _ n => .pure (.i k fun _ => k.wrap (n ())) []
    | .str, .str x => .pure (.str x) []
    | _, _ => .fail
  | _, _ => .fail

/-- Reading a variable of a type out of cells, at a place. -/
def getAt (i : TI) (cs : List SV) (off : Nat) : Option SV :=
  if off + i.size ≤ cs.length then
    if i.agg then some (.agg ((cs.drop off).take i.size)) else cs[off]?
  else none

def aLoad (X : Ctx) (b : List Slot) (t : TypeId) (x : SV) : Act1 :=
  match X.tt t with
  | none => .fail
  | some i => match x with
    | .ptr l off => match b[l]? with
      | some (.fix e cs) => match getAt i cs off with
        | some v => .pure v []
        | none => .fail
      | _ => .fail
    | .spt cs off => match getAt i cs off with
      | some v => .pure v []
      | none => .fail
    | .ept l sz j off => match b[l]? with
      | some (@Slot.dyn T e sz' c xs) => if sz = sz' then
          .ex T (fun x => (xs ())[j ()]? = some x ∧ (getAt i (c x) off).isSome = true) (fun x => (getAt i (c x) off).getD .any) (fun _ => [])
        else .fail
      | _ => .fail
    | _ => .fail

def putCells : List SV → Nat → List SV → List SV
  | cs, _, [] => cs
  | cs, o, x :: xs => putCells (cs.set o x) (o + 1) xs

def aStore (X : Ctx) (b : List Slot) (t : TypeId) (x y : SV) : Act1 :=
  match X.tt t, y.cells? with
  | some i, some ys => if ys.length = i.size then match x with
    | .ptr l off => match b[l]? with
      | some (.fix e cs) => if off + i.size ≤ cs.length then .pure .any [(l, .fix e (putCells cs off ys))] else .fail
      | _ => .fail
    | .ept l sz j off => match b[l]? with
      | some (@Slot.dyn T e sz' c xs) => if sz = sz' ∧ off + i.size ≤ sz then
          .ex (T × T) (fun p => (xs ())[j ()]? = some p.1 ∧ (c p.2).length = sz ∧ LeL (putCells (c p.1) off ys) (c p.2)) (fun _ => .any)
            (fun p => [(l, .dyn e sz' c fun _ => (xs ()).set (j ()) p.2)])
        else .fail
      | _ => .fail
    | _ => .fail
    else .fail
  | _, _ => .fail

def aFieldAddr (X : Ctx) (t : TypeId) (x : SV) (j : Nat) : Act1 :=
  match X.tt t with
  | some i => match i.d with
    | .st fs => match fs[j]? with
      | some (_, o, _) => match x with
        | .ptr l off => .pure (.ptr l (off + o)) []
        | .spt cs off => .pure (.spt cs (off + o)) []
        | .ept l sz k off => .pure (.ept l sz k (off + o)) []
        | _ => .fail
      | none => .fail
    | _ => .fail
  | none => .fail

def aIndexAddr (X : Ctx) (b : List Slot) (t : TypeId) (x ix : SV) : Act1 :=
  match X.tt t with
  | none => .fail
  | some i => match i.d with
    | .arr n e => match X.tt e, ix with
      | some j, .ic k m => if 0 ≤ m ∧ m.toNat < n then match x with
        | .ptr l off => .pure (.ptr l (off + m.toNat * j.size)) []
        | .spt cs off => .pure (.spt cs (off + m.toNat * j.size)) []
        | .ept l sz p off => .pure (.ept l sz p (off + m.toNat * j.size)) []
        | _ => .fail
        else .fail
      | some j, .i k m => (match x with
        | .ptr l off => .ex Nat (fun g => m () = (g : Int) ∧ g < n) (fun g => .ptr l (off + g * j.size)) (fun _ => [])
        | .spt cs off => .ex Nat (fun g => m () = (g : Int) ∧ g < n) (fun g => .spt cs (off + g * j.size)) (fun _ => [])
        | .ept l sz p off => .ex Nat (fun g => m () = (g : Int) ∧ g < n) (fun g => .ept l sz p (off + g * j.size)) (fun _ => [])
        | _ => .fail)
      | _, _ => .fail
    | .sl e => match X.tt e, ix.toI with
      | some j, some (k, m) => match x with
        | @SV.sl T sz c xs => if sz = j.size then
            .ex T (fun y => 0 ≤ m () ∧ (xs ())[(m ()).toNat]? = some y) (fun y => .spt (c y) 0) (fun _ => [])
          else .fail
        | .own l => match b[l]? with
          | some (.dyn e' sz c xs) => if sz = j.size then
              .need (fun _ => 0 ≤ m () ∧ (m ()).toNat < (xs ()).length) (.ept l sz (fun _ => (m ()).toNat) 0) []
            else .fail
          | _ => .fail
        | .osl l sz g h => match b[l]? with
          | some (.dyn e' sz' c xs) => if sz = j.size then
              .need (fun _ => 0 ≤ m () ∧ (m ()).toNat < h () - g ()) (.ept l sz (fun _ => g () + (m ()).toNat) 0) []
            else .fail
          | _ => .fail
        | .lst cs n => match ix with
          | .ic _ m => if 0 ≤ m ∧ m.toNat < n ∧ cs.length = n * j.size then .pure (.spt ((cs.drop (m.toNat * j.size)).take j.size) 0) [] else .fail
          | _ => .fail
        | _ => .fail
      | _, _ => .fail
    | _ => .fail

def selI (k : IntKind) : List SV → Option (List (Unit → Int))
  | [] => some []
  | x :: r => match x.toI, selI k r with
    | some (k', n), some l => if k = k' then some (n :: l) else none
    | _, _ => none

def aIndex (X : Ctx) (t : TypeId) (x ix : SV) : Act1 :=
  match X.tt t with
  | none => .fail
  | some i => match i.d, x with
    | .str, .str s => match ix.toI with
      | some (k, m) => .need (fun _ => 0 ≤ m () ∧ (m ()).toNat < (s ()).size) (.i .u8 fun _ => ((s ()).data.toList.getD (m ()).toNat 0).toNat) []
      | none => .fail
    | .arr n e, .agg cs => match X.tt e, ix with
      | some j, .ic k m => if 0 ≤ m ∧ m.toNat < n ∧ n * j.size = cs.length then match getAt j cs (m.toNat * j.size) with
          | some v => .pure v []
          | none => .fail
        else .fail
      | some j, .i k m => if n * j.size = cs.length then
          .ex Nat (fun g => m () = (g : Int) ∧ g < n ∧ (getAt j cs (g * j.size)).isSome = true) (fun g => (getAt j cs (g * j.size)).getD .any) (fun _ => [])
        else .fail
      | _, _ => .fail
    | _, _ => .fail

def fillS (place : Nat → Option (Nat × Nat)) : List (Nat × SV) → List SV → Option (List SV)
  | [], cs => some cs
  | (j, x) :: r, cs => match place j, x.cells? with
    | some (off, size), some ys => if ys.length = size ∧ off + ys.length ≤ cs.length then fillS place r (putCells cs off ys) else none
    | _, _ => none
def aBuild (X : Ctx) (t : TypeId) (parts : List (Nat × SV)) : Act1 :=
  match X.tt t with
  | none => .fail
  | some i => match i.d with
    | .st fs => match fillS (fun j => (fs[j]?).map (·.2)) parts (i.zero.cells.toList.map ofV1) with
      | some cs => .pure (.agg cs) []
      | none => .fail
    | .arr n e => match X.tt e with
      | some k => match fillS (fun j => some (j * k.size, k.size)) parts (i.zero.cells.toList.map ofV1) with
        | some cs => .pure (.agg cs) []
        | none => .fail
      | none => .fail
    | _ => .fail

def repl {α : Type 1} (xs : List α) : Nat → List α
  | 0 => []
  | n + 1 => xs ++ repl xs n
def aBuildSlice (X : Ctx) (l : Nat) (t : TypeId) (n : Nat) (parts : List (Nat × SV)) : Act1 :=
  match X.tt t with
  | none => .fail
  | some i => match i.d with
    | .sl e => match X.tt e with
      | none => .fail
      | some k => match n with
        | 0 => match parts, X.el e with
          | [], some E => .pure (.own l) [(l, .dyn e k.size E.c fun _ => [])]
          | _, _ => .fail
        | n + 1 => if (n + 1) * k.size ≤ 16777216 then
            match fillS (fun j => some (j * k.size, k.size)) parts (repl (k.zero.cells.toList.map ofV1) (n + 1)) with
            | some cs => .pure (.lst cs (n + 1)) []
            | none => .fail
          else .fail
    | _ => .fail

def aMakeSlice (X : Ctx) (l : Nat) (t : TypeId) (len cap : SV) : Act1 :=
  match X.tt t with
  | none => .fail
  | some i => match i.d with
    | .sl e => match X.tt e, X.el e, len.toI, cap.toI with
      | some k, some E, some (_, n), some (_, m) =>
        .need (fun _ => 0 ≤ n () ∧ n () ≤ m () ∧ (k.bytes : Int) * m () ≤ 281474976710656 ∧ m () ≤ 9223372036854775807) (.own l)
          [(l, .dyn e k.size E.c fun _ => List.replicate (n ()).toNat E.z)]
      | _, _, _, _ => .fail
    | _ => .fail

/-- A slice that a label owns, as a reader sees it. -/
def top (b : List Slot) : SV → SV
  | .own l => match b[l]? with
    | some (.dyn e sz c xs) => .sl sz c xs
    | _ => .own l
  | .osl l sz m k => match b[l]? with
    | some (.dyn e sz' c xs) => (match Nat.beq sz sz' with
      | true => .sl sz' c fun _ => ((xs ()).take (k ())).drop (m ())
      | false => .osl l sz m k)
    | _ => .osl l sz m k
  | x => x
/-- copy(s, x): the beginning of an own row is overwritten. -/
def aCopy (X : Ctx) (b : List Slot) (t : TypeId) (s x : SV) : Act1 :=
  match X.tt t with
  | none => .fail
  | some i => match i.d with
    | .sl e => match X.tt e, s with
      | some k, .own l0 => match b[l0]? with
        | some (@Slot.dyn T e' sz c xs) => if e' = e ∧ sz = k.size ∧ sz = 1 then
            .ex (List T) (fun ys => Le (top b x) (.sl sz c fun _ => ys)) (fun ys => .i .i64 fun _ => ((min (xs ()).length ys.length : Nat) : Int))
              (fun ys => [(l0, .dyn e sz c fun _ => ys.take (xs ()).length ++ (xs ()).drop ys.length)])
          else .fail
        | _ => .fail
      | _, _ => .fail
    | _ => .fail
/-- clear(x), of a part of an own row: its elements are the zero. -/
def aClear (X : Ctx) (b : List Slot) (t : TypeId) (x : SV) : Act1 :=
  match X.tt t with
  | none => .fail
  | some i => match i.d with
    | .sl e => match X.tt e, x with
      | some k, .osl l0 sz g h => match b[l0]? with
        | some (@Slot.dyn T e' sz' c xs) => if e' = e ∧ sz' = k.size ∧ sz = 1 ∧ k.size = 1 ∧ k.agg = false then
            .ex T (fun z => LeL (k.zero.cells.toList.map ofV1) (c z)) (fun _ => .tup [])
              (fun z => [(l0, .dyn e sz' c fun _ => (xs ()).take (g ()) ++ List.replicate (h () - g ()) z ++ (xs ()).drop (g () + (h () - g ())))])
          else .fail
        | _ => .fail
      | _, _ => .fail
    | _ => .fail
def aMin (x y : SV) : Act1 :=
  match x.toI, y.toI with
  | some (k, m), some (k', n) => if k = k' then .pure (.i k fun _ => min (m ()) (n ())) [] else .fail
  | _, _ => .fail
def aAppend (X : Ctx) (b : List Slot) (l : Nat) (t : TypeId) (s x : SV) : Act1 :=
  match X.tt t with
  | none => .fail
  | some i => match i.d with
    | .sl e => match X.tt e with
      | none => .fail
      | some k => match s with
        | .own l0 => match b[l0]? with
          | some (@Slot.dyn T e' sz c xs) => if e' = e ∧ sz = k.size then
              .ex (List T) (fun ys => Le (top b x) (.sl sz c fun _ => ys) ∧ ((xs ()).length + ys.length) * k.bytes ≤ 140737488355328 ∧ (xs ()).length + ys.length ≤ 9223372036854775807)
                (fun _ => .own l) (fun ys => [(l0, .dead), (l, .dyn e sz c fun _ => xs () ++ ys)])
            else .fail
          | _ => .fail
        | .nils => match X.el e with
          | some E => .ex (List E.T) (fun ys => Le (top b x) (.sl k.size E.c fun _ => ys) ∧ ys.length * k.bytes ≤ 140737488355328 ∧ ys.length ≤ 9223372036854775807)
                (fun _ => .own l) (fun ys => [(l, .dyn e k.size E.c fun _ => ys)])
          | none => .fail
        | @SV.csl T sz c xs => if sz = k.size then
            .ex (List T) (fun ys => Le (top b x) (.sl sz c fun _ => ys) ∧ ((xs ()).length + ys.length) * k.bytes ≤ 140737488355328 ∧ (xs ()).length + ys.length ≤ 9223372036854775807 ∧ ys ≠ [] ∧ ∀ z, (c z).all SV.one = true)
              (fun _ => .own l) (fun ys => [(l, .dyn e sz c fun _ => xs () ++ ys)])
          else .fail
        | .lst cs (n + 1) => match X.el e, x with
          | some E, .lst ds (m + 1) => .ex (List E.T × List E.T) (fun y => LeL cs (y.1.flatMap E.c) ∧ y.1.length = n + 1 ∧ LeL ds (y.2.flatMap E.c) ∧ y.2.length = m + 1 ∧
                (n + 1 + (m + 1)) * k.bytes ≤ 140737488355328 ∧ n + 1 + (m + 1) ≤ 9223372036854775807)
              (fun _ => .own l) (fun y => [(l, .dyn e k.size E.c fun _ => y.1 ++ y.2)])
          | _, _ => .fail
        | _ => .fail
    | _ => .fail

def bound (len : Unit → Nat) : Option SV → Option (Unit → Int)
  | none => some fun _ => len ()
  | some x => match x.toI with
    | some (_, n) => some n
    | none => none
def lower : Option SV → Option (Unit → Int)
  | none => some fun _ => 0
  | some x => match x.toI with
    | some (_, n) => some n
    | none => none
def isSl : SV → Bool
  | .nils | .own _ | .lst .. | .sl .. => true
  | _ => false
def clip : Option SV → Option SV → Option SV → Bool
  | none, some (.ic _ 0), some (.ic _ 0) => true
  | _, _, _ => false
def aSlice (X : Ctx) (b : List Slot) (l : Nat) (t : TypeId) (x : SV) (lo hi mx : Option SV) : Act1 :=
  match X.tt t with
  | none => .fail
  | some i => match i.d with
    | .sl e => match X.tt e with
      | none => .fail
      | some k => if clip lo hi mx && isSl x then
          match X.el e with
          | some E => .pure (.own l) [(l, .dyn e k.size E.c fun _ => [])]
          | none => .fail
        else match x, mx with
          | @SV.sl T sz c xs, some z => if sz = k.size then
              match lo, hi.bind SV.toI, z.toI with
              | none, some (_, n), some (_, m) => .need (fun _ => n () = (xs ()).length ∧ m () = (xs ()).length) (.csl sz c xs) []
              | _, _, _ => .fail
            else .fail
          | @SV.sl T sz c xs, none => if sz = k.size then
              match lower lo, bound (fun _ => (xs ()).length) hi with
              | some m, some n => .need (fun _ => 0 ≤ m () ∧ m () ≤ n () ∧ n () ≤ (xs ()).length) (.sl sz c fun _ => ((xs ()).take (n ()).toNat).drop (m ()).toNat) []
              | _, _ => .fail
            else .fail
          | .own l0, none => match b[l0]? with
            | some (.dyn e' sz c xs) => if sz = k.size then
                match lower lo, bound (fun _ => (xs ()).length) hi with
                | some m, some n => .need (fun _ => 0 ≤ m () ∧ m () ≤ n () ∧ n () ≤ (xs ()).length) (.osl l0 k.size (fun _ => (m ()).toNat) (fun _ => (n ()).toNat)) []
                | _, _ => .fail
              else .fail
            | _ => .fail
          | .osl l0 sz g h, none => match b[l0]? with
            | some (.dyn e' sz' c xs) => if sz = k.size then
                match lower lo, bound (fun _ => h () - g ()) hi with
                | some m, some n => .need (fun _ => 0 ≤ m () ∧ m () ≤ n () ∧ (n ()).toNat ≤ h () - g ()) (.osl l0 k.size (fun _ => g () + (m ()).toNat) (fun _ => g () + (n ()).toNat)) []
                | _, _ => .fail
              else .fail
            | _ => .fail
          | _, _ => .fail
    | .str => match x, mx with
      | .str s, none => match lower lo, bound (fun _ => (s ()).size) hi with
        | some m, some n => .need (fun _ => 0 ≤ m () ∧ m () ≤ n () ∧ n () ≤ (s ()).size) (.str fun _ => (s ()).extract (m ()).toNat (n ()).toNat) []
        | _, _ => .fail
      | _, _ => .fail
    | .arr n e => match X.tt e, X.el e with
      | some k, some E => match x, mx with
        | .spt cs off, none => match lower lo, bound (fun _ => n) hi with
          | some m, some h => .ex (List E.T) (fun l => l.length = n ∧ LeL ((cs.drop off).take (n * k.size)) (l.flatMap E.c) ∧ 0 ≤ m () ∧ m () ≤ h () ∧ h () ≤ n)
              (fun l => .sl k.size E.c fun _ => (l.take (h ()).toNat).drop (m ()).toNat) (fun _ => [])
          | _, _ => .fail
        | _, _ => .fail
      | _, _ => .fail
    | _ => .fail

def aLen (X : Ctx) (b : List Slot) (t : TypeId) (x : SV) : Act1 :=
  match X.tt t with
  | none => .fail
  | some i => match i.d, x with
    | .str, .str s => .pure (.i .i64 fun _ => (s ()).size) []
    | .arr n _, _ => .pure (.ic .i64 n) []
    | .sl _, .nils => .pure (.ic .i64 0) []
    | .sl _, .lst _ n => .pure (.ic .i64 n) []
    | .sl _, .sl sz c xs => .pure (.i .i64 fun _ => (xs ()).length) []
    | .sl _, .csl sz c xs => .pure (.i .i64 fun _ => (xs ()).length) []
    | .sl _, .own l => match b[l]? with
      | some (.dyn e sz c xs) => .pure (.i .i64 fun _ => (xs ()).length) []
      | _ => .fail
    | .sl _, .osl l sz m k => match b[l]? with
      | some (.dyn e sz' c xs) => .pure (.i .i64 fun _ => ((k () - m () : Nat) : Int)) []
      | _ => .fail
    | _, _ => .fail

def aField (X : Ctx) (t : TypeId) (x : SV) (j : Nat) : Act1 :=
  match X.tt t, x with
  | some i, .agg cs => match i.d with
    | .st fs => match fs[j]? with
      | some (ft, o, _) => match X.tt ft with
        | some k => match getAt k cs o with
          | some v => .pure v []
          | none => .fail
        | none => .fail
      | none => .fail
    | _ => .fail
  | _, _ => .fail

/-- What a new map is to hold: of booleans, nothing but 'true'. -/
def mapElt (X : Ctx) (vt : TypeId) : TD → Option (Σ T : Type, T → List SV)
  | .bool => some ⟨Unit, fun _ => [.bc true]⟩
  | _ => match X.el vt with
    | some E => some ⟨E.T, E.c⟩
    | none => none
def aMakeMap (X : Ctx) (l : Nat) (t : TypeId) : Act1 :=
  match X.tt t with
  | none => .fail
  | some i => match i.d with
    | .map kt vt => match X.tt kt, X.tt vt with
      | some ki, some vi => match ki.d, mapElt X vt vi.d with
        | .int k, some E => if vi.size = 1 then .pure (.mown l) [(l, .map k E.2 fun _ _ => none)] else .fail
        | _, _ => .fail
      | _, _ => .fail
    | _ => .fail
/-- What a look-up gives: a number's entry that is there (some (some t)), or not (some none); of a map to 'true' alone, in one word (none). -/
def lookVal {T : Type} (z : Value) (c : T → List SV) (b : Unit → Bool) : Option (Option T) → SV
  | none => .b b
  | some (some t) => (c t).headD .any
  | some none => ofV1 z
def lookOk {T : Type} (b : Unit → Bool) : Option (Option T) → SV
  | none => .b b
  | some (some _) => .bc true
  | some none => .bc false
def lookP {T : Type} (z : Value) (c : T → List SV) (r : Option T) : Option (Option T) → Prop
  | none => z = .bool false ∧ ∀ t, c t = [.bc true]
  | some o => r = o
def lookAt {T : Type} (z : Value) (c : T → List SV) (m : Unit → Int → Option T) (n : Unit → Int) (ok : Bool) : Act1 :=
  .ex (Option (Option T)) (fun o => lookP z c (m () (n ())) o)
    (fun o => match ok with
      | true => .tup [lookVal z c (fun _ => (m () (n ())).isSome) o, lookOk (fun _ => (m () (n ())).isSome) o]
      | false => lookVal z c (fun _ => (m () (n ())).isSome) o) (fun _ => [])
def aLookup (X : Ctx) (b : List Slot) (t : TypeId) (x ix : SV) (ok : Bool) : Act1 :=
  match X.tt t with
  | none => .fail
  | some i => match i.d with
    | .map kt vt => match X.tt kt, X.tt vt, ix.toI with
      | some ki, some vi, some (k', n) => match ki.d with
        | .int kk => if k' = kk ∧ vi.size = 1 ∧ vi.agg = false then match x with
            | .mp k c m => if k = kk then lookAt vi.zero c m n ok else .fail
            | .mown l => match b[l]? with
              | some (.map k c m) => if k = kk then lookAt vi.zero c m n ok else .fail
              | _ => .fail
            | .v x => .ex Unit (fun _ => x () = .map none) (fun _ => match ok with | true => .tup [ofV1 vi.zero, .bc false] | false => ofV1 vi.zero) (fun _ => [])
            | _ => .fail
          else .fail
        | _ => .fail
      | _, _, _ => .fail
    | _ => .fail
def aMapUpdate (X : Ctx) (b : List Slot) (t : TypeId) (x ix y : SV) : Act1 :=
  match X.tt t with
  | none => .fail
  | some i => match i.d with
    | .map kt vt => match X.tt kt, ix.toI with
      | some ki, some (k', n) => match ki.d with
        | .int kk => match x with
          | .mown l => match b[l]? with
            | some (@Slot.map T k c m) => if k' = kk ∧ k = kk then
                .ex T (fun t => LeL [y] (c t)) (fun _ => .any) (fun t => [(l, .map k c fun _ j => if j = n () then some t else m () j)])
              else .fail
            | _ => .fail
          | _ => .fail
        | _ => .fail
      | _, _ => .fail
    | _ => .fail
/-- The entry at which a range over a map stands. -/
def aEntry (b : List Slot) (x : SV) : Act1 :=
  match x with
  | .ptr l 0 => match b[l]? with
    | some (.iter k c m seen (some (n, t))) => .pure (.tup (.i k (fun _ => n) :: c t)) []
    | _ => .fail
  | _ => .fail
/-- A range over a map that nobody writes any more begins. -/
def aRange (X : Ctx) (l : Nat) (t : TypeId) (x : SV) : Act1 :=
  match X.tt t with
  | none => .fail
  | some i => match i.d, x with
    | .map _ _, .mp k c m => .pure (.ptr l 0) [(l, .iter k c m (fun _ => []) none)]
    | _, _ => .fail

def SV.lab : SV → Bool
  | .ptr .. | .ept .. | .own _ | .osl .. | .mown _ | .yld _ => true
  | .agg cs => cs.any fun | .ptr .. | .ept .. | .own _ | .osl .. | .mown _ | .yld _ => true | .fn .. | .ifc .. | .agg _ | .tup _ | .spt .. | .lst .. => true | _ => false
  | .tup _ | .fn .. | .ifc .. | .spt .. | .lst .. => true
  | _ => false
/-- Of a list of cells: no label among them. -/
def SV.free : SV → Bool
  | .bc _ | .b _ | .ic .. | .i .. | .str _ | .v _ | .nils => true
  | _ => false

mutual
/-- A label is in it. -/
def SV.lb : SV → Bool
  | .ptr .. | .ept .. | .own _ | .osl .. | .mown _ | .yld _ => true
  | .fn _ xs ys => lbs xs || lbs ys
  | .agg cs => lbs cs
  | .tup cs => lbs cs
  | .lst cs _ => lbs cs
  | .spt cs _ => lbs cs
  | _ => false
def lbs : List SV → Bool
  | [] => false
  | x :: r => x.lb || lbs r
end

def aCall (X : Ctx) (b : List Slot) (f : FuncId) (args : List SV) : Act1 :=
  match X.sp f with
  | none => .fail
  | some S => if args.any SV.lab then
      .ex S.α (fun a => LeL (args.map (view b)) (S.args a) ∧ S.pre a ∧ ((S.res a).scalar || !lbs args) = true) S.res (fun _ => [])
    else .ex S.α (fun a => LeL args (S.args a) ∧ S.pre a) S.res (fun _ => [])

def aBuiltin (X : Ctx) (b : List Slot) (l : Nat) (bi : Builtin) (ts : List TypeId) (xs : List SV) : Act1 :=
  match bi with
  | .len => match ts, xs with
    | [t], [x] => aLen X b t x
    | _, _ => .fail
  | .append => match ts, xs with
    | [t, t'], [x, y] => if t = t' then aAppend X b l t x y else .fail
    | _, _ => .fail
  | .copy => match ts, xs with
    | [t, t'], [x, y] => if t = t' then aCopy X b t x y else .fail
    | _, _ => .fail
  | .clear => match ts, xs with
    | [t], [x] => aClear X b t x
    | _, _ => .fail
  | .min => match xs with
    | [x, y] => aMin x y
    | _ => .fail
  | _ => .fail

def actS (X : Ctx) (s : St) (l : Nat) : Op → Act1
  | .move x | .assign x => .pure (ev s x) []
  | .pick c a b => aPick (ev s c) (ev s a) (ev s b)
  | .alloc e => match X.tt e with
    | some i => .pure (.ptr l 0) [(l, .fix e (i.zero.cells.toList.map ofV1))]
    | none => .fail
  | .box e x => match X.tt e, (ev s x).cells? with
    | some i, some cs => .pure (.ptr l 0) [(l, .fix e cs)]
    | _, _ => .fail
  | .build t parts => aBuild X t (parts.toList.map fun p => (p.1, ev s p.2))
  | .buildSlice t n parts => aBuildSlice X l t n (parts.toList.map fun p => (p.1, ev s p.2))
  | .load t x => aLoad X s.b t (ev s x)
  | .store t x y => aStore X s.b t (ev s x) (ev s y)
  | .nilCheck x => match ev s x with
    | .ptr l off => .pure (.ptr l off) []
    | .spt cs off => .pure (.spt cs off) []
    | .fn (.func f) fs cs => .pure (.fn (.func f) fs cs) []
    | _ => .fail
  | .binOp op t x y _ => aBin X op t (ev s x) (ev s y)
  | .unOp op _ x => aUn op (ev s x)
  | .convert src dst x => aConv X src dst (ev s x)
  | .makeFunc fn first cap => .pure (.fn fn (first.toList.map (ev s)) (cap.toList.map (ev s))) []
  | .makeSlice t n m => aMakeSlice X l t (ev s n) (ev s m)
  | .slice t x lo hi mx => aSlice X s.b l t (ev s x) (lo.map (ev s)) (hi.map (ev s)) (mx.map (ev s))
  | .fieldAddr t x j => aFieldAddr X t (ev s x) j
  | .field t x j => aField X t (ev s x) j
  | .indexAddr t x i => aIndexAddr X s.b t (ev s x) (ev s i)
  | .index t x i => aIndex X t (ev s x) (ev s i)
  | .extract x j => match ev s x with
    | .tup cs => match cs[j]? with
      | some v => .pure v []
      | none => .fail
    | _ => .fail
  | .makeMap t r => match r with
    | none => aMakeMap X l t
    | some _ => .fail
  | .lookup t x i ok => aLookup X s.b t (ev s x) (ev s i) ok
  | .mapUpdate t x i y => aMapUpdate X s.b t (ev s x) (ev s i) (ev s y)
  | .insert t x i y => aMapUpdate X s.b t (ev s x) (ev s i) (ev s y)
  | .range t x => aRange X l t (ev s x)
  | .entry x => aEntry s.b (ev s x)
  | .call c => match c.callee with
    | .value g => match ev s g with
      | .fn (.func f) first cap => aCall X s.b f (first ++ c.args.toList.map (ev s) ++ cap)
      | _ => .fail
    | .builtin bi => aBuiltin X s.b l bi c.argTypes.toList (c.args.toList.map (ev s))
    | _ => .fail
  | _ => .fail

/-- Does the operation give nothing? -/
def isStore : Op → Bool
  | .store .. | .mapUpdate .. | .insert .. => true
  | _ => false
/-- Does the operation lay a new label? -/
def allocs : Op → Bool
  | .alloc _ | .box .. | .buildSlice .. | .makeSlice .. | .makeMap .. | .range .. => true
  | .slice _ _ _ _ (some _) => true
  | .call { callee := .builtin .append, .. } => true
  | _ => false
end Go.Vc
