/-
  Small checks by which a program's tables are held against the program.
-/
import Derived.Test.YtpbechemimnikaaVcR
import Derived.KernelRfl
set_option linter.unusedVariables false
set_option linter.unusedSimpArgs false
namespace Go.Vc
open Go

def descB (P : Program) (t : TypeId) : TD → Bool
  | .int k => match P.underlying t with | some (.int k') => k == k' | _ => false
  | .bool => match P.underlying t with | some .bool => true | _ => false
  | .str => match P.underlying t with | some .string => true | _ => false
  | .sl e => match P.underlying t with | some (.slice e') => e == e' | _ => false
  | .ptr e => match P.underlying t with | some (.pointer e') => e == e' | _ => false
  | .st gs => match P.underlying t with
    | some (.struct fs) => (fs.toList.map fun f => (f.type, f.offset, P.cellsOf f.type)) == gs && gs.all (fun g => Nat.blt 0 g.2.2)
    | _ => false
  | .arr n e => match P.underlying t with | some (.array n' e') => n == n' && e == e' | _ => false
  | .map k v => match P.underlying t with | some (.map k' v') => k == k' && v == v' | _ => false
  | .other => match P.underlying t with | some (.struct _) => false | some (.array _ _) => false | some _ => true | none => false

def tiB (P : Program) (t : TypeId) (i : TI) : Bool :=
  (match P.info? t with | some inf => inf.size == i.size && inf.bytes == i.bytes | none => false) && i.zero.cells.size == i.size && Nat.blt 0 i.size && descB P t i.d

theorem tiok_of {P : Program} {t : TypeId} {i : TI} (hz : (P.info? t).map (·.zero) = some (some i.zero)) (hb : tiB P t i = true)
    (hf : i.flat = true → i.agg = true ∧ ∀ (vs us : List Value) (w : World), vs.length = i.size → us.length = i.size →
      likeVals vs us = true → likeVals vs i.zero.cells.toList = true → ∀ op x y, (op = .eql ∨ op = .neq) →
      (do eqGuard op t x y (.agg vs.toArray) (.agg us.toArray); binOp op t (.agg vs.toArray) (.agg us.toArray) : Sem Value).run P w =
        .ok (.bool (if op = .eql then eqVals vs us else !eqVals vs us)) w) : TIok P t i := by
  unfold tiB at hb
  simp only [Bool.and_eq_true, beq_iff_eq] at hb
  obtain ⟨⟨⟨h1, h2⟩, h3⟩, h4⟩ := hb
  refine ⟨?_, h2, by simpa [Nat.blt_eq] using h3, ?_, hf⟩
  · cases hi : P.info? t with
    | none => rw [hi] at hz; cases hz
    | some inf =>
      rw [hi] at hz h1
      simp at hz h1
      exact ⟨inf, rfl, h1.1, h1.2, hz⟩
  · cases hd : i.d <;> rw [hd] at h4 <;> simp only [descB] at h4 ⊢
    case int k => split at h4 <;> first | (simp at h4; subst h4; assumption) | cases h4
    case bool => split at h4 <;> first | assumption | cases h4
    case str => split at h4 <;> first | assumption | cases h4
    case sl e => split at h4 <;> first | (simp at h4; subst h4; assumption) | cases h4
    case ptr e => split at h4 <;> first | (simp at h4; subst h4; assumption) | cases h4
    case arr n e => split at h4 <;> first | (simp at h4; obtain ⟨rfl, rfl⟩ := h4; assumption) | cases h4
    case map k v => split at h4 <;> first | (simp at h4; obtain ⟨rfl, rfl⟩ := h4; assumption) | cases h4
    case st gs =>
      split at h4
      · rename_i fs hu
        simp only [Bool.and_eq_true, beq_iff_eq, List.all_eq_true] at h4
        obtain ⟨e, hpos⟩ := h4
        refine ⟨fs, hu, by rw [← e]; simp, fun j f hj => ?_⟩
        have hg : gs[j]? = some (f.type, f.offset, P.cellsOf f.type) := by rw [← e]; simp [hj]
        have hp := hpos _ (List.mem_of_getElem? hg)
        unfold Program.cellsOf at hp hg
        cases hi : P.info? f.type with
        | none => rw [hi] at hp; simp [Nat.blt_eq] at hp
        | some inf =>
          rw [hi] at hp hg
          refine ⟨inf, rfl, ?_, by simpa using hg⟩
          have : 0 < inf.size := by simpa [Nat.blt_eq] using hp
          omega
      · cases h4
    case other =>
      split at h4
      · cases h4
      · cases h4
      · rename_i d h5 h6 hu
        exact ⟨d, hu, fun x e => h5 x e, fun n e' e => h6 n e' e⟩
      · cases h4

theorem fnOk_of {P : Program} {f : FuncId} {fn : Func} (h : P.funcs[f]? = some fn) (hb : (fn.body.isSome && !(fn.name == "runtime.NumGoroutine")) = true) : FnOk P f fn := by
  simp only [Bool.and_eq_true, Bool.not_eq_true'] at hb
  exact ⟨h, hb.1, hb.2⟩

theorem w64 {n : Int} (h1 : -9223372036854775808 ≤ n) (h2 : n ≤ 9223372036854775807) : IntKind.i64.wrap n = n := by
  rw [IntKind.wrap_i64]
  omega

/-! ### '==' on arrays and structs of plain cells -/
def fitB (P : Program) (t : TypeId) (z : Value) : Bool :=
  match P.underlying t, z with
  | some (.int _), .int _ _ => true
  | some .bool, .bool _ => true
  | some .string, .string _ => true
  | _, _ => false

section
variable {P : Program}
theorem run_eqCell {t : TypeId} {z : Value} (hf : fitB P t z = true) (d : Nat) (a b : Value) (h : likeVal a b = true) (hz : likeVal a z = true) (w : World) :
    (Op.equalIn (d + 1) t a b).run P w = .ok (eqVal a b) w := by
  unfold fitB at hf
  split at hf
  · rename_i k k' n hu
    cases a <;> simp [likeVal] at hz
    cases b <;> simp [likeVal] at h
    subst h
    simp [Op.equalIn, run_underlying hu, eqVal]
  · rename_i c hu
    cases a <;> simp [likeVal] at hz
    cases b <;> simp [likeVal] at h
    simp [Op.equalIn, run_underlying hu, eqVal]
  · rename_i c hu
    cases a <;> simp [likeVal] at hz
    cases b <;> simp [likeVal] at h
    simp [Op.equalIn, run_underlying hu, eqVal]
  · cases hf

theorem run_part {t : TypeId} {z : Value} (hf : fitB P t z = true) (cs : Array Value) (off : Nat) (v : Value) (hv : cs[off]? = some v) (w : World) : (part t cs off).run P w = .ok v w := by
  unfold fitB at hf
  split at hf
  · rename_i k k' n hu; simp [part, isAgg, run_underlying hu, hv]
  · rename_i c hu; simp [part, isAgg, run_underlying hu, hv]
  · rename_i c hu; simp [part, isAgg, run_underlying hu, hv]
  · cases hf

def stFlat (P : Program) : List Field → List Value → Nat → Bool
  | [], [], _ => true
  | f :: fs, z :: zs, off => f.offset == off && !(f.name == "_") && fitB P f.type z && stFlat P fs zs (off + 1)
  | _, _, _ => false

theorem run_eqFields (d : Nat) (xs ys : Array Value) : ∀ (fs : List Field) (zs vs us : List Value) (off : Nat), stFlat P fs zs off = true → xs.toList.drop off = vs → ys.toList.drop off = us → likeVals vs us = true → likeVals vs zs = true →
    ∀ w, (Op.eqFields (d + 1) xs ys fs).run P w = .ok (eqVals vs us) w
  | [], zs, vs, us, off, hs, hx, hy, h1, h2, w => by
    cases zs with
    | cons _ _ => simp [stFlat] at hs
    | nil =>
      cases vs with
      | cons _ _ => simp [likeVals] at h2
      | nil => simp [Op.eqFields, eqVals]
  | f :: fs, [], vs, us, off, hs, hx, hy, h1, h2, w => by simp [stFlat] at hs
  | f :: fs, z :: zs, vs, us, off, hs, hx, hy, h1, h2, w => by
    simp only [stFlat, Bool.and_eq_true, beq_iff_eq, Bool.not_eq_true'] at hs
    obtain ⟨⟨⟨ho, hn⟩, hf⟩, hs⟩ := hs
    cases vs with
    | nil => simp [likeVals] at h2
    | cons v vs =>
      cases us with
      | nil => simp [likeVals] at h1
      | cons u us =>
        simp only [likeVals, Bool.and_eq_true] at h1 h2
        have hvx : xs[off]? = some v := by
          have := congrArg (fun l => l[0]?) hx
          simp only [List.getElem?_drop, List.getElem?_cons_zero, Nat.add_zero] at this
          simpa using this
        have hux : ys[off]? = some u := by
          have := congrArg (fun l => l[0]?) hy
          simp only [List.getElem?_drop, List.getElem?_cons_zero, Nat.add_zero] at this
          simpa using this
        have hx' : xs.toList.drop (off + 1) = vs := by rw [← List.drop_drop, hx]; rfl
        have hy' : ys.toList.drop (off + 1) = us := by rw [← List.drop_drop, hy]; rfl
        have ih := run_eqFields d xs ys fs zs vs us (off + 1) hs hx' hy' h1.2 h2.2 w
        have hnn : f.name ≠ "_" := by simpa using hn
        simp only [Op.eqFields]
        rw [if_pos hnn]
        simp only [Sem.run_bind, ho, run_part hf xs off v hvx, run_part hf ys off u hux, Result.andThen_ok, run_eqCell hf d v u h1.1 h2.1, eqVals]
        cases hq : eqVal v u
        · simp
        · simpa using ih

theorem flat_struct {t : TypeId} {zs : List Value} (hu : P.underlying t = some (.struct (P.fieldsOf t))) (hp : P.stoodInHeld t = false) (hg : P.eqGuardType P.depth t = false) (hs : stFlat P (P.fieldsOf t).toList zs 0 = true)
    (vs us : List Value) (w : World) (h1 : likeVals vs us = true) (h2 : likeVals vs zs = true) (op : BinOp) (x y : Operand) (hop : op = .eql ∨ op = .neq) :
    (do eqGuard op t x y (.agg vs.toArray) (.agg us.toArray); binOp op t (.agg vs.toArray) (.agg us.toArray) : Sem Value).run P w = .ok (.bool (if op = .eql then eqVals vs us else !eqVals vs us)) w := by
  have he := run_eqFields (P := P) 9998 vs.toArray us.toArray (P.fieldsOf t).toList zs vs us 0 hs (by simp) (by simp) h1 h2 w
  have hr := run_equalIn_struct w 9999 t vs.toArray us.toArray hu hp
  rcases hop with rfl | rfl
  · simp only [Sem.run_bind, run_eqGuard_agg w _ t x y _ _ hg, Result.andThen_ok, run_eql_struct w]
    rw [hr, he]; rfl
  · simp only [Sem.run_bind, run_eqGuard_agg w _ t x y _ _ hg, Result.andThen_ok, run_neq_struct w]
    rw [hr, he]; rfl

/-- An array of two plain cells. -/
theorem flat_array2 {t e : TypeId} {z : Value} (hu : P.underlying t = some (.array 2 e)) (hs : (P.info? e).map (·.size) = some 1) (hg : P.eqGuardType P.depth t = false) (hf : fitB P e z = true)
    (vs us : List Value) (w : World) (h1 : likeVals vs us = true) (h2 : likeVals vs [z, z] = true) (op : BinOp) (x y : Operand) (hop : op = .eql ∨ op = .neq) :
    (do eqGuard op t x y (.agg vs.toArray) (.agg us.toArray); binOp op t (.agg vs.toArray) (.agg us.toArray) : Sem Value).run P w = .ok (.bool (if op = .eql then eqVals vs us else !eqVals vs us)) w := by
  have hv : ∃ a b, vs = [a, b] := by
    match vs, h2 with
    | [a, b], _ => exact ⟨a, b, rfl⟩
    | [], h => simp [likeVals] at h
    | [a], h => simp [likeVals] at h
    | a :: b :: c :: r, h => simp [likeVals] at h
  obtain ⟨a, b, rfl⟩ := hv
  have hu' : ∃ c d, us = [c, d] := by
    match us, h1 with
    | [c, d], _ => exact ⟨c, d, rfl⟩
    | [], h => simp [likeVals] at h
    | [a], h => simp [likeVals] at h
    | a :: b :: c :: r, h => simp [likeVals] at h
  obtain ⟨c, d, rfl⟩ := hu'
  · 
    simp only [likeVals, Bool.and_eq_true, Bool.and_true] at h1 h2
    have hsz : ∀ w, (sizeOf e).run P w = .ok 1 w := fun w => by
      cases hi : P.info? e with
      | none => rw [hi] at hs; cases hs
      | some i => rw [hi] at hs; simp at hs; simp [sizeOf, typeInfo, hi, hs]
    have p0 := fun cs v (hv : cs[0]? = some v) w => run_part hf cs 0 v hv w
    have e1 := fun w => run_eqCell hf 9998 a c h1.1 h2.1 w
    have e2 := fun w => run_eqCell hf 9998 b d h1.2 h2.2 w
    have hr : ∀ w, (Op.equalIn 10000 t (.agg #[a, b]) (.agg #[c, d])).run P w = .ok (eqVal a c && eqVal b d) w := by
      intro w
      rw [Op.equalIn]
      simp only [Sem.run_bind, run_underlying hu, Result.andThen_ok, hsz]
      simp [Std.Legacy.Range.forIn_eq_forIn_range', Std.Legacy.Range.size, List.range'_succ, run_part hf _ _ _ (show (#[a, b] : Array Value)[0]? = some a from rfl), run_part hf _ _ _ (show (#[c, d] : Array Value)[0]? = some c from rfl),
        run_part hf _ _ _ (show (#[a, b] : Array Value)[1]? = some b from rfl), run_part hf _ _ _ (show (#[c, d] : Array Value)[1]? = some d from rfl), e1, e2]
      cases eqVal a c <;> cases eqVal b d <;> simp
    rcases hop with rfl | rfl
    · simp only [Sem.run_bind, run_eqGuard_agg w _ t x y _ _ hg, Result.andThen_ok, run_eql_struct w]
      rw [hr]; simp [eqVals]
    · simp only [Sem.run_bind, run_eqGuard_agg w _ t x y _ _ hg, Result.andThen_ok, run_neq_struct w]
      rw [hr]; simp [eqVals]
end

/-! ## Tables as lists -/
universe u
def tab {α : Type u} : List (Nat × α) → Nat → Option α
  | [], _ => none
  | (k, x) :: r, n => match Nat.beq k n with
    | true => some x
    | false => tab r n
def All {α : Type u} (p : Nat → α → Prop) : List (Nat × α) → Prop
  | [] => True
  | (k, x) :: r => p k x ∧ All p r
theorem tab_all {α : Type u} {p : Nat → α → Prop} : ∀ {l : List (Nat × α)}, All p l → ∀ f x, tab l f = some x → p f x
  | [], _, f, x, h => by simp [tab] at h
  | (k, y) :: r, ha, f, x, h => by
    simp only [tab] at h
    split at h
    · rename_i e
      simp at h; subst h
      have := Nat.eq_of_beq_eq_true e
      subst this
      exact ha.1
    · exact tab_all ha.2 f x h
theorem natc (n : Nat) : (NatCast.natCast n : Int) = (n : Int) := rfl
end Go.Vc
