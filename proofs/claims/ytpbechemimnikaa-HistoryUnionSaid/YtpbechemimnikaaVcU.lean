/-
  The arguments of a given statement, of any type that is built of numbers, booleans, strings, slices, arrays and structs: read as one datum, and its symbolic value.
-/
import Derived.Test.YtpbechemimnikaaVcT
set_option linter.unusedVariables false
set_option linter.unusedSimpArgs false
namespace Go.Vc
open Go Go.ChangeShapes Go.WideShapes Go.ChangeAt Go.RowKit

theorem nbeq {a b : Nat} : (Nat.beq a b = true) = (a = b) := propext ⟨Nat.eq_of_beq_eq_true, fun h => h ▸ Nat.beq_refl a⟩

inductive Ty where
  | int (k : IntKind)
  | bool
  | str
  | sl (e : Ty)
  | unit
  | pair (a b : Ty)

/-- What a datum of the type is. -/
abbrev Ty.sem : Ty → Type
  | .int _ => Int
  | .bool => Bool
  | .str => ByteArray
  | .sl e => List e.sem
  | .unit => Unit
  | .pair a b => a.sem × b.sem
def Ty.size : Ty → Nat
  | .unit => 0
  | .pair a b => a.size + b.size
  | _ => 1
def Ty.cells : (T : Ty) → T.sem → List SV
  | .int k, n => [.i k fun _ => n]
  | .bool, b => [.b fun _ => b]
  | .str, s => [.str fun _ => s]
  | .sl e, xs => [.sl e.size e.cells fun _ => xs]
  | .unit, _ => []
  | .pair a b, x => a.cells x.1 ++ b.cells x.2
def Ty.wf : (T : Ty) → T.sem → Prop
  | .int k, n => k.min ≤ n ∧ n ≤ k.max
  | .bool, _ => True
  | .str, s => s.size ≤ maxLen
  | .sl e, xs => xs.length ≤ maxLen ∧ ∀ x ∈ xs, e.wf x
  | .unit, _ => True
  | .pair a b, x => a.wf x.1 ∧ b.wf x.2
/-- An argument. -/
def Ty.arg : (T : Ty) → T.sem → SV
  | .int k, n => .i k fun _ => n
  | .bool, b => .b fun _ => b
  | .str, s => .str fun _ => s
  | .sl e, xs => .sl e.size e.cells fun _ => xs
  | .unit, _ => .agg []
  | .pair a b, x => .agg (a.cells x.1 ++ b.cells x.2)

theorem Ty.lf : ∀ (T : Ty) (x : T.sem), LFL (T.cells x)
  | .int k, n => ⟨trivial, trivial⟩
  | .bool, b => ⟨trivial, trivial⟩
  | .str, s => ⟨trivial, trivial⟩
  | .sl e, xs => ⟨fun x => e.lf x, trivial⟩
  | .unit, _ => trivial
  | .pair a b, x => LFL_append (a.lf x.1) (b.lf x.2)

def repTy (T : Ty) : Nat → Ty
  | 0 => .unit
  | n + 1 => .pair T (repTy T n)
def fieldsTy (r : TypeId → Option Ty) (c : TypeId → Nat) : Nat → List Field → Option Ty
  | _, [] => some .unit
  | o, f :: fs =>
    match r f.type with
    | some T => match Nat.beq f.offset o && Nat.beq (c f.type) T.size with
      | true => match fieldsTy r c (o + T.size) fs with
        | some U => some (.pair T U)
        | none => none
      | false => none
    | none => none
def tyOf (P : Program) : Nat → TypeId → Option Ty
  | 0, _ => none
  | n + 1, t => match P.underlying t with
    | some (.int k) => some (.int k)
    | some .bool => some .bool
    | some .string => some .str
    | some (.slice e) => match tyOf P n e with
      | some T => match Nat.beq (P.cellsOf e) T.size && Nat.blt 0 T.size with
        | true => some (.sl T)
        | false => none
      | none => none
    | some (.struct fs) => match fieldsTy (tyOf P n) P.cellsOf 0 fs.toList with
      | some T => match Nat.beq (P.cellsOf t) T.size with
        | true => some T
        | false => none
      | none => none
    | some (.array m e) => match tyOf P n e with
      | some T => match Nat.beq (P.cellsOf e) T.size && Nat.beq (P.cellsOf t) (m * T.size) with
        | true => some (repTy T m)
        | false => none
      | none => none
    | _ => none

theorem list_of_each {α : Type} {p : Nat → α → Prop} : ∀ (n : Nat), (∀ i, i < n → ∃ y, p i y) → ∃ ys : List α, ys.length = n ∧ ∀ i y, ys[i]? = some y → p i y
  | 0, _ => ⟨[], rfl, fun i y h => by simp at h⟩
  | n + 1, h => by
    obtain ⟨ys, h1, h2⟩ := list_of_each n fun i hi => h i (by omega)
    obtain ⟨y, hy⟩ := h n (by omega)
    refine ⟨ys ++ [y], by simp [h1], fun i z hz => ?_⟩
    rw [List.getElem?_append] at hz
    split at hz
    · exact h2 i z hz
    · rename_i hi
      have : i = n := by
        have := (List.getElem?_eq_some_iff.1 hz).1
        simp at this; omega
      subst this
      simp [h1] at hz
      subst hz; exact hy

section
variable {H : Type} {enc : TypeId × Value → H} {P : Program} {W : World} {base : Nat} {sp : Nat → Bool} {held : Bool}

/-- What a reading of cells of a type gives. -/
def Opens (enc : TypeId × Value → H) (P : Program) (W : World) (base : Nat) (sp : Nat → Bool) (held : Bool) (m : Nat) (t : TypeId) (T : Ty) : Prop :=
  ∀ cs x, DataW.trod enc P W base sp held m t cs = some x → ∃ y : T.sem, T.wf y ∧ cs.length = T.size ∧ relHL (worldHeap W) (T.cells y) cs

theorem opens_fields {n m : Nat} (ih : ∀ t T, tyOf P n t = some T → Opens enc P W base sp held m t T) : ∀ (fs : List Field) (o : Nat) (T : Ty) (cs : List Value) (xs : List (DataW H × List MemPlace)),
    fieldsTy (tyOf P n) P.cellsOf o fs = some T → fs.mapM (fun f => DataW.trod enc P W base sp held m f.type ((cs.drop f.offset).take (P.cellsOf f.type))) = some xs → cs.length = o + T.size →
    ∃ y : T.sem, T.wf y ∧ relHL (worldHeap W) (T.cells y) (cs.drop o)
  | [], o, T, cs, xs, h, _, hl => by
    simp [fieldsTy] at h; subst h
    refine ⟨(), trivial, ?_⟩
    have : cs.drop o = [] := by simp; simp [Ty.size] at hl; omega
    rw [this]; simp [Ty.cells, relL]
  | f :: fs, o, T, cs, xs, h, hm, hl => by
    unfold fieldsTy at h
    split at h <;> try (cases h; done)
    rename_i T1 h1
    split at h <;> try (cases h; done)
    rename_i h2
    split at h <;> try (cases h; done)
    rename_i U h3
    simp at h; subst h
    simp only [Bool.and_eq_true, nbeq] at h2
    rw [List.mapM_cons] at hm
    simp only [bind, Option.bind_eq_some_iff, pure, Option.some.injEq] at hm
    obtain ⟨a, ha, as, has, rfl⟩ := hm
    rw [h2.1, h2.2] at ha
    obtain ⟨y, hy1, hy2, hy3⟩ := ih _ _ h1 _ _ ha
    simp only [Ty.size] at hl
    obtain ⟨z, hz1, hz2⟩ := opens_fields ih fs (o + T1.size) U cs as h3 has (by omega)
    refine ⟨(y, z), ⟨hy1, hz1⟩, ?_⟩
    have e : cs.drop o = (cs.drop o).take T1.size ++ cs.drop (o + T1.size) := by rw [← List.drop_drop, List.take_append_drop]
    rw [e]
    exact relL_append hy3 hz2

theorem opens_rep {m c : Nat} {e : TypeId} {T : Ty} (ih : Opens enc P W base sp held m e T) (hc : c = T.size) : ∀ (k o : Nat) (cs : List Value) (xs : List (DataW H × List MemPlace)),
    (List.range' o k).mapM (fun i => DataW.trod enc P W base sp held m e ((cs.drop (i * c)).take c)) = some xs → cs.length = (o + k) * c →
    ∃ y : (repTy T k).sem, (repTy T k).wf y ∧ relHL (worldHeap W) ((repTy T k).cells y) (cs.drop (o * c))
  | 0, o, cs, xs, _, hl => by
    refine ⟨(), trivial, ?_⟩
    have : cs.drop (o * c) = [] := by simp; rw [hl]; simp
    rw [this]; simp [repTy, Ty.cells, relL]
  | k + 1, o, cs, xs, hm, hl => by
    rw [List.range'_succ, List.mapM_cons] at hm
    simp only [bind, Option.bind_eq_some_iff, pure, Option.some.injEq] at hm
    obtain ⟨a, ha, as, has, rfl⟩ := hm
    obtain ⟨y, hy1, hy2, hy3⟩ := ih _ _ ha
    obtain ⟨z, hz1, hz2⟩ := opens_rep ih hc k (o + 1) cs as has (by rw [hl]; congr 1; omega)
    refine ⟨(y, z), ⟨hy1, hz1⟩, ?_⟩
    have e : cs.drop (o * c) = (cs.drop (o * c)).take c ++ cs.drop ((o + 1) * c) := by
      rw [show (o + 1) * c = o * c + c by rw [Nat.add_mul]; omega, ← List.drop_drop, List.take_append_drop]
    rw [e]
    exact relL_append hy3 hz2

theorem Ty.size_rep (T : Ty) : ∀ k, (repTy T k).size = k * T.size
  | 0 => by simp [repTy, Ty.size]
  | k + 1 => by simp only [repTy, Ty.size]; rw [Ty.size_rep T k, Nat.add_mul]; omega

theorem opens : ∀ (n : Nat) (t : TypeId) (T : Ty), tyOf P n t = some T → ∀ m, Opens enc P W base sp held m t T
  | 0, t, T, h, _ => by cases h
  | n + 1, t, T, h, 0 => by
    intro cs x hx
    simp [DataW.trod] at hx
  | n + 1, t, T, h, m + 1 => by
    intro cs x hx
    unfold tyOf at h
    split at h
    · rename_i k hk
      simp at h; subst h
      obtain ⟨z, rfl, _, hw⟩ := DataW.trod_int hk hx
      exact ⟨z, by simpa [Ty.wf, Lit.wf] using hw, rfl, by simp [Ty.cells, relL, rel]⟩
    · rename_i hk
      simp at h; subst h
      obtain ⟨z, rfl, _⟩ := DataW.trod_bool hk hx
      exact ⟨z, trivial, rfl, by simp [Ty.cells, relL, rel]⟩
    · rename_i hk
      simp at h; subst h
      obtain ⟨z, rfl, _, hw⟩ := DataW.trod_string hk hx
      exact ⟨z, hw, rfl, by simp [Ty.cells, relL, rel]⟩
    · rename_i e hk
      split at h <;> try (cases h; done)
      rename_i E hE
      split at h <;> try (cases h; done)
      rename_i hc
      simp at h; subst h
      simp only [Bool.and_eq_true, nbeq, Nat.blt_eq] at hc
      obtain ⟨hc, hpos⟩ := hc
      have lf : ∀ x : E.sem, LFL (E.cells x) := E.lf
      rcases DataW.trod_slice hk hx with ⟨rfl, _⟩ | ⟨a, len, cap, elems, rest, k, _, rfl, _, hb, hle, hm, hlen, hel, _⟩
      · refine ⟨[], ⟨Nat.zero_le _, by simp⟩, rfl, ?_⟩
        simp only [Ty.cells, relL, rel]
        exact ⟨_, [], rfl, ⟨⟨none, 0, rfl, by simp, .inl trivial⟩, lf⟩, rfl⟩
      · obtain ⟨ys, hy1, hy2⟩ := list_of_each (p := fun i (y : E.sem) => E.wf y ∧ ∃ us, W.cells? base (a.add (i * E.size)) E.size = some us ∧ us.length = E.size ∧ relHL (worldHeap W) (E.cells y) us) len (fun i hi => by
          have h1 := hel i hi
          rw [List.getElem?_eq_getElem (by omega), hc] at h1
          rw [Option.bind_eq_some_iff] at h1
          obtain ⟨us, h2, h3⟩ := h1
          obtain ⟨y, h4, h5, h6⟩ := opens n e E hE k us _ h3
          exact ⟨y, h4, us, h2, h5, h6⟩)
        refine ⟨ys, ⟨by omega, fun x hx => ?_⟩, rfl, ?_⟩
        · obtain ⟨i, hi⟩ := List.getElem?_of_mem hx
          exact (hy2 i x hi).1
        · simp only [Ty.cells, relL, rel]
          refine ⟨_, [], rfl, ⟨⟨some a, cap, by rw [hy1], by rw [hy1]; exact hle, ?_⟩, lf⟩, rfl⟩
          by_cases hz : ys = []
          · exact .inl hz
          right
          have h0 : 0 < ys.length := by cases ys with | nil => exact absurd rfl hz | cons => simp
          have hsp : a.spot = none := by
            obtain ⟨_, us, h1, h2, _⟩ := hy2 0 _ (List.getElem?_eq_getElem h0)
            have h3 := (World.cells?_some h1).2.2 0 hpos
            rw [Nat.zero_mul] at h3
            have h3' : W.cell? ((a.add 0).add 0) = some us[0] := by rw [h3, List.getElem?_eq_getElem (by omega)]
            unfold World.cell? at h3'
            split at h3'
            · cases a with
              | mk b o s => cases s <;> simp_all [Addr.add]
            · cases h3'
          refine ⟨a, rfl, hsp, fun j x hx => ?_⟩
          obtain ⟨_, us, h1, h2, h3⟩ := hy2 j x hx
          refine ⟨us, h2, h3, fun i u hu => ?_⟩
          have hi : i < E.size := by rw [← h2]; exact (List.getElem?_eq_some_iff.1 hu).1
          have h4 := (World.cells?_some h1).2.2 i hi
          rw [hu, addr_add' _ hsp, addr_add] at h4
          exact hcell_world h4
    · rename_i fs hk
      split at h <;> try (cases h; done)
      rename_i U hU
      split at h <;> try (cases h; done)
      rename_i hc
      simp at h; subst h
      simp only [nbeq] at hc
      rw [DataW.trod_step] at hx
      unfold DataW.trodStep at hx
      simp only [hk] at hx
      split at hx <;> try (cases hx; done)
      rename_i hl
      simp only [Option.map_eq_some_iff] at hx
      obtain ⟨xs, hx, _⟩ := hx
      obtain ⟨y, h1, h2⟩ := opens_fields (fun t T hT => opens n t T hT m) fs.toList 0 U cs xs hU hx (by omega)
      exact ⟨y, h1, by omega, by simpa using h2⟩
    · rename_i k e hk
      split at h <;> try (cases h; done)
      rename_i E hE
      split at h <;> try (cases h; done)
      rename_i hc
      simp at h; subst h
      simp only [Bool.and_eq_true, nbeq] at hc
      rw [DataW.trod_step] at hx
      unfold DataW.trodStep at hx
      simp only [hk] at hx
      split at hx <;> try (cases hx; done)
      rename_i hl
      simp only [Option.map_eq_some_iff] at hx
      obtain ⟨xs, hx, _⟩ := hx
      rw [hc.1, List.range_eq_range'] at hx
      obtain ⟨y, h1, h2⟩ := opens_rep (opens n e E hE m) rfl k 0 cs xs hx (by rw [hl, hc.2]; simp)
      exact ⟨y, h1, by rw [Ty.size_rep]; omega, by simpa using h2⟩
    · cases h

/-- An argument of a given statement. -/
theorem open_ty {n : Nat} {t : TypeId} {T : Ty} (hT : tyOf P n t = some T) {r : Reach} {b0 : Nat} {v : Value} {d : DataW H} {ps : List MemPlace} (hval : Value.okWide P W r b0 t v) (hd : DataW.Trod enc P W base sp held t v d ps) :
    ∃ y : T.sem, T.wf y ∧ relHL (worldHeap W) [T.arg y] [v] := by
  obtain ⟨fuel, hf⟩ := hd
  obtain ⟨y, h1, h2, h3⟩ := opens n t T hT fuel _ _ hf
  refine ⟨y, h1, ?_⟩
  have agg : ∀ cs : Array Value, v = .agg cs → relHL (worldHeap W) [SV.agg (T.cells y)] [v] := by
    rintro cs rfl
    simp only [relL, rel]
    exact ⟨_, [], rfl, ⟨cs.toList, rfl, h3⟩, rfl⟩
  have one : (∀ cs : Array Value, v ≠ .agg cs) → relHL (worldHeap W) (T.cells y) [v] := by
    intro hn
    have : v.cells.toList = [v] := by
      cases v <;> try rfl
      rename_i cs; exact absurd rfl (hn cs)
    rw [this] at h3; exact h3
  cases n with
  | zero => cases hT
  | succ n =>
    unfold tyOf at hT
    split at hT
    · rename_i k hk
      simp at hT; subst hT
      obtain ⟨z, rfl⟩ := okWide_int hk hval
      exact one (by simp)
    · rename_i hk
      simp at hT; subst hT
      obtain ⟨z, rfl⟩ := okWide_bool hk hval
      exact one (by simp)
    · rename_i hk
      simp at hT; subst hT
      obtain ⟨z, rfl⟩ := okWide_string hk hval
      exact one (by simp)
    · rename_i e hk
      split at hT <;> try (cases hT; done)
      split at hT <;> try (cases hT; done)
      simp at hT; subst hT
      obtain ⟨a, len, cap, rfl⟩ := okWide_slice hk hval
      exact one (by simp)
    · rename_i fs hk
      have hagg : ∃ cs, v = .agg cs := by
        simp only [Value.okWide, hk] at hval
        obtain ⟨cs, h, _⟩ := hval
        exact ⟨cs, h⟩
      obtain ⟨cs, hcs⟩ := hagg
      split at hT <;> try (cases hT; done)
      rename_i U hU
      split at hT <;> try (cases hT; done)
      simp at hT; subst hT
      have : U.arg y = .agg (U.cells y) := by
        generalize fs.toList = l at hU
        cases l with
        | nil => simp [fieldsTy] at hU; subst hU; rfl
        | cons f r =>
          unfold fieldsTy at hU
          split at hU <;> try (cases hU; done)
          split at hU <;> try (cases hU; done)
          split at hU <;> try (cases hU; done)
          simp at hU; subst hU; rfl
      rw [this]
      exact agg cs hcs
    · rename_i k e hk
      have hagg : ∃ cs, v = .agg cs := by
        simp only [Value.okWide, hk] at hval
        obtain ⟨cs, h, _⟩ := hval
        exact ⟨cs, h⟩
      obtain ⟨cs, hcs⟩ := hagg
      split at hT <;> try (cases hT; done)
      split at hT <;> try (cases hT; done)
      simp at hT; subst hT
      rename_i E _ _ _
      have : (repTy E k).arg y = .agg ((repTy E k).cells y) := by
        cases k <;> rfl
      rw [this]
      exact agg cs hcs
    · cases hT
end
end Go.Vc
