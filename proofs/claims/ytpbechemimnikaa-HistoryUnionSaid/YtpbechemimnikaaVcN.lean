/-
  Two operations of a region that do not touch one another may change places.
-/
import Derived.Test.YtpbechemimnikaaVcM
set_option linter.unusedVariables false
set_option linter.unusedSimpArgs false
namespace Go.Vc
open Go

def opTmps (op : Op) : List Tmp := op.operands.toList.filterMap fun | .tmp t => some t | _ => none
def gT (ops : List Oper) (o : Oper) : Option Tmp := (gTmp ops o).bind (·.1)
def rdB : Op → Bool
  | .load .. | .store .. | .indexAddr .. | .slice .. | .call _ | .lookup .. | .mapUpdate .. | .insert .. | .entry _ => true
  | _ => false
def isAppend : Op → Bool
  | .call c => match c.callee with
    | .builtin .append => true
    | .builtin .copy => true
    | .builtin .clear => true
    | _ => false
  | _ => false
def wrB : Op → Bool
  | .store .. | .mapUpdate .. | .insert .. => true
  | op => isAppend op
def deep : Op → Bool
  | .call c => match c.callee with
    | .value _ => true
    | _ => false
  | _ => false

def tmpsOf (xs : List Operand) : List Tmp := xs.filterMap fun | .tmp t => some t | _ => none
def headTmp : List Operand → Option Tmp
  | .tmp t :: _ => some t
  | _ => none
/-- The slot whose memory is turned. -/
def wTmp : Op → Option Tmp
  | .store _ x _ => match x with | .tmp t => some t | _ => none
  | .mapUpdate _ x _ _ => match x with | .tmp t => some t | _ => none
  | .insert _ x _ _ => match x with | .tmp t => some t | _ => none
  | .call c => match c.callee with
    | .builtin .append => headTmp c.args.toList
    | .builtin .copy => headTmp c.args.toList
    | .builtin .clear => headTmp c.args.toList
    | _ => none
  | _ => none
/-- The slots whose memory is read or turned. -/
def rTmps : Op → Option (List Tmp)
  | .load _ x => match x with | .tmp t => some [t] | _ => none
  | .store _ x _ => match x with | .tmp t => some [t] | _ => none
  | .lookup _ x _ _ => match x with | .tmp t => some [t] | _ => none
  | .entry x => match x with | .tmp t => some [t] | _ => none
  | .mapUpdate _ x _ _ => match x with | .tmp t => some [t] | _ => none
  | .insert _ x _ _ => match x with | .tmp t => some [t] | _ => none
  | .indexAddr _ x _ => match x with | .tmp t => some [t] | _ => none
  | .slice _ x _ _ mx => match x, mx with | .tmp t, none => some [t] | _, _ => none
  | .call c => match c.callee with
    | .builtin _ => some (tmpsOf c.args.toList)
    | _ => none
  | _ => none
theorem headTmp_mem {xs : List Operand} {t : Tmp} (h : headTmp xs = some t) : t ∈ tmpsOf xs := by
  unfold headTmp at h
  split at h
  · simp at h; subst h; simp [tmpsOf]
  · cases h
theorem wTmp_mem {op : Op} {t : Tmp} {ys : List Tmp} (h : wTmp op = some t) (h' : rTmps op = some ys) : t ∈ ys := by
  cases op <;> try (cases h; done)
  case store ty x z => cases x <;> simp [wTmp] at h; subst h; simp [rTmps] at h'; subst h'; simp
  case mapUpdate ty x y z => cases x <;> simp [wTmp] at h; subst h; simp [rTmps] at h'; subst h'; simp
  case insert ty x y z => cases x <;> simp [wTmp] at h; subst h; simp [rTmps] at h'; subst h'; simp
  case call c =>
    cases hc : c.callee with
    | value g => simp [wTmp, hc] at h
    | invoke r m => simp [wTmp, hc] at h
    | builtin b =>
      simp only [rTmps, hc, Option.some.injEq] at h'
      subst h'
      cases b <;> simp [wTmp, hc] at h <;> exact headTmp_mem h
def newVar : Op → Bool
  | .alloc _ | .box .. | .buildSlice .. | .makeSlice .. | .makeMap .. | .range .. => true
  | .call c => match c.callee with
    | .builtin .append => true
    | .value _ => true
    | _ => false
  | _ => false
/-- What it gives points where this slot points, if anywhere. -/
def derv : Op → Option Tmp
  | .fieldAddr _ x _ => match x with | .tmp t => some t | _ => none
  | .indexAddr _ x _ => match x with | .tmp t => some t | _ => none
  | .nilCheck x => match x with | .tmp t => some t | _ => none
  | .move x => match x with | .tmp t => some t | _ => none
  | .assign x => match x with | .tmp t => some t | _ => none
  | .slice _ x _ _ mx => match x, mx with | .tmp t, none => some t | _, _ => none
  | _ => none
def dstIs (o : Oper) (t : Tmp) : Bool := match o.dst with | some d => Nat.beq d t | none => false
theorem dstIs_iff {o : Oper} {t : Tmp} : dstIs o t = true ↔ o.dst = some t := by
  unfold dstIs
  cases o.dst with
  | none => simp
  | some d => simp only [Option.some.injEq]; exact ⟨Nat.eq_of_beq_eq_true, fun h => h ▸ Nat.beq_refl d⟩
def trkL (r : Tmp → Option (List Tmp)) (t : Tmp) : List Oper → Option (List Tmp)
  | [] => some [t]
  | o :: os => match dstIs o t with
    | false => trkL r t os
    | true => match newVar o.op with
      | true => trkL r t os
      | false => match derv o.op with
        | none => none
        | some x => match r x, trkL r t os with
          | some a, some b => some (a ++ b)
          | _, _ => none
/-- The slots whose pointers the slot may come to hold, if all that turn it in the region make a variable or point where another slot points. -/
def trk (ops : List Oper) : Nat → Tmp → Option (List Tmp)
  | 0, _ => none
  | n + 1, t => trkL (trk ops n) t ops
theorem trkL_mono {r r' : Tmp → Option (List Tmp)} (h : ∀ x a, r x = some a → r' x = some a) {t : Tmp} : ∀ {os : List Oper} {A : List Tmp}, trkL r t os = some A → trkL r' t os = some A
  | [], A, e => e
  | o :: os, A, e => by
    unfold trkL at e ⊢
    split at e
    · exact trkL_mono h e
    · split at e
      · exact trkL_mono h e
      · split at e
        · cases e
        · split at e
          · rename_i a b h1 h2
            simp only [h _ _ h1, trkL_mono h h2]
            exact e
          · cases e
theorem trk_mono {ops : List Oper} : ∀ {n : Nat} {t : Tmp} {A : List Tmp}, trk ops n t = some A → trk ops (n + 1) t = some A
  | 0, t, A, h => by cases h
  | n + 1, t, A, h => trkL_mono (fun _ _ => trk_mono) h
theorem trkL_self {r : Tmp → Option (List Tmp)} {t : Tmp} : ∀ {os : List Oper} {A : List Tmp}, trkL r t os = some A → t ∈ A
  | [], A, e => by cases e; simp
  | o :: os, A, e => by
    unfold trkL at e
    split at e
    · exact trkL_self e
    · split at e
      · exact trkL_self e
      · split at e
        · cases e
        · split at e
          · rename_i a b h1 h2
            cases e
            exact List.mem_append_right _ (trkL_self h2)
          · cases e
theorem trkL_dst {r : Tmp → Option (List Tmp)} {t : Tmp} {o : Oper} (hd : o.dst = some t) : ∀ {os : List Oper} {A : List Tmp}, o ∈ os → trkL r t os = some A →
    newVar o.op = true ∨ ∃ x B, derv o.op = some x ∧ r x = some B ∧ ∀ y ∈ B, y ∈ A
  | [], A, h, _ => by cases h
  | o' :: os, A, h, e => by
    unfold trkL at e
    split at e
    · rename_i h1
      rcases List.mem_cons.1 h with rfl | h
      · rw [dstIs_iff.2 hd] at h1; cases h1
      · exact trkL_dst hd h e
    · split at e
      · rename_i h1 h2
        rcases List.mem_cons.1 h with rfl | h
        · exact .inl h2
        · exact trkL_dst hd h e
      · split at e
        · cases e
        · rename_i x h3
          split at e
          · rename_i a b h4 h5
            cases e
            rcases List.mem_cons.1 h with rfl | h
            · exact .inr ⟨x, a, h3, h4, fun y hy => List.mem_append_left _ hy⟩
            · rcases trkL_dst hd h h5 with h6 | ⟨x, B, h6, h7, h8⟩
              · exact .inl h6
              · exact .inr ⟨x, B, h6, h7, fun y hy => List.mem_append_right _ (h8 y hy)⟩
          · cases e

def disj : List Nat → List Nat → Bool
  | [], _ => true
  | a :: r, l => (l.all fun b => !Nat.beq a b) && disj r l
theorem disj_ok : ∀ {x y : List Nat}, disj x y = true → ∀ l ∈ x, l ∉ y
  | [], _, _, l, hl => by cases hl
  | a :: r, y, h, l, hl => by
    simp only [disj, Bool.and_eq_true] at h
    rcases List.mem_cons.1 hl with rfl | hl
    · intro hy
      have := List.all_eq_true.1 h.1 l hy
      simp at this
    · exact disj_ok h.2 l hl

def farAll (ops : List Oper) (A : List Tmp) : List Tmp → Bool
  | [] => true
  | y :: r => (match trk ops 8 y with
    | some B => disj A B
    | none => false) && farAll ops A r
/-- What the first turns, and what the second reads or turns, comes from different slots. -/
def far (ops : List Oper) (p j : Oper) : Bool :=
  match wTmp p.op, rTmps j.op with
  | some x, some ys => match trk ops 8 x with
    | some A => farAll ops A ys
    | none => false
  | _, _ => false
structure Far (ops : List Oper) (p j : Oper) (x : Tmp) (ys : List Tmp) : Prop where
  p : wTmp p.op = some x
  j : rTmps j.op = some ys
  ax : ∃ A, trk ops 8 x = some A
  d : ∀ A, trk ops 8 x = some A → ∀ y ∈ ys, ∃ B, trk ops 8 y = some B ∧ disj A B = true
theorem farAll_ok {ops : List Oper} {A : List Tmp} : ∀ {ys : List Tmp}, farAll ops A ys = true → ∀ y ∈ ys, ∃ B, trk ops 8 y = some B ∧ disj A B = true
  | [], _, y, hy => by cases hy
  | z :: r, h, y, hy => by
    simp only [farAll, Bool.and_eq_true] at h
    rcases List.mem_cons.1 hy with rfl | hy
    · have h1 := h.1
      split at h1
      · rename_i B hB; exact ⟨B, hB, h1⟩
      · cases h1
    · exact farAll_ok h.2 y hy
theorem far_spec {ops : List Oper} {p j : Oper} (h : far ops p j = true) : ∃ x ys, Far ops p j x ys := by
  unfold far at h
  split at h
  · rename_i x ys h1 h2
    split at h
    · rename_i A h3
      exact ⟨x, ys, h1, h2, ⟨A, h3⟩, fun A' e1 => by rw [h3] at e1; cases e1; exact farAll_ok h⟩
    · cases h
  · cases h

def indep (ops : List Oper) (p j : Oper) : Bool :=
  (match p.dst with | some d => !(opTmps j.op).contains d && gT ops j != some d && j.dst != some d | none => true) &&
  (match j.dst with | some d => !(opTmps p.op).contains d && gT ops p != some d | none => true) &&
  (match gT ops p with | some g => !(opTmps j.op).contains g | none => true) &&
  (match gT ops j with | some g => !(opTmps p.op).contains g | none => true) &&
  ((!(wrB p.op && rdB j.op) || far ops p j) && (!(wrB j.op && rdB p.op) || far ops j p))

structure Apart (ops : List Oper) (p j : Oper) : Prop where
  d1 : ∀ d, p.dst = some d → d ∉ opTmps j.op
  d2 : ∀ d, p.dst = some d → gT ops j ≠ some d
  d3 : ∀ d, p.dst = some d → j.dst ≠ some d
  e1 : ∀ d, j.dst = some d → d ∉ opTmps p.op
  e2 : ∀ d, j.dst = some d → gT ops p ≠ some d
  g1 : ∀ g, gT ops p = some g → g ∉ opTmps j.op
  g2 : ∀ g, gT ops j = some g → g ∉ opTmps p.op
  w1 : wrB p.op = true → rdB j.op = false ∨ ∃ x ys, Far ops p j x ys
  w2 : wrB j.op = true → rdB p.op = false ∨ ∃ x ys, Far ops j p x ys

theorem indep_spec {ops : List Oper} {p j : Oper} (h : indep ops p j = true) : Apart ops p j := by
  unfold indep at h
  simp only [Bool.and_eq_true, Bool.or_eq_true, Bool.not_eq_true', Bool.and_eq_false_iff] at h
  obtain ⟨⟨⟨⟨h1, h2⟩, h3⟩, h4⟩, h5, h6⟩ := h
  constructor
  · intro d hd; rw [hd] at h1; simp at h1; exact h1.1.1
  · intro d hd; rw [hd] at h1; simp at h1; exact h1.1.2
  · intro d hd; rw [hd] at h1; simp at h1; exact h1.2
  · intro d hd; rw [hd] at h2; simp at h2; exact h2.1
  · intro d hd; rw [hd] at h2; simp at h2; exact h2.2
  · intro g hg; rw [hg] at h3; simpa using h3
  · intro g hg; rw [hg] at h4; simpa using h4
  · intro hw
    rcases h5 with (h5 | h5) | h
    · rw [hw] at h5; cases h5
    · exact .inl h5
    · exact .inr (far_spec h)
  · intro hw
    rcases h6 with (h6 | h6) | h
    · rw [hw] at h6; cases h6
    · exact .inl h6
    · exact .inr (far_spec h)

theorem Apart.symm {ops : List Oper} {p j : Oper} (h : Apart ops p j) : Apart ops j p :=
  ⟨h.e1, h.e2, fun d hd e => h.d3 d e hd, h.d1, h.d2, h.g2, h.g1, h.w2, h.w1⟩

/-! ### What an action hangs on -/
theorem ev_congr {s s' : St} {x : Operand} (h : ∀ t, x = .tmp t → s.t[t]? = s'.t[t]?) : ev s x = ev s' x := by
  cases x with
  | tmp t => simp only [ev, h t rfl]
  | _ => rfl

theorem mem_callops {c : Call} {x : Operand} (h : x ∈ c.args.toList) : x ∈ c.operands := by
  unfold Call.operands
  exact Array.mem_append.2 (.inr (Array.mem_toList_iff.1 h))

theorem actS_congr_t (X : Ctx) {s s' : St} (l : Nat) (op : Op) (h : ∀ t ∈ opTmps op, s.t[t]? = s'.t[t]?) (hb : s.b = s'.b) : actS X s l op = actS X s' l op := by
  have e : ∀ x ∈ op.operands, ev s x = ev s' x := fun x hx => ev_congr fun t ht => h t (by
    subst ht
    exact List.mem_filterMap.2 ⟨.tmp t, by simpa using hx, rfl⟩)
  have pairs : ∀ ps : Array (Nat × Operand), (∀ x ∈ ps.map (·.2), ev s x = ev s' x) → (ps.toList.map fun p => (p.1, ev s p.2)) = (ps.toList.map fun p => (p.1, ev s' p.2)) := fun ps hp =>
    List.map_congr_left fun p hm => by rw [hp p.2 (Array.mem_map.2 ⟨p, by simpa using hm, rfl⟩)]
  cases op <;> simp only [Op.operands] at e <;> simp only [actS, ← hb]
  case call c =>
    have ha : c.args.toList.map (ev s) = c.args.toList.map (ev s') := List.map_congr_left fun x hx => e x (mem_callops hx)
    cases hc : c.callee with
    | value g =>
      have hg : ev s g = ev s' g := e g (by simp [Call.operands, hc])
      simp only [hg, ha]
    | invoke r m => rfl
    | builtin b => simp only [ha]
  case build t ps => rw [pairs ps (fun x hx => e x (by simpa using hx))]
  case buildSlice t n ps => rw [pairs ps (fun x hx => e x (by simpa using hx))]
  case makeFunc fn first captured =>
    rw [List.map_congr_left (l := first.toList) (f := ev s) (g := ev s') fun x hx => e x (by simp [← Array.mem_toList_iff, hx]),
      List.map_congr_left (l := captured.toList) (f := ev s) (g := ev s') fun x hx => e x (by simp [← Array.mem_toList_iff, hx])]
  case slice t x lo hi mx => cases lo <;> cases hi <;> cases mx <;> simp_all
  all_goals first | rfl | (simp_all; done)

def labelOf : SV → Option Nat
  | .ptr l _ => some l
  | .ept l _ _ _ => some l
  | .own l => some l
  | .osl l _ _ _ => some l
  | .mown l => some l
  | .yld l => some l
  | _ => none

theorem aLoad_b (X : Ctx) {b b' : List Slot} (t : TypeId) {x : SV} (h : ∀ l, labelOf x = some l → b[l]? = b'[l]?) : aLoad X b t x = aLoad X b' t x := by
  unfold aLoad
  cases x <;> simp only [labelOf] at h <;> first | rfl | (simp only [h _ rfl])
theorem aStore_b (X : Ctx) {b b' : List Slot} (t : TypeId) {x y : SV} (h : ∀ l, labelOf x = some l → b[l]? = b'[l]?) : aStore X b t x y = aStore X b' t x y := by
  unfold aStore
  cases x <;> simp only [labelOf] at h <;> first | rfl | (simp only [h _ rfl])
theorem aLookup_b (X : Ctx) {b b' : List Slot} (t : TypeId) {x y : SV} (ok : Bool) (h : ∀ l, labelOf x = some l → b[l]? = b'[l]?) : aLookup X b t x y ok = aLookup X b' t x y ok := by
  unfold aLookup
  cases x <;> simp only [labelOf] at h <;> first | rfl | (simp only [h _ rfl])
theorem aEntry_b {b b' : List Slot} {x : SV} (h : ∀ l, labelOf x = some l → b[l]? = b'[l]?) : aEntry b x = aEntry b' x := by
  unfold aEntry
  cases x with
  | ptr l off =>
    cases off with
    | zero => simp only [h l rfl]
    | succ n => rfl
  | _ => rfl
theorem aMapUpdate_b (X : Ctx) {b b' : List Slot} (t : TypeId) {x y z : SV} (h : ∀ l, labelOf x = some l → b[l]? = b'[l]?) : aMapUpdate X b t x y z = aMapUpdate X b' t x y z := by
  unfold aMapUpdate
  cases x <;> simp only [labelOf] at h <;> first | rfl | (simp only [h _ rfl])
theorem aIndexAddr_b (X : Ctx) {b b' : List Slot} (t : TypeId) {x y : SV} (h : ∀ l, labelOf x = some l → b[l]? = b'[l]?) : aIndexAddr X b t x y = aIndexAddr X b' t x y := by
  unfold aIndexAddr
  cases x <;> simp only [labelOf] at h <;> first | rfl | (simp only [h _ rfl])
theorem aLen_b (X : Ctx) {b b' : List Slot} (t : TypeId) {x : SV} (h : ∀ l, labelOf x = some l → b[l]? = b'[l]?) : aLen X b t x = aLen X b' t x := by
  unfold aLen
  cases X.tt t with
  | none => rfl
  | some i =>
    simp only
    cases i.d <;> cases x <;> simp only [labelOf] at h <;> first | rfl | (simp only [h _ rfl])
theorem top_b {b b' : List Slot} {x : SV} (h : ∀ l, labelOf x = some l → b[l]? = b'[l]?) : top b x = top b' x := by
  cases x <;> simp only [labelOf] at h <;> first | rfl | (simp only [top, h _ rfl])
theorem aAppend_b (X : Ctx) {b b' : List Slot} (l : Nat) (t : TypeId) {x y : SV} (h : ∀ l, labelOf x = some l → b[l]? = b'[l]?) (h' : ∀ l, labelOf y = some l → b[l]? = b'[l]?) :
    aAppend X b l t x y = aAppend X b' l t x y := by
  unfold aAppend
  rw [top_b h']
  by_cases hl : ∃ l, labelOf x = some l
  · obtain ⟨l0, hl⟩ := hl
    have hb := h l0 hl
    cases x <;> simp only [labelOf] at hl <;> first | (cases hl; done) | (cases hl; simp only [hb])
  · cases x <;> first | exact absurd ⟨_, rfl⟩ hl | rfl | ((repeat' (first | rfl | split)) <;> simp_all; done)

theorem aCopy_b (X : Ctx) {b b' : List Slot} (t : TypeId) {x y : SV} (h : ∀ l, labelOf x = some l → b[l]? = b'[l]?) (h' : ∀ l, labelOf y = some l → b[l]? = b'[l]?) :
    aCopy X b t x y = aCopy X b' t x y := by
  unfold aCopy
  rw [top_b h']
  cases X.tt t with
  | none => rfl
  | some i =>
    simp only
    cases i.d <;> try rfl
    rename_i e
    simp only
    cases X.tt e with
    | none => cases x <;> rfl
    | some k => cases x <;> simp only [labelOf] at h <;> first | rfl | simp only [h _ rfl]
theorem aSlice_b (X : Ctx) {b b' : List Slot} (l : Nat) (t : TypeId) {x : SV} (lo hi mx : Option SV) (h : ∀ l, labelOf x = some l → b[l]? = b'[l]?) :
    aSlice X b l t x lo hi mx = aSlice X b' l t x lo hi mx := by
  unfold aSlice
  cases X.tt t with
  | none => rfl
  | some i =>
    simp only
    cases i.d <;> try rfl
    rename_i e
    simp only
    cases X.tt e with
    | none => rfl
    | some k => cases mx <;> cases x <;> simp only [labelOf] at h <;> first | rfl | simp only [h _ rfl]
theorem aClear_b (X : Ctx) {b b' : List Slot} (t : TypeId) {x : SV} (h : ∀ l, labelOf x = some l → b[l]? = b'[l]?) : aClear X b t x = aClear X b' t x := by
  unfold aClear
  cases X.tt t with
  | none => rfl
  | some i =>
    simp only
    cases i.d <;> try rfl
    rename_i e
    simp only
    cases X.tt e with
    | none => rfl
    | some k => cases x <;> simp only [labelOf] at h <;> first | rfl | simp only [h _ rfl]
theorem aBuiltin_b (X : Ctx) {b b' : List Slot} (l : Nat) (bi : Builtin) (ts : List TypeId) {xs : List SV} (h : ∀ x ∈ xs, ∀ l, labelOf x = some l → b[l]? = b'[l]?) :
    aBuiltin X b l bi ts xs = aBuiltin X b' l bi ts xs := by
  unfold aBuiltin
  cases bi <;> try rfl
  · simp only
    split
    · rw [aAppend_b X l _ (h _ (by simp)) (h _ (by simp))]
    · rfl
  · simp only
    split
    · rw [aClear_b X _ (h _ (by simp))]
    · rfl
  · simp only
    split
    · rw [aCopy_b X _ (h _ (by simp)) (h _ (by simp))]
    · rfl
  · simp only
    split
    · rw [aLen_b X _ (h _ (by simp))]
    · rfl

theorem actS_b1 (X : Ctx) (t : List SV) (b b' : List Slot) (l : Nat) (op : Op) (h : rdB op = false) : actS X ⟨t, b⟩ l op = actS X ⟨t, b'⟩ l op := by
  cases op <;> simp [rdB] at h <;> rfl

theorem actS_b2 (X : Ctx) (t : List SV) (b b' : List Slot) (l : Nat) (op : Op) (hd : deep op = false) (h : ∀ x ∈ op.operands, ∀ l, labelOf (ev ⟨t, b⟩ x) = some l → b[l]? = b'[l]?) :
    actS X ⟨t, b⟩ l op = actS X ⟨t, b'⟩ l op := by
  cases op <;> try rfl
  case load ty x => exact aLoad_b X ty (h x (by simp [Op.operands]))
  case store ty x y => exact aStore_b X ty (h x (by simp [Op.operands]))
  case indexAddr ty x y => exact aIndexAddr_b X ty (h x (by simp [Op.operands]))
  case lookup ty x y ok => exact aLookup_b X ty ok (h x (by simp [Op.operands]))
  case entry x => exact aEntry_b (h x (by simp [Op.operands]))
  case mapUpdate ty x y z => exact aMapUpdate_b X ty (h x (by simp [Op.operands]))
  case insert ty x y z => exact aMapUpdate_b X ty (h x (by simp [Op.operands]))
  case slice ty x lo hi mx =>
    have e : ∀ x, ev ⟨t, b⟩ x = ev ⟨t, b'⟩ x := fun x => by cases x <;> rfl
    have e' : ev ⟨t, b⟩ = ev ⟨t, b'⟩ := funext e
    simp only [actS, ← e']
    exact aSlice_b X l ty _ _ _ (h x (by simp [Op.operands]))
  case call c =>
    simp only [actS]
    cases hc : c.callee with
    | value g => simp [deep, hc] at hd
    | invoke r m => rfl
    | builtin bi =>
      simp only
      have e : c.args.toList.map (ev ⟨t, b⟩) = c.args.toList.map (ev ⟨t, b'⟩) := List.map_congr_left fun x _ => by cases x <;> rfl
      rw [← e]
      refine aBuiltin_b X l bi _ fun y hy => ?_
      obtain ⟨x, hx, rfl⟩ := List.mem_map.1 hy
      exact h x (by simp only [Op.operands]; exact mem_callops hx)

/-! ### Which slots an action turns -/
def labT (s : St) (t : Tmp) : Option Nat := labelOf ((s.t[t]?).getD .any)

theorem ofV_lab (v : Value) : labelOf (ofV v) = none := by
  have h1 : ∀ v, labelOf (ofV1 v) = none := fun v => by unfold ofV1; split <;> rfl
  unfold ofV
  split
  · rfl
  · exact h1 _
theorem actS_b3 (X : Ctx) (t : List SV) (b b' : List Slot) (l : Nat) (op : Op) {ys : List Tmp} (hm : rTmps op = some ys) (h : ∀ y ∈ ys, ∀ l, labT ⟨t, b⟩ y = some l → b[l]? = b'[l]?) :
    actS X ⟨t, b⟩ l op = actS X ⟨t, b'⟩ l op := by
  cases op <;> try (cases hm; done)
  case load ty x =>
    cases x <;> simp [rTmps] at hm
    subst hm
    exact aLoad_b X ty (h _ (by simp))
  case store ty x z =>
    cases x <;> simp [rTmps] at hm
    subst hm
    have e : ev ⟨t, b⟩ z = ev ⟨t, b'⟩ z := by cases z <;> rfl
    simp only [actS, e]
    exact aStore_b X ty (h _ (by simp))
  case indexAddr ty x z =>
    cases x <;> simp [rTmps] at hm
    subst hm
    have e : ev ⟨t, b⟩ z = ev ⟨t, b'⟩ z := by cases z <;> rfl
    simp only [actS, e]
    exact aIndexAddr_b X ty (h _ (by simp))
  case entry x =>
    cases x <;> simp [rTmps] at hm
    subst hm
    exact aEntry_b (h _ (by simp))
  case lookup ty x z ok =>
    cases x <;> simp [rTmps] at hm
    subst hm
    have e : ev ⟨t, b⟩ z = ev ⟨t, b'⟩ z := by cases z <;> rfl
    simp only [actS, e]
    exact aLookup_b X ty ok (h _ (by simp))
  case mapUpdate ty x z z' =>
    cases x <;> simp [rTmps] at hm
    subst hm
    have e : ev ⟨t, b⟩ z = ev ⟨t, b'⟩ z := by cases z <;> rfl
    have e' : ev ⟨t, b⟩ z' = ev ⟨t, b'⟩ z' := by cases z' <;> rfl
    simp only [actS, e, e']
    exact aMapUpdate_b X ty (h _ (by simp))
  case insert ty x z z' =>
    cases x <;> simp [rTmps] at hm
    subst hm
    have e : ev ⟨t, b⟩ z = ev ⟨t, b'⟩ z := by cases z <;> rfl
    have e' : ev ⟨t, b⟩ z' = ev ⟨t, b'⟩ z' := by cases z' <;> rfl
    simp only [actS, e, e']
    exact aMapUpdate_b X ty (h _ (by simp))
  case slice ty x lo hi mx =>
    cases x <;> cases mx <;> simp [rTmps] at hm
    subst hm
    have e : ∀ x, ev ⟨t, b⟩ x = ev ⟨t, b'⟩ x := fun x => by cases x <;> rfl
    have e' : ev ⟨t, b⟩ = ev ⟨t, b'⟩ := funext e
    simp only [actS, ← e']
    exact aSlice_b X l ty _ _ _ (h _ (by simp))
  case call c =>
    simp only [actS]
    cases hc : c.callee with
    | value g => simp [rTmps, hc] at hm
    | invoke r m => rfl
    | builtin bi =>
      simp only [rTmps, hc, Option.some.injEq] at hm
      subst hm
      simp only
      have e : c.args.toList.map (ev ⟨t, b⟩) = c.args.toList.map (ev ⟨t, b'⟩) := List.map_congr_left fun x _ => by cases x <;> rfl
      rw [← e]
      refine aBuiltin_b X l bi _ fun y hy => ?_
      obtain ⟨x, hx, rfl⟩ := List.mem_map.1 hy
      cases x with
      | tmp z => exact h z (List.mem_filterMap.2 ⟨.tmp z, hx, rfl⟩)
      | const v =>
        intro l hl
        have : labelOf (ofV v) = some l := hl
        rw [ofV_lab] at this; cases this
      | global g => intro l hl; cases hl
      | func f => intro l hl; cases hl

theorem mapUpdate_lab (X : Ctx) (s : St) {ty : TypeId} {z : Operand} {y y' : SV} {x : SV} {u : List (Nat × Slot)} (h : (aMapUpdate X s.b ty (ev s z) y y').out x u) :
    ∃ k sl, labelOf (ev s z) = some k ∧ u = [(k, sl)] ∧ ∃ x0, s.b[k]? = some x0 ∧ x0.live = .live := by
  unfold aMapUpdate at h
  split at h <;> try exact h.elim
  split at h <;> try exact h.elim
  split at h <;> try exact h.elim
  split at h <;> try exact h.elim
  split at h <;> try exact h.elim
  rename_i k e
  split at h <;> try exact h.elim
  rename_i hs
  split at h <;> try exact h.elim
  obtain ⟨_, _, _, rfl⟩ := h
  exact ⟨k, _, by rw [e]; rfl, rfl, _, hs, rfl⟩
theorem store_lab (X : Ctx) (s : St) (l : Nat) (op : Op) {x : SV} {u : List (Nat × Slot)} (h : (actS X s l op).out x u) {t : Tmp} (hm : wTmp op = some t) :
    ∀ q ∈ u, labT s t = some q.1 ∨ (allocs op = true ∧ q.1 = l) := by
  cases op <;> try (cases hm; done)
  case store ty z z' =>
    cases z <;> simp [wTmp] at hm
    rename_i t'
    subst hm
    simp only [actS] at h
    unfold aStore at h
    split at h <;> try exact h.elim
    split at h <;> try exact h.elim
    split at h
    · rename_i k off e
      repeat' split at h
      all_goals try exact h.elim
      obtain rfl := h.2
      intro q hq; simp at hq; subst hq
      have e' : labT s t' = labelOf (ev s (.tmp t')) := rfl
      left; rw [e', e]; rfl
    · rename_i k sz j off e
      repeat' split at h
      all_goals try exact h.elim
      obtain ⟨_, _, _, rfl⟩ := h
      intro q hq; simp at hq; subst hq
      have e' : labT s t' = labelOf (ev s (.tmp t')) := rfl
      left; rw [e', e]; rfl
    · exact h.elim
  case mapUpdate ty z z' z'' =>
    cases z <;> simp [wTmp] at hm
    rename_i t'
    subst hm
    obtain ⟨k, sl, h1, rfl, _⟩ := mapUpdate_lab X s h
    intro q hq; simp at hq; subst hq
    exact .inl h1
  case insert ty z z' z'' =>
    cases z <;> simp [wTmp] at hm
    rename_i t'
    subst hm
    obtain ⟨k, sl, h1, rfl, _⟩ := mapUpdate_lab X s h
    intro q hq; simp at hq; subst hq
    exact .inl h1
  case call c =>
    obtain ⟨callee, args, argTypes⟩ := c
    simp only [actS] at h
    cases callee with
    | value g => simp [wTmp] at hm
    | invoke r m => simp [wTmp] at hm
    | builtin bi =>
      simp only at h
      have hd : ∀ {xs : List Operand} {a b : SV}, headTmp xs = some t → xs.map (ev s) = [a, b] → labT s t = labelOf a := by
        intro xs a b h1 h2
        unfold headTmp at h1
        split at h1
        · simp at h1; subst h1
          simp only [List.map_cons, List.cons.injEq] at h2
          rw [← h2.1]; rfl
        · cases h1
      unfold aBuiltin at h
      split at h <;> simp [wTmp] at hm
      · split at h <;> try exact h.elim
        rename_i y z hts
        have hl := hd hm (by assumption)
        split at h <;> try exact h.elim
        unfold aAppend at h
        repeat' split at h
        all_goals try exact h.elim
        · obtain ⟨_, _, _, rfl⟩ := h
          intro q hq; simp at hq
          rcases hq with rfl | rfl
          · left; rw [hl]; rfl
          · right; exact ⟨rfl, rfl⟩
        · obtain ⟨_, _, _, rfl⟩ := h
          intro q hq; simp at hq; subst hq
          right; exact ⟨rfl, rfl⟩
        · obtain ⟨_, _, _, rfl⟩ := h
          intro q hq; simp at hq; subst hq
          right; exact ⟨rfl, rfl⟩
        · obtain ⟨_, _, _, rfl⟩ := h
          intro q hq; simp at hq; subst hq
          right; exact ⟨rfl, rfl⟩
      · split at h <;> try exact h.elim
        have hl := hd hm (by assumption)
        split at h <;> try exact h.elim
        unfold aCopy at h
        repeat' split at h
        all_goals try exact h.elim
        obtain ⟨_, _, _, rfl⟩ := h
        intro q hq; simp at hq; subst hq
        left; rw [hl]; rfl
      · split at h <;> try exact h.elim
        rename_i ty y hta hts
        have hl : labT s t = labelOf y := by
          unfold headTmp at hm
          split at hm
          · rename_i e1
            simp at hm; subst hm
            rw [e1] at hts
            simp only [List.map_cons, List.cons.injEq] at hts
            rw [← hts.1]; rfl
          · cases hm
        unfold aClear at h
        repeat' split at h
        all_goals try exact h.elim
        obtain ⟨_, _, _, rfl⟩ := h
        intro q hq; simp at hq; subst hq
        left; rw [hl]; rfl
      · exact h.elim

theorem derv_lab (X : Ctx) (s : St) (l : Nat) (op : Op) {x : SV} {u : List (Nat × Slot)} (h : (actS X s l op).out x u) {t : Tmp} (hm : derv op = some t) :
    ∀ k, labelOf x = some k → labT s t = some k := by
  have key : ∀ z, z = ev s (.tmp t) → ∀ k, labelOf z = some k → labT s t = some k := by rintro z rfl k hk; exact hk
  cases op <;> try (cases hm; done)
  case move z =>
    cases z <;> simp [derv] at hm
    subst hm
    obtain ⟨rfl, _⟩ := h
    exact key _ rfl
  case assign z =>
    cases z <;> simp [derv] at hm
    subst hm
    obtain ⟨rfl, _⟩ := h
    exact key _ rfl
  case nilCheck z =>
    cases z <;> simp [derv] at hm
    subst hm
    simp only [actS] at h
    split at h <;> first | exact h.elim | skip
    · rename_i e; obtain ⟨rfl, _⟩ := h; exact key _ e.symm
    · rename_i e; obtain ⟨rfl, _⟩ := h; exact key _ e.symm
    · obtain ⟨rfl, _⟩ := h; intro k hk; cases hk
  case fieldAddr ty z j =>
    cases z <;> simp [derv] at hm
    subst hm
    rename_i t
    simp only [actS] at h
    generalize hz : ev s (.tmp t) = z at h
    unfold aFieldAddr at h
    repeat' split at h
    all_goals first | exact h.elim | skip
    all_goals
      obtain ⟨rfl, _⟩ := h
      intro k hk
      exact key _ hz.symm k hk
  case slice ty z lo hi mx =>
    cases z <;> cases mx <;> simp [derv] at hm
    subst hm
    rename_i t
    have hc : ∀ a b, clip a b none = false := fun a b => by unfold clip; split <;> simp_all
    simp only [actS, Option.map_none] at h
    generalize hz : ev s (.tmp t) = z at h
    unfold aSlice at h
    simp only [hc, Bool.false_and, Bool.false_eq_true, if_false] at h
    repeat' split at h
    all_goals first | exact h.elim | skip
    all_goals
      intro k hk
      first
      | (obtain ⟨_, _, rfl, _⟩ := h; cases hk; done)
      | (obtain ⟨_, rfl, _⟩ := h; first | (cases hk; done) | exact key _ hz.symm k hk)
  case indexAddr ty z ix =>
    cases z <;> simp [derv] at hm
    subst hm
    rename_i t
    simp only [actS] at h
    generalize hz : ev s (.tmp t) = z at h
    unfold aIndexAddr at h
    repeat' split at h
    all_goals first | exact h.elim | skip
    all_goals
      intro k hk
      first
      | (obtain ⟨_, _, rfl, _⟩ := h; first | (cases hk; done) | exact key _ hz.symm k hk)
      | (obtain ⟨rfl, _⟩ := h; first | (cases hk; done) | exact key _ hz.symm k hk)
      | (obtain ⟨_, rfl, _⟩ := h; exact key _ hz.symm k hk)

/-- The labels that a slot may come to hold. -/
def labSet (ops : List Oper) (lb : List (Oper × Nat)) (s : St) (t : Tmp) : List Nat :=
  (match labT s t with | some l => [l] | none => []) ++ (lb.filterMap fun p => match dstIs p.1 t && newVar p.1.op && allocs p.1.op with | true => some p.2 | false => none)
/-- The labels that a slot may come to hold, with those of the slots that it comes from. -/
def labAll (ops : List Oper) (lb : List (Oper × Nat)) (s : St) (t : Tmp) : List Nat := match trk ops 8 t with
  | some A => A.flatMap (labSet ops lb s)
  | none => []
/-- The pointers of different slots point apart. -/
structure FarAt (ops : List Oper) (K : Tmp → List Nat) (s : St) : Prop where
  lab : ∀ t A, trk ops 8 t = some A → ∀ l, labT s t = some l → l ∈ K t
  cl : ∀ o ∈ ops, ∀ t x A, o.dst = some t → newVar o.op = false → derv o.op = some x → trk ops 8 t = some A → (∃ B, trk ops 8 x = some B) ∧ ∀ l ∈ K x, l ∈ K t
  dis : ∀ p ∈ ops, ∀ j ∈ ops, ∀ x ys, Far ops p j x ys → wrB p.op = true → ∀ y ∈ ys, ∀ l ∈ K x, l ∉ K y
/-- What the operation makes lands where it is looked for. -/
def Lands (ops : List Oper) (K : Tmp → List Nat) (o : Oper) (l : Nat) : Prop := ∀ t A, o.dst = some t → newVar o.op = true → allocs o.op = true → trk ops 8 t = some A → l ∈ K t
theorem labAll_cl {ops : List Oper} {lb : List (Oper × Nat)} {s : St} : ∀ o ∈ ops, ∀ t x A, o.dst = some t → newVar o.op = false → derv o.op = some x → trk ops 8 t = some A →
    (∃ B, trk ops 8 x = some B) ∧ ∀ l ∈ labAll ops lb s x, l ∈ labAll ops lb s t := by
  intro o ho t x A hd hn hx hA
  have hA' : trkL (trk ops 7) t ops = some A := hA
  rcases trkL_dst hd ho hA' with h | ⟨x', B, h1, h2, h3⟩
  · rw [h] at hn; cases hn
  · rw [hx] at h1; cases h1
    have h4 := trk_mono h2
    refine ⟨⟨B, h4⟩, fun l hl => ?_⟩
    unfold labAll at hl ⊢
    rw [h4] at hl
    rw [hA]
    obtain ⟨y, hy, hl⟩ := List.mem_flatMap.1 hl
    exact List.mem_flatMap.2 ⟨y, h3 y hy, hl⟩
theorem labAll_self {ops : List Oper} {lb : List (Oper × Nat)} {s : St} {t : Tmp} {A : List Tmp} (h : trk ops 8 t = some A) {l : Nat} (hl : l ∈ labSet ops lb s t) : l ∈ labAll ops lb s t := by
  unfold labAll
  rw [h]
  exact List.mem_flatMap.2 ⟨t, trkL_self (show trkL (trk ops 7) t ops = some A from h), hl⟩
theorem FarAt.ne {ops : List Oper} {K : Tmp → List Nat} {s : St} (h : FarAt ops K s) {p j : Oper} (hp : p ∈ ops) (hj : j ∈ ops) {x : Tmp} {ys : List Tmp} (F : Far ops p j x ys) (hw : wrB p.op = true) {l : Nat} (hx : labT s x = some l)
    {y : Tmp} (hm : y ∈ ys) : labT s y ≠ some l := fun hy => by
  obtain ⟨A, hA⟩ := F.ax
  obtain ⟨B, hB, _⟩ := F.d A hA y hm
  exact h.dis p hp j hj x ys F hw y hm l (h.lab x A hA l hx) (h.lab y B hB l hy)

def liveAt (b : List Slot) (l : Nat) : Prop := ∃ z, b[l]? = some z ∧ z.live = .live
def Shape (b : List Slot) (l : Nat) (op : Op) (u : List (Nat × Slot)) : Prop :=
  u = [] ∨ (allocs op = true ∧ ∃ y, u = [(l, y)]) ∨ (wrB op = true ∧ ∃ l0 y, u = [(l0, y)] ∧ liveAt b l0) ∨
    (wrB op = true ∧ allocs op = true ∧ ∃ l0 y z, u = [(l0, y), (l, z)] ∧ liveAt b l0)

theorem act_shape (X : Ctx) (s : St) (l : Nat) (op : Op) {x : SV} {u : List (Nat × Slot)} (h : (actS X s l op).out x u) : Shape s.b l op u := by
  have no : ∀ {A : Act1}, A.out x u → (∀ x' u', A.out x' u' → u' = []) → Shape s.b l op u := fun h1 h2 => .inl (h2 _ _ h1)
  cases op <;> simp only [actS] at h <;> try exact h.elim
  case move y => exact .inl h.2
  case assign y => exact .inl h.2
  case pick c y z =>
    unfold aPick at h
    split at h <;> try (first | exact h.elim | exact .inl h.2)
    split at h <;> first | exact h.elim | exact .inl h.2
  case alloc e =>
    split at h <;> first | exact h.elim | exact .inr (.inl ⟨rfl, _, h.2⟩)
  case box e y =>
    split at h <;> first | exact h.elim | exact .inr (.inl ⟨rfl, _, h.2⟩)
  case build t ps =>
    unfold aBuild at h
    repeat' split at h
    all_goals first | exact h.elim | exact .inl h.2
  case buildSlice t n ps =>
    unfold aBuildSlice at h
    repeat' split at h
    all_goals first | exact h.elim | exact .inl h.2 | exact .inr (.inl ⟨rfl, _, h.2⟩)
  case load t y =>
    unfold aLoad at h
    repeat' split at h
    all_goals first | exact h.elim | exact .inl h.2 | (obtain ⟨_, _, _, h⟩ := h; exact .inl h)
  case store t y z =>
    unfold aStore at h
    repeat' split at h
    all_goals try exact h.elim
    · rename_i hs _
      exact .inr (.inr (.inl ⟨rfl, _, _, h.2, _, hs, rfl⟩))
    · rename_i hs _
      obtain ⟨_, _, _, h⟩ := h
      exact .inr (.inr (.inl ⟨rfl, _, _, h, _, hs, rfl⟩))
  case mapUpdate t y z z' =>
    obtain ⟨k, sl, _, rfl, x0, hs, hl⟩ := mapUpdate_lab X s h
    exact .inr (.inr (.inl ⟨rfl, _, _, rfl, _, hs, hl⟩))
  case insert t y z z' =>
    obtain ⟨k, sl, _, rfl, x0, hs, hl⟩ := mapUpdate_lab X s h
    exact .inr (.inr (.inl ⟨rfl, _, _, rfl, _, hs, hl⟩))
  case entry y =>
    unfold aEntry at h
    repeat' split at h
    all_goals first | exact h.elim | exact .inl h.2
  case lookup t y z ok =>
    unfold aLookup at h
    repeat' split at h
    all_goals first | exact h.elim | (obtain ⟨_, _, _, h⟩ := h; exact .inl h)
  case makeMap t r =>
    unfold aMakeMap at h
    repeat' split at h
    all_goals first | exact h.elim | exact .inr (.inl ⟨rfl, _, h.2⟩)
  case range t y =>
    unfold aRange at h
    repeat' split at h
    all_goals first | exact h.elim | exact .inr (.inl ⟨rfl, _, h.2⟩)
  case nilCheck y =>
    repeat' split at h
    all_goals first | exact h.elim | exact .inl h.2
  case binOp bo t y z t' =>
    unfold aBin at h
    repeat' split at h
    all_goals try exact h.elim
    all_goals try exact .inl h.2
    all_goals try exact .inl h.2.2
    · unfold binLit at h; split at h <;> first | exact h.elim | exact .inl h.2
    · unfold binInt at h; split at h <;> first | exact h.elim | exact .inl h.2 | exact .inl h.2.2
  case unOp uo t y =>
    unfold aUn at h
    repeat' split at h
    all_goals first | exact h.elim | exact .inl h.2
  case convert src dst y =>
    unfold aConv at h
    repeat' split at h
    all_goals first | exact h.elim | exact .inl h.2
  case makeFunc fn fs cs => exact .inl h.2
  case makeSlice t n m =>
    unfold aMakeSlice at h
    repeat' split at h
    all_goals first | exact h.elim | exact .inr (.inl ⟨rfl, _, h.2.2⟩)
  case slice t y lo hi mx =>
    unfold aSlice at h
    split at h <;> try exact h.elim
    split at h <;> try exact h.elim
    · split at h <;> try exact h.elim
      split at h
      · rename_i hc
        split at h <;> try exact h.elim
        have hm : mx.isSome = true := by
          simp only [Bool.and_eq_true] at hc
          cases mx with
          | none => simp [clip] at hc
          | some _ => rfl
        exact .inr (.inl ⟨by cases mx <;> simp at hm; rfl, _, h.2⟩)
      · repeat' split at h
        all_goals first | exact h.elim | exact .inl h.2.2
    · repeat' split at h
      all_goals first | exact h.elim | exact .inl h.2.2
    · repeat' split at h
      all_goals first | exact h.elim | (obtain ⟨_, _, _, h⟩ := h; exact .inl h)
  case fieldAddr t y j =>
    unfold aFieldAddr at h
    repeat' split at h
    all_goals first | exact h.elim | exact .inl h.2
  case field t y j =>
    unfold aField at h
    repeat' split at h
    all_goals first | exact h.elim | exact .inl h.2
  case indexAddr t y z =>
    unfold aIndexAddr at h
    repeat' split at h
    all_goals first | exact h.elim | exact .inl h.2 | exact .inl h.2.2 | (obtain ⟨_, _, _, h⟩ := h; exact .inl h)
  case index t y z =>
    unfold aIndex at h
    repeat' split at h
    all_goals first | exact h.elim | exact .inl h.2 | exact .inl h.2.2 | (obtain ⟨_, _, _, h⟩ := h; exact .inl h)
  case extract y j =>
    repeat' split at h
    all_goals first | exact h.elim | exact .inl h.2
  case call c =>
    split at h
    · split at h <;> try exact h.elim
      unfold aCall at h
      repeat' split at h
      all_goals first | exact h.elim | (obtain ⟨_, _, _, h⟩ := h; exact .inl h)
    · rename_i bi hc
      obtain ⟨callee, args, argTypes⟩ := c
      simp only at hc h
      subst hc
      unfold aBuiltin at h
      split at h <;> try exact h.elim
      · split at h <;> try exact h.elim
        unfold aLen at h
        repeat' split at h
        all_goals first | exact h.elim | exact .inl h.2
      · split at h <;> try exact h.elim
        split at h <;> try exact h.elim
        unfold aAppend at h
        repeat' split at h
        all_goals try exact h.elim
        · rename_i hs _
          obtain ⟨_, _, _, h⟩ := h
          exact .inr (.inr (.inr ⟨rfl, rfl, _, _, _, h, _, hs, rfl⟩))
        · obtain ⟨_, _, _, h⟩ := h
          exact .inr (.inl ⟨rfl, _, h⟩)
        · obtain ⟨_, _, _, h⟩ := h
          exact .inr (.inl ⟨rfl, _, h⟩)
        · obtain ⟨_, _, _, h⟩ := h
          exact .inr (.inl ⟨rfl, _, h⟩)
      · split at h <;> try exact h.elim
        split at h <;> try exact h.elim
        unfold aCopy at h
        repeat' split at h
        all_goals try exact h.elim
        rename_i hs _
        obtain ⟨_, _, _, h⟩ := h
        exact .inr (.inr (.inl ⟨rfl, _, _, h, _, hs, rfl⟩))
      · split at h <;> try exact h.elim
        unfold aClear at h
        repeat' split at h
        all_goals try exact h.elim
        rename_i hs _
        obtain ⟨_, _, _, h⟩ := h
        exact .inr (.inr (.inl ⟨rfl, _, _, h, _, hs, rfl⟩))
      · split at h <;> try exact h.elim
        unfold aMin at h
        repeat' split at h
        all_goals first | exact h.elim | exact .inl h.2
    · exact h.elim
end Go.Vc
