/-
  Regions: in the order of the text, and in every order that their edges allow.
-/
import Derived.Test.YtpbechemimnikaaVcO
import Derived.RangeFuncRecord
import Derived.OrdersIn
import Derived.LoopNIn
set_option linter.unusedVariables false
set_option linter.unusedSimpArgs false
namespace Go.Vc
open Go

def regK (X : Ctx) (ops : List Oper) : List (Oper × Nat) → St → (St → Prop) → Prop
  | [], s, k => k s
  | (o, l) :: r, s, k => stepK X ops o l s fun s' => regK X ops r s' k

def labs : List Oper → Nat → List (Oper × Nat)
  | [], _ => []
  | o :: r, n => (o, n) :: labs r (match allocs o.op with | true => n + 1 | false => n)
def nAlloc : List Oper → Nat
  | [] => 0
  | o :: r => (match allocs o.op with | true => 1 | false => 0) + nAlloc r

def uns : Nat → List Slot
  | 0 => []
  | n + 1 => .un :: uns n
def regionK (X : Ctx) (ops : List Oper) (s : St) (k : St → Prop) : Prop :=
  regK X ops (labs ops s.b.length) { s with b := s.b ++ uns (nAlloc ops) } k

def isDefer : Op → Bool
  | .defer _ => true
  | _ => false
def storesOk (ops : List Oper) : Bool := ops.all fun o => match isStore o.op with | true => o.dst.isNone | false => !isDefer o.op

/-! ### The fences under which the generator works: the wide one, and a round's -/
def RF (r : Bool) (F : Fence) : Prop := match r with
  | false => F = Fence.wide
  | true => ∃ l, F = Fence.wide.inRound l
section fence
variable {P : Program} {r : Bool} {F : Fence}
theorem RF.fn (R : RF r F) (g : FuncId) : F.fn g := by
  cases r
  · have R : F = _ := R; subst R; trivial
  · obtain ⟨l, rfl⟩ := R; trivial
theorem RF.depth (R : RF r F) : F.depth = none := by
  cases r
  · have R : F = _ := R; subst R; rfl
  · obtain ⟨l, rfl⟩ := R; rfl
theorem RF.calls (R : RF r F) {n : Nat} {g : FuncId} {args : Array Value} {w : World} {K : Ending → World → Prop} (h : Calls P g args w K) : CallsIn F n P g args w K := by
  have h' : CallsIn Fence.wide n P g args w K := callsIn_wide.2 h
  cases r
  · have R : F = _ := R; subst R; exact h'
  · obtain ⟨l, rfl⟩ := R; exact h'
theorem RF.rows (R : RF r F) {n : Nat} {row : String} {args : Array Value} {w : World} {K : Value → World → Prop} (h : Rows P row args w K) : RowsIn F n P row args w K := by
  have h' : RowsIn Fence.wide n P row args w K := fun c cs _ => by
    obtain ⟨v, w', h1, h2⟩ := h c cs
    exact ⟨v, w', h1, stepsIn_wide.2 h2⟩
  cases r
  · have R : F = _ := R; subst R; exact h'
  · obtain ⟨l, rfl⟩ := R; exact h'
theorem RF.nd (R : RF r F) {n : Nat} : F.depth.isSome = true → 1 ≤ n := fun h => by rw [R.depth] at h; cases h

theorem op_in (R : RF r F) {o : Oper} (hnd : isDefer o.op = false) {a : Act} {w : World} {K : Act → World → Prop} {Q : Exit → Act → World → Prop} (h : o.wp P a w K Q) : o.wpIn F 0 P a w K Q := by
  refine ⟨fun g _ => R.fn g, ?_⟩
  rw [Oper.semAt_eq _ _ _ (fun c e => by rw [e] at hnd; cases hnd)]
  unfold Oper.wp at h
  generalize (execOp a.eval o).run P w = z at *
  cases z with
  | ok x w' =>
    cases x <;> simp only [Oper.upon, Oper.uponIn] at h ⊢ <;> first | exact h | exact ⟨R.nd, R.calls h⟩ | exact ⟨R.nd, R.rows h⟩ | exact h.elim
  | halt x w' => cases x <;> simp only [Oper.upon, Oper.uponIn] at h ⊢ <;> exact h

theorem ops_in (R : RF r F) {ops : Array Oper} {Q : Exit → Act → World → Prop} (hs : storesOk ops.toList = true) (hQ : ¬ LetsOut Q) : ∀ (l : List Nat) (a : Act) (w : World), wpOps P ops Q l a w → wpOpsIn F 0 P ops Q l a w
  | [], a, w, h => h
  | i :: l, a, w, h => by
    rw [wpOps_cons] at h
    rw [wpOpsIn_cons]
    unfold wpOp at h
    unfold wpOpIn
    cases ho : ops[i]? with
    | none => rw [ho] at h; exact ops_in R hs hQ l a w h
    | some o =>
      rw [ho] at h
      simp only at h ⊢
      by_cases hw : Region.wanted o (yielded ops a.tmps) = true
      · rw [if_pos hw] at h ⊢
        rcases h with h | h
        · refine Oper.wpIn_mono (fun a w h => ops_in R hs hQ l a w h) (op_in R ?_ h)
          have := List.all_eq_true.1 hs o (by simpa using Array.mem_of_getElem? ho)
          cases hst : isStore o.op
          · rw [hst] at this; simpa using this
          · cases hop : o.op <;> rw [hop] at hst <;> first | rfl | cases hst
        · exact absurd h.2 hQ
      · rw [if_neg hw] at h ⊢
        exact ⟨fun g _ => R.fn g, ops_in R hs hQ l _ w h⟩
end fence

theorem uns_eq : ∀ n, uns n = List.replicate n .un
  | 0 => rfl
  | n + 1 => by rw [uns, uns_eq n]; rfl

section
variable {P : Program} {X : Ctx} {f : Fr} {s : St} {η : Nat → Value} {H : Heap} {a : Act} {w : World}

theorem qOf_uns (b : List Slot) (n l : Nat) : qOf (b ++ uns n) l = qOf b l := by
  unfold qOf
  by_cases h : l < b.length
  · rw [List.getElem?_append_left h]
  · rw [List.getElem?_append_right (by omega), uns_eq, List.getElem?_replicate, List.getElem?_eq_none (by omega)]
    split <;> rename_i e
    · split at e
      · simp at e; subst e; rfl
      · cases e
    · rfl

theorem Den.ext (D : Den f s η H a w) (n : Nat) : Den f { s with b := s.b ++ uns n } η H a w := by
  have hq : qOf (s.b ++ uns n) = qOf s.b := funext fun l => qOf_uns s.b n l
  exact { D with
    t := by rw [hq]; exact D.t
    sv := by rw [hq]; exact D.sv
    sl := fun l x hx => by
      rw [hq]
      by_cases h : l < s.b.length
      · rw [List.getElem?_append_left h] at hx; exact D.sl l x hx
      · rw [List.getElem?_append_right (by omega), uns_eq, List.getElem?_replicate] at hx
        split at hx
        · simp at hx; subst hx; trivial
        · cases hx
    dj := by rw [hq]; exact D.dj
    dh := by rw [hq]; exact D.dh }

/-- The waiting operations and their labels. -/
structure Wait (ops : Array Oper) (s : St) (L : List (Nat × Oper × Nat)) : Prop where
  get : ∀ x ∈ L, ops[x.1]? = some x.2.1
  store : ∀ x ∈ L, storeOk x.2.1
  un : ∀ x ∈ L, allocs x.2.1.op = true → s.b[x.2.2]? = some .un
  lab : L.Pairwise fun x y => allocs x.2.1.op = true → allocs y.2.1.op = true → x.2.2 ≠ y.2.2

def ol (L : List (Nat × Oper × Nat)) : List (Oper × Nat) := L.map (·.2)

theorem Wait.tail {ops : Array Oper} {x : Nat × Oper × Nat} {L : List (Nat × Oper × Nat)} (W : Wait ops s (x :: L)) {s1 : St} (h : Out X ops.toList x.2.1 x.2.2 s s1) : Wait ops s1 L where
  get y hy := W.get y (by simp [hy])
  store y hy := W.store y (by simp [hy])
  un y hy ha := out_un h (W.un y (by simp [hy]) ha) fun hx => (List.pairwise_cons.1 W.lab).1 y hy hx ha
  lab := (List.pairwise_cons.1 W.lab).2

theorem regK_cons {ops : List Oper} {x : Oper × Nat} {L : List (Oper × Nat)} {k : St → Prop} : regK X ops (x :: L) s k ↔ ∃ s', Out X ops x.1 x.2 s s' ∧ regK X ops L s' k := by
  obtain ⟨o, l⟩ := x
  exact stepK_iff X ops o l s _

/-- In the order of the text. -/
theorem reg_seq (C : X.Ok P) {ops : Array Oper} {Q : Exit → Act → World → Prop} {k : St → Prop} (hk : ∀ s' η' H' a' w', Den f s' η' H' a' w' → k s' → Q .normal a' w') :
    ∀ (L : List (Nat × Oper × Nat)) {s : St} {η : Nat → Value} {H : Heap} {a : Act} {w : World}, Wait ops s L → Den f s η H a w → regK X ops.toList (ol L) s k → wpOps P ops Q (L.map (·.1)) a w
  | [], s, η, H, a, w, _, D, h => hk s η H a w D h
  | x :: L, s, η, H, a, w, W, D, h => by
    obtain ⟨s1, h1, h2⟩ := regK_cons.1 h
    simp only [List.map_cons]
    rw [wpOps_cons]
    exact out_sound C D (W.get x (by simp)) (fun ha => W.un x (by simp) ha) (W.store x (by simp)) h1 fun η' H' a' w' D' => reg_seq C hk L (W.tail h1) D' h2

/-- An operation that is apart from those ahead of it may come first. -/
theorem bubble (C : X.Ok P) {ops : Array Oper} {k : St → Prop} (x : Nat × Oper × Nat) (B : List (Nat × Oper × Nat)) : ∀ (A : List (Nat × Oper × Nat)) {s : St} {Ks : Tmp → List Nat}, Good f s → FarAt ops.toList Ks s → (∀ y ∈ A ++ x :: B, Lands ops.toList Ks y.2.1 y.2.2) → Wait ops s (A ++ x :: B) →
    (∀ p ∈ A, Apart ops.toList p.2.1 x.2.1) → regK X ops.toList (ol (A ++ x :: B)) s k → regK X ops.toList (ol (x :: A ++ B)) s k
  | [], s, _, _, _, _, _, _, h => h
  | p :: A, s, Ks, G, FA, hK, W, hA, h => by
    have mp : p.2.1 ∈ ops.toList := by have := W.get p (by simp); exact Array.mem_toList_iff.2 (Array.mem_of_getElem? this)
    have mx : x.2.1 ∈ ops.toList := by have := W.get x (by simp); exact Array.mem_toList_iff.2 (Array.mem_of_getElem? this)
    obtain ⟨s1, h1, h2⟩ := regK_cons.1 h
    have G1 := G.out C (W.get p (by simp)) (fun ha => W.un p (by simp) ha) (W.store p (by simp)) h1
    have h3 := bubble C x B A G1 (FA.out mp (hK p (by simp)) (fun f S h => (C.sp f S h).lr) h1) (fun y hy => hK y (by simp only [List.cons_append, List.mem_cons]; exact .inr hy)) (W.tail h1) (fun q hq => hA q (by simp [hq])) h2
    obtain ⟨s2, h4, h5⟩ := regK_cons.1 h3
    have hlab := (List.pairwise_cons.1 W.lab).1 x (by simp)
    obtain ⟨s1', h6, h7⟩ := swap G FA mp mx (hA p (by simp)) (fun ha => W.un p (by simp) ha) (fun ha => W.un x (by simp) ha) hlab h1 h4
    exact regK_cons.2 ⟨s1', h6, regK_cons.2 ⟨s2, h7, h5⟩⟩

/-! ### The check of the order -/
def maskOf (acc : List Nat) (o : Oper) : Nat :=
  o.after.toList.foldl (fun m e => if Region.binds .any e then m ||| (2 ^ e.on) ||| acc.getD e.on 0 else m) 0
def ordGo (ops : List Oper) : List Oper → List Oper → List Nat → Bool
  | [], _, _ => true
  | o :: r, pre, acc =>
    (o.after.toList.all fun e => !Region.binds .any e || Nat.blt e.on pre.length) &&
    (pre.zipIdx.all fun p => (maskOf acc o).testBit p.2 || indep ops p.1 o) &&
    ordGo ops r (pre ++ [o]) (acc ++ [maskOf acc o])
def orderOk (ops : List Oper) : Bool := ordGo ops ops [] []

/-- j lies among the forebears of i: in every set that is closed under 'after' and holds what i is after. -/
def Fore (ops : List Oper) (j i : Nat) : Prop := ∀ S : Nat → Prop, (∀ r o e, ops[r]? = some o → S r → e ∈ o.after.toList → Region.binds .any e = true → S e.on) →
  (∀ o e, ops[i]? = some o → e ∈ o.after.toList → Region.binds .any e = true → S e.on) → S j

theorem mask_bit (acc : List Nat) (es : List Edge) (m0 j : Nat) (h : (es.foldl (fun m e => if Region.binds .any e then m ||| (2 ^ e.on) ||| acc.getD e.on 0 else m) m0).testBit j = true) :
    m0.testBit j = true ∨ ∃ e ∈ es, Region.binds .any e = true ∧ (e.on = j ∨ (acc.getD e.on 0).testBit j = true) := by
  induction es generalizing m0 with
  | nil => exact .inl h
  | cons e es ih =>
    simp only [List.foldl_cons] at h
    rcases ih _ h with h | ⟨e', h1, h2⟩
    · split at h
      · rename_i hb
        simp only [Nat.testBit_or, Bool.or_eq_true] at h
        rcases h with (h | h) | h
        · exact .inl h
        · exact .inr ⟨e, by simp, hb, .inl (by rw [Nat.testBit_two_pow] at h; simpa using h)⟩
        · exact .inr ⟨e, by simp, hb, .inr h⟩
      · exact .inl h
    · exact .inr ⟨e', by simp [h1], h2⟩

structure Ordered (ops : List Oper) : Prop where
  back : ∀ i o e, ops[i]? = some o → e ∈ o.after.toList → Region.binds .any e = true → e.on < i
  apart : ∀ i o j p, ops[i]? = some o → ops[j]? = some p → j < i → Fore ops j i ∨ indep ops p o = true

theorem ordGo_spec (ops : List Oper) : ∀ (r pre : List Oper) (acc : List Nat), ops = pre ++ r → acc.length = pre.length →
    (∀ i j, i < pre.length → (acc.getD i 0).testBit j = true → Fore ops j i) →
    ordGo ops r pre acc = true → (∀ i o e, pre.length ≤ i → ops[i]? = some o → e ∈ o.after.toList → Region.binds .any e = true → e.on < i) ∧
      ∀ i o j p, pre.length ≤ i → ops[i]? = some o → ops[j]? = some p → j < i → Fore ops j i ∨ indep ops p o = true
  | [], pre, acc, he, _, _, _ => by
    have hn : ∀ i o, pre.length ≤ i → ops[i]? = some o → False := fun i o hi ho => by
      rw [he, List.append_nil, List.getElem?_eq_none hi] at ho; cases ho
    exact ⟨fun i o e hi ho => (hn i o hi ho).elim, fun i o j p hi ho => (hn i o hi ho).elim⟩
  | o :: r, pre, acc, he, hl, hm, h => by
    simp only [ordGo, Bool.and_eq_true] at h
    obtain ⟨⟨h1, h2⟩, h3⟩ := h
    have hat : ops[pre.length]? = some o := by rw [he]; simp
    have hback : ∀ e, e ∈ o.after.toList → Region.binds .any e = true → e.on < pre.length := by
      intro e he' hb
      have := List.all_eq_true.1 h1 e he'
      rw [hb] at this
      simpa [Nat.blt_eq] using this
    have hfore : ∀ j, (maskOf acc o).testBit j = true → Fore ops j pre.length := by
      intro j hj S hS hi
      rcases mask_bit acc o.after.toList 0 j hj with h | ⟨e, h4, h5, h6⟩
      · simp at h
      · have hSe := hi o e hat h4 h5
        rcases h6 with h6 | h6
        · rw [← h6]; exact hSe
        · exact hm e.on j (hback e h4 h5) h6 S hS fun o' e' ho' he' hb' => hS e.on o' e' ho' hSe he' hb'
    have ih := ordGo_spec ops r (pre ++ [o]) (acc ++ [maskOf acc o]) (by rw [he]; simp) (by simp [hl]) (fun i j hi hj => by
      simp at hi
      by_cases hlt : i < pre.length
      · refine hm i j hlt ?_
        rw [List.getD_eq_getElem?_getD, List.getElem?_append_left (by omega)] at hj
        rw [List.getD_eq_getElem?_getD]; exact hj
      · have : i = pre.length := by omega
        subst this
        refine hfore j ?_
        rw [List.getD_eq_getElem?_getD, List.getElem?_append_right (by omega)] at hj
        simpa [hl] using hj) h3
    simp only [List.length_append, List.length_cons, List.length_nil] at ih
    refine ⟨fun i o' e hi ho' he' hb' => ?_, fun i o' j p hi ho' hp hj => ?_⟩
    · by_cases hie : i = pre.length
      · subst hie
        rw [hat] at ho'; simp at ho'; subst ho'
        exact hback e he' hb'
      · exact ih.1 i o' e (by omega) ho' he' hb'
    · by_cases hie : i = pre.length
      · subst hie
        rw [hat] at ho'; simp at ho'; subst ho'
        have hpre : pre[j]? = some p := by rw [he, List.getElem?_append_left hj] at hp; exact hp
        have := List.all_eq_true.1 h2 (p, j) (by rw [List.mem_zipIdx_iff_getElem?]; simpa using hpre)
        simp only [Bool.or_eq_true] at this
        exact this.imp (hfore j) id
      · exact ih.2 i o' j p (by omega) ho' hp hj

theorem orderOk_spec {ops : List Oper} (h : orderOk ops = true) : Ordered ops := by
  obtain ⟨h1, h2⟩ := ordGo_spec ops ops [] [] rfl rfl (fun i j hi => by simp at hi) h
  exact ⟨fun i o e => h1 i o e (Nat.zero_le _), fun i o j p => h2 i o j p (Nat.zero_le _)⟩

/-- In whatever order. -/
theorem reg_any (C : X.Ok P) {ops : Array Oper} (O : Ordered ops.toList) {Q : Exit → Act → World → Prop} {k : St → Prop} (hk : ∀ s' η' H' a' w', Den f s' η' H' a' w' → k s' → Q .normal a' w') :
    ∀ (n : Nat) (L : List (Nat × Oper × Nat)) {listed : Array Bool} {Ks : Tmp → List Nat} {s : St} {η : Nat → Value} {H : Heap} {a : Act} {w : World}, L.length = n → Wait ops s L → L.Pairwise (fun x y => x.1 < y.1) →
      (∀ i, i < ops.size → (listed.getD i true = false ↔ ∃ x ∈ L, x.1 = i)) → (∀ i, listed.getD i false = true ∨ listed.getD i true = false ∨ ops.size ≤ i) →
      (∀ i o e, ops[i]? = some o → listed.getD i false = true → e ∈ o.after.toList → Region.binds .any e = true → listed.getD e.on false = true) →
      FarAt ops.toList Ks s → (∀ y ∈ L, Lands ops.toList Ks y.2.1 y.2.2) → Den f s η H a w → regK X ops.toList (ol L) s k → wpAny P .any ops Q n listed a w := by
  intro n
  induction n with
  | zero =>
    intro L listed Ks s η H a w hn W hinc hlist hall hdown FA hK D h
    have : L = [] := List.eq_nil_of_length_eq_zero hn
    subst this
    refine ⟨?_, hk s η H a w D h⟩
    rw [List.eq_nil_iff_forall_not_mem]
    intro i hi
    obtain ⟨h0, o, ho, _⟩ := mem_ready.1 hi
    have hlt := (Array.getElem?_eq_some_iff.1 ho).1
    obtain ⟨x, hx, _⟩ := (hlist i hlt).1 h0
    cases hx
  | succ n ih =>
    intro L listed Ks s η H a w hn W hinc hlist hall hdown FA hK D h
    constructor
    · intro hr
      -- the first that waits is ready
      cases L with
      | nil => simp at hn
      | cons x L =>
        have hx := W.get x (by simp)
        have hlt := (Array.getElem?_eq_some_iff.1 hx).1
        have : x.1 ∈ Region.ready .any ops listed := by
          refine mem_ready.2 ⟨(hlist x.1 hlt).2 ⟨x, by simp, rfl⟩, x.2.1, hx, fun e he hb => ?_⟩
          have hlt' := O.back x.1 x.2.1 e (by simpa using hx) (by simpa using he) hb
          rcases hall e.on with h1 | h1 | h1
          · exact h1
          · obtain ⟨y, hy, hye⟩ := (hlist e.on (by omega)).1 h1
            rcases List.mem_cons.1 hy with rfl | hy
            · omega
            · have := (List.pairwise_cons.1 hinc).1 y hy; omega
          · omega
        rw [hr] at this
        cases this
    · intro i hi
      obtain ⟨h0, o, ho, hdeps⟩ := mem_ready.1 hi
      have hlt := (Array.getElem?_eq_some_iff.1 ho).1
      obtain ⟨x, hx, rfl⟩ := (hlist i hlt).1 h0
      obtain ⟨A, B, rfl⟩ := List.append_of_mem hx
      have hxo := W.get x (by simp)
      rw [ho] at hxo
      simp at hxo
      have hinc' := List.pairwise_append.1 hinc
      have hA : ∀ p ∈ A, Apart ops.toList p.2.1 x.2.1 := by
        intro p hp
        have hpx : p.1 < x.1 := hinc'.2.2 p hp x (by simp)
        have hpo := W.get p (by simp [hp])
        rcases O.apart x.1 x.2.1 p.1 p.2.1 (by rw [← hxo]; simpa using ho) (by simpa using hpo) hpx with hF | hi
        · -- a forebear would be listed
          have := hF (fun r => listed.getD r false = true) (fun r o' e hr hS he hb => hdown r o' e (by simpa using hr) hS he hb)
            (fun o' e ho' he hb => by
              have : o' = o := by
                have h1 : ops[x.1]? = some o' := by simpa using ho'
                rw [ho] at h1; simpa using h1.symm
              subst this
              exact hdeps e (by simpa using he) hb)
          have hun := (hlist p.1 (Array.getElem?_eq_some_iff.1 hpo).1).2 ⟨p, by simp [hp], rfl⟩
          have hlt2 : p.1 < listed.size := by
            rcases Nat.lt_or_ge p.1 listed.size with h | h
            · exact h
            · simp [Array.getElem?_eq_none h] at this
          simp [hlt2] at this hun
          rw [this] at hun; cases hun
        · exact indep_spec hi
      have h2 := bubble C x B A ⟨η, H, a, w, D⟩ FA hK W hA h
      obtain ⟨s1, h3, h4⟩ := regK_cons.1 h2
      have hperm : (A ++ x :: B).Perm (x :: (A ++ B)) := List.perm_middle
      have W' : Wait ops s (x :: (A ++ B)) := {
        get := fun y hy => W.get y (hperm.mem_iff.2 hy)
        store := fun y hy => W.store y (hperm.mem_iff.2 hy)
        un := fun y hy => W.un y (hperm.mem_iff.2 hy)
        lab := (hperm.pairwise_iff (fun {a b} h h1 h2 => (h h2 h1).symm)).1 W.lab }
      refine out_sound C D (by rw [ho, hxo]) (fun ha => W.un x (by simp) ha) (W.store x (by simp)) h3 fun η' H' a' w' D' => ?_
      have hlsz : x.1 < listed.size := by
        rcases Nat.lt_or_ge x.1 listed.size with h | h
        · exact h
        · simp [Array.getElem?_eq_none h] at h0
      have getT : ∀ j (d : Bool), (listed.setIfInBounds x.1 true).getD j d = if x.1 = j then true else listed.getD j d := by
        intro j d
        by_cases hj : x.1 = j
        · subst hj; simp [hlsz]
        · rw [getD_set_ne d hj, if_neg hj]
      refine ih (A ++ B) (by simp at hn ⊢; omega) (W'.tail h3) ?_ ?_ ?_ ?_ (FA.out (Array.mem_toList_iff.2 (Array.mem_of_getElem? (W.get x (by simp)))) (hK x (by simp)) (fun f S h => (C.sp f S h).lr) h3) (fun y hy => hK y (hperm.mem_iff.2 (by simp only [List.mem_cons]; exact .inr hy))) D' h4
      · have := hinc'
        exact List.pairwise_append.2 ⟨hinc'.1, (List.pairwise_cons.1 hinc'.2.1).2, fun p hp q hq => hinc'.2.2 p hp q (by simp [hq])⟩
      · intro j hj
        rw [getT]
        by_cases hxj : x.1 = j
        · subst hxj
          simp only [if_true]
          refine ⟨fun h => (by cases h), fun ⟨y, hy, hyx⟩ => ?_⟩
          exfalso
          rcases List.mem_append.1 hy with hy | hy
          · have := hinc'.2.2 y hy x (by simp); omega
          · have := (List.pairwise_cons.1 hinc'.2.1).1 y hy; omega
        · rw [if_neg hxj, hlist j hj]
          constructor
          · rintro ⟨y, hy, rfl⟩
            rcases List.mem_append.1 hy with hy | hy
            · exact ⟨y, by simp [hy], rfl⟩
            · rcases List.mem_cons.1 hy with rfl | hy
              · exact absurd rfl hxj
              · exact ⟨y, by simp [hy], rfl⟩
          · rintro ⟨y, hy, rfl⟩
            rcases List.mem_append.1 hy with hy | hy
            · exact ⟨y, by simp [hy], rfl⟩
            · exact ⟨y, by simp [hy], rfl⟩
      · intro j
        rw [getT, getT]
        by_cases hxj : x.1 = j
        · simp [hxj]
        · rw [if_neg hxj, if_neg hxj]; exact hall j
      · intro j o' e hj hl he hb
        rw [getT] at hl ⊢
        split at hl
        · rename_i hxj
          subst hxj
          rw [ho] at hj; simp at hj; subst hj
          split
          · rfl
          · exact hdeps e (by simpa using he) hb
        · split
          · rfl
          · exact hdown j o' e hj hl he hb

/-! ### The check that pointers are apart -/
def farS2 (ops : List Oper) (K : Tmp → List Nat) (x : Tmp) (A : List Tmp) : List Tmp → Bool
  | [] => true
  | y :: r => (match trk ops 8 y with
    | none => true
    | some B => match disj A B with
      | true => disj (K x) (K y)
      | false => true) && farS2 ops K x A r
def farS1 (ops : List Oper) (K : Tmp → List Nat) (x : Tmp) (A : List Tmp) : List Oper → Bool
  | [] => true
  | j :: r => (match rTmps j.op with
    | some ys => (match farAll ops A ys with
      | true => farS2 ops K x A ys
      | false => true)
    | none => true) && farS1 ops K x A r
def farS (ops : List Oper) (K : Tmp → List Nat) : List Oper → Bool
  | [] => true
  | p :: r => (match wrB p.op with
    | true => (match wTmp p.op with
      | some x => (match trk ops 8 x with
        | none => true
        | some A => farS1 ops K x A ops)
      | none => true)
    | false => true) && farS ops K r
theorem farAll_of {ops : List Oper} {A : List Tmp} : ∀ {ys : List Tmp}, (∀ y ∈ ys, ∃ B, trk ops 8 y = some B ∧ disj A B = true) → farAll ops A ys = true
  | [], _ => rfl
  | y :: r, h => by
    obtain ⟨B, h1, h2⟩ := h y (by simp)
    simp only [farAll, h1, h2, Bool.true_and]
    exact farAll_of fun z hz => h z (by simp [hz])
theorem farS2_ok {ops : List Oper} {K : Tmp → List Nat} {x : Tmp} {A : List Tmp} : ∀ {ys : List Tmp}, farS2 ops K x A ys = true → (∀ y ∈ ys, ∃ B, trk ops 8 y = some B ∧ disj A B = true) → ∀ y ∈ ys, ∀ l ∈ K x, l ∉ K y
  | [], _, _, y, hy => by cases hy
  | z :: r, h, hd, y, hy => by
    simp only [farS2, Bool.and_eq_true] at h
    rcases List.mem_cons.1 hy with rfl | hy
    · obtain ⟨B, h1, h2⟩ := hd y (by simp)
      have h3 := h.1
      simp only [h1, h2] at h3
      exact disj_ok h3
    · exact farS2_ok h.2 (fun z hz => hd z (by simp [hz])) y hy
theorem farS1_ok {ops : List Oper} {K : Tmp → List Nat} {x : Tmp} {A : List Tmp} : ∀ {r : List Oper}, farS1 ops K x A r = true → ∀ j ∈ r, ∀ ys, rTmps j.op = some ys → (∀ y ∈ ys, ∃ B, trk ops 8 y = some B ∧ disj A B = true) →
    ∀ y ∈ ys, ∀ l ∈ K x, l ∉ K y
  | [], _, j, hj, _, _, _ => by cases hj
  | k :: r, h, j, hj, ys, hy, hd => by
    simp only [farS1, Bool.and_eq_true] at h
    rcases List.mem_cons.1 hj with rfl | hj
    · have h1 := h.1
      rw [hy] at h1
      simp only [farAll_of hd] at h1
      exact farS2_ok h1 hd
    · exact farS1_ok h.2 j hj ys hy hd
theorem farS_ok {ops : List Oper} {K : Tmp → List Nat} : ∀ {r : List Oper}, farS ops K r = true → ∀ p ∈ r, ∀ j ∈ ops, ∀ x ys, Far ops p j x ys → wrB p.op = true → ∀ y ∈ ys, ∀ l ∈ K x, l ∉ K y
  | [], _, p, hp, _, _, _, _, _, _ => by cases hp
  | k :: r, h, p, hp, j, hj, x, ys, F, hw => by
    simp only [farS, Bool.and_eq_true] at h
    rcases List.mem_cons.1 hp with rfl | hp
    · have h1 := h.1
      rw [hw] at h1
      simp only [F.p] at h1
      obtain ⟨A, hA⟩ := F.ax
      rw [hA] at h1
      exact farS1_ok h1 j hj ys F.j (F.d A hA)
    · exact farS_ok h.2 p hp j hj x ys F hw
def farOk (ops : List Oper) (s : St) : Bool := farS ops (labAll ops (labs ops s.b.length) s) ops

/-! ### The region as a piece of code -/
def items (ops : List Oper) (n : Nat) : List (Nat × Oper × Nat) := (labs ops n).zipIdx.map fun p => (p.2, p.1.1, p.1.2)

theorem labs_length : ∀ (ops : List Oper) (n : Nat), (labs ops n).length = ops.length
  | [], n => rfl
  | o :: r, n => by simp [labs, labs_length r]
theorem labs_get : ∀ (ops : List Oper) (n i : Nat) (p : Oper × Nat), (labs ops n)[i]? = some p → ops[i]? = some p.1
  | [], n, i, p, h => by simp [labs] at h
  | o :: r, n, 0, p, h => by simp [labs] at h; subst h; rfl
  | o :: r, n, i + 1, p, h => by simp only [labs, List.getElem?_cons_succ] at h ⊢; exact labs_get r _ i p h
theorem labs_ge : ∀ (ops : List Oper) (n : Nat), ∀ p ∈ labs ops n, n ≤ p.2 ∧ (allocs p.1.op = true → p.2 < n + nAlloc ops)
  | [], n, p, h => by simp [labs] at h
  | o :: r, n, p, h => by
    simp only [labs, List.mem_cons] at h
    rcases h with rfl | h
    · refine ⟨Nat.le_refl _, fun ha => ?_⟩
      simp only at ha
      simp only [nAlloc, ha]; omega
    · have := labs_ge r _ p h
      simp only [nAlloc]
      cases hq : allocs o.op <;> rw [hq] at this <;> simp only at this ⊢ <;> exact ⟨by omega, fun ha => by have := this.2 ha; omega⟩
theorem labs_pair : ∀ (ops : List Oper) (n : Nat), (labs ops n).Pairwise fun x y => allocs x.1.op = true → allocs y.1.op = true → x.2 ≠ y.2
  | [], n => by simp [labs]
  | o :: r, n => by
    simp only [labs, List.pairwise_cons]
    refine ⟨fun y hy hx _ => ?_, labs_pair r _⟩
    rw [hx] at hy
    have := (labs_ge r _ y hy).1
    simp only at this ⊢
    omega

theorem items_ol (ops : List Oper) (n : Nat) : ol (items ops n) = labs ops n := by
  unfold ol items
  rw [List.map_map]
  apply List.ext_getElem?
  intro i
  simp only [List.getElem?_map, List.getElem?_zipIdx]
  cases (labs ops n)[i]? <;> simp
theorem items_idx (ops : List Oper) (n : Nat) : (items ops n).map (·.1) = List.range ops.length := by
  unfold items
  rw [List.map_map]
  apply List.ext_getElem?
  intro i
  simp only [List.getElem?_map, List.getElem?_zipIdx]
  by_cases h : i < ops.length
  · have h2 : i < (labs ops n).length := by rw [labs_length]; exact h
    simp [h, h2]
  · have h2 : (labs ops n).length ≤ i := by rw [labs_length]; omega
    simp [h2, show ops.length ≤ i by omega]

theorem items_wait {ops : Array Oper} (hs : storesOk ops.toList = true) (s : St) : Wait ops { s with b := s.b ++ uns (nAlloc ops.toList) } (items ops.toList s.b.length) := by
  have mem : ∀ x ∈ items ops.toList s.b.length, (labs ops.toList s.b.length)[x.1]? = some x.2 := by
    intro x hx
    unfold items at hx
    obtain ⟨p, hp, rfl⟩ := List.mem_map.1 hx
    rw [List.mem_zipIdx_iff_getElem?] at hp
    simpa using hp
  constructor
  · intro x hx
    have := labs_get _ _ _ _ (mem x hx)
    simpa using this
  · intro x hx he
    have := labs_get _ _ _ _ (mem x hx)
    have h2 := List.all_eq_true.1 hs x.2.1 (List.mem_of_getElem? this)
    rw [he] at h2
    simpa using h2
  · intro x hx ha
    have hg := labs_ge ops.toList s.b.length x.2 (List.mem_of_getElem? (mem x hx))
    have h2 := hg.2 ha
    simp only
    rw [List.getElem?_append_right hg.1, uns_eq, List.getElem?_replicate, if_pos (by omega)]
  · unfold items
    rw [List.pairwise_map]
    have : ((labs ops.toList s.b.length).zipIdx).Pairwise fun x y => allocs x.1.1.op = true → allocs y.1.1.op = true → x.1.2 ≠ y.1.2 := by
      have h := labs_pair ops.toList s.b.length
      rw [← List.zipIdx_map_fst 0 (labs ops.toList s.b.length), List.pairwise_map] at h
      exact h
    exact this

/-- On behind a region, and nowhere else. -/
def onK (K : Act → World → Prop) : Exit → Act → World → Prop
  | .normal, a, w => K a w
  | _, _, _ => False
theorem onK_out {K : Act → World → Prop} : ¬ LetsOut (onK K) := fun ⟨_, _, h⟩ => h

theorem region_sound (C : X.Ok P) {r : Bool} {F : Fence} (R : RF r F) {id : Nat} {ops : Array Oper} {draw : Bool} (hs : storesOk ops.toList = true) (hd : draw = true → orderOk ops.toList = true) (hfar : draw = true → farOk ops.toList s = true) {Q : Exit → Act → World → Prop} {k : St → Prop}
    (hk : ∀ s' η' H' a' w', Den f s' η' H' a' w' → k s' → Q .normal a' w') (D : Den f s η H a w) (h : regionK X ops.toList s k) : (Code.region id ops draw).wpIn F 0 P Q a w := by
  refine wpIn_mono (Q := onK (Q .normal)) ?_ (fun e a' w' h => by cases e <;> first | exact h | exact h.elim)
  have hk : ∀ s' η' H' a' w', Den f s' η' H' a' w' → k s' → onK (Q .normal) .normal a' w' := hk
  have D1 := D.ext (nAlloc ops.toList)
  have W := items_wait hs s
  have h1 : regK X ops.toList (ol (items ops.toList s.b.length)) { s with b := s.b ++ uns (nAlloc ops.toList) } k := by rw [items_ol]; exact h
  cases draw with
  | false =>
    refine wpIn_region (ops_in R hs onK_out _ _ _ ?_)
    have := reg_seq C hk _ W D1 h1
    rw [items_idx] at this
    simpa using this
  | true =>
    have O := orderOk_spec (hd rfl)
    refine wpIn_region_draw fun t => ops_in R hs onK_out _ _ _ ?_
    simp only [Region.schedule, show P.follows .mixedOrders = true from C.mixed, Bool.true_or, if_true]
    refine wpAny_sound ops.size t _ a _ ?_
    have D2 : Den f { s with b := s.b ++ uns (nAlloc ops.toList) } η H a { w with drawn := w.drawn + 1 } := D1.grown (grownBy_drew w none)
    have hlen : (items ops.toList s.b.length).length = ops.size := by
      have := congrArg List.length (items_idx ops.toList s.b.length)
      simpa using this
    have FA : FarAt ops.toList (labAll ops.toList (labs ops.toList s.b.length) s) { s with b := s.b ++ uns (nAlloc ops.toList) } :=
      ⟨fun t A hA l hl => by
        have hl : labT s t = some l := hl
        exact labAll_self hA (by simp [labSet, hl]), labAll_cl, farS_ok (hfar rfl)⟩
    have hK : ∀ y ∈ items ops.toList s.b.length, Lands ops.toList (labAll ops.toList (labs ops.toList s.b.length) s) y.2.1 y.2.2 := by
      intro y hy t A ht hn hal hA
      have hm : y.2 ∈ labs ops.toList s.b.length := by rw [← items_ol]; exact List.mem_map_of_mem hy
      refine labAll_self hA ?_
      unfold labSet
      refine List.mem_append_right _ (List.mem_filterMap.2 ⟨y.2, hm, ?_⟩)
      rw [dstIs_iff.2 ht, hn, hal]
      rfl
    refine reg_any C O hk ops.size _ hlen W ?_ ?_ ?_ ?_ FA hK D2 h1
    · have h2 : ((items ops.toList s.b.length).map (·.1)).Pairwise (· < ·) := by rw [items_idx]; exact List.pairwise_lt_range
      rw [List.pairwise_map] at h2
      exact h2
    · intro i hi
      have : (Array.replicate ops.size false).getD i true = false := by simp [hi]
      simp only [this, true_iff]
      have hm : i ∈ (items ops.toList s.b.length).map (·.1) := by rw [items_idx]; simpa using hi
      obtain ⟨x, hx, rfl⟩ := List.mem_map.1 hm
      exact ⟨x, hx, rfl⟩
    · intro i
      by_cases hi : i < ops.size
      · right; left; simp [hi]
      · right; right; omega
    · intro i o e ho hl
      exfalso
      by_cases hi : i < ops.size
      · simp [hi] at hl
      · simp [hi] at hl
end
end Go.Vc
