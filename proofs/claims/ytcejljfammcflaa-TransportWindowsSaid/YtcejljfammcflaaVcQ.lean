/-
  The generator over code (vc), its soundness, and what it gives for a function.
-/
import Derived.Test.YtcejljfammcflaaVcP
set_option linter.unusedVariables false
set_option linter.unusedSimpArgs false
namespace Go.Vc
open Go

/-- In every world that the state s tells of, the code c runs to a state that k allows. -/
def SatD (P : Program) (c : Code) (s : St) (k : Exit → St → Prop) : Prop :=
  ∀ (f : Fr) (η : Nat → Value) (H : Heap) (a : Act) (w : World), f.sS = [] → Den f s η H a w → c.wp P (fun e a' w' => ∃ s' η' H', Den f s' η' H' a' w' ∧ k e s') a w
structure Sat (P : Unit → Program) (c : Code) (s : St) (k : Exit → St → Prop) : Prop where
  out : SatD (P ()) c s k

/-! ## Calls that are walked into -/
def guardK (ops : List Oper) (o : Oper) (s : St) (act skip : St → Prop) : Prop :=
  match gTmp ops o with
  | none => act s
  | some (none, _) => False
  | some (some g, want) => match s.t[g]? with
    | some (.bc c) => match c, want with
      | true, true => act s
      | false, false => act s
      | _, _ => skip s
    | some (.b x) => match want with
      | true => (Tru x → act { s with t := s.t.set g (.bc true) }) ∧ (Fls x → skip { s with t := s.t.set g (.bc false) })
      | false => (Tru x → skip { s with t := s.t.set g (.bc true) }) ∧ (Fls x → act { s with t := s.t.set g (.bc false) })
    | some (.nb d p) => match d, want with
      | true, true => (Hyp p → act { s with t := s.t.set g (.bc true) }) ∧ skip { s with t := s.t.set g (.bc false) }
      | false, true => act { s with t := s.t.set g (.bc true) } ∧ (Hyp p → skip { s with t := s.t.set g (.bc false) })
      | true, false => (Hyp p → skip { s with t := s.t.set g (.bc true) }) ∧ act { s with t := s.t.set g (.bc false) }
      | false, false => skip { s with t := s.t.set g (.bc true) } ∧ (Hyp p → act { s with t := s.t.set g (.bc false) })
    | some (.tup []) => skip s
    | _ => False

/-- The function that the operation calls, if it is to be walked into. -/
def inlOf (X : Ctx) (s : St) (o : Oper) : Option (Func × List SV) :=
  match o.op with
  | .call c => match c.callee with
    | .value g => match ev s g with
      | .fn (.func f) first cap => match X.sp f with
        | some _ => none
        | none => match X.inl f with
          | some fn => some (fn, first ++ c.args.toList.map (ev s) ++ cap)
          | none => none
      | _ => none
    | _ => none
  | _ => none

def opK (X : Ctx) (call : Func → List SV → List Slot → (List Slot → SV → Prop) → Prop) (o : Oper) (l : Nat) (s : St) (k : St → Prop) : Prop :=
  match inlOf X s o with
  | some (fn, args) => call fn args s.b fun b v => k (({ s with b := b } : St).upd o.dst v [])
  | none => didK X o l s k

/-- Operations one behind the other; a new label for each that lays one. -/
def seqK (X : Ctx) (call : Func → List SV → List Slot → (List Slot → SV → Prop) → Prop) (ops : List Oper) : List Oper → St → (St → Prop) → Prop
  | [], s, k => k s
  | o :: r, s, k => guardK ops o s
      (fun s => match allocs o.op with
        | true => opK X call o s.b.length { s with b := s.b ++ [.un] } fun s' => seqK X call ops r s' k
        | false => opK X call o 0 s fun s' => seqK X call ops r s' k)
      (fun s => skipK o s fun s' => seqK X call ops r s' k)

def blockK (id : Nat) (k : Exit → St → Prop) : Exit → St → Prop
  | .exit i, s => match Nat.beq i id with
    | true => k .normal s
    | false => k (.exit i) s
  | e, s => k e s

def condK (s : St) (c : Operand) (x y : St → Prop) : Prop :=
  match ev s c with
  | .bc true => x s
  | .bc false => y s
  | .b t => match c with
    | .tmp g => (Tru t → x { s with t := s.t.set g (.bc true) }) ∧ (Fls t → y { s with t := s.t.set g (.bc false) })
    | _ => (Tru t → x s) ∧ (Fls t → y s)
  | .nb d p => match c with
    | .tmp g => match d with
      | true => (Hyp p → x { s with t := s.t.set g (.bc true) }) ∧ y { s with t := s.t.set g (.bc false) }
      | false => x { s with t := s.t.set g (.bc true) } ∧ (Hyp p → y { s with t := s.t.set g (.bc false) })
    | _ => False
  | _ => False

def vcB (lk : Code → St → (Exit → St → Prop) → Prop) (X : Ctx) (call : Func → List SV → List Slot → (List Slot → SV → Prop) → Prop) : Code → St → (Exit → St → Prop) → Prop
  | .skip, s, k => k .normal s
  | .region id ops draw, s, k => match X.cut id with
    | true => lk (.region id ops draw) s k
    | false => match draw with
      | true => match farOk ops.toList s with
        | true => regionK X ops.toList s fun s' => k .normal s'
        | false => False
      | false => seqK X call ops.toList ops.toList s fun s' => k .normal s'
  | .seq x y, s, k => vcB lk X call x s fun e s' => match e with
    | .normal => vcB lk X call y s' k
    | e => k e s'
  | .cond c x y, s, k => condK s c (fun s => vcB lk X call x s k) (fun s => vcB lk X call y s k)
  | .block id x, s, k => vcB lk X call x s (blockK id k)
  | .loop x, s, k => lk (.loop x) s k
  | .scope x, s, k => vcB lk X call x s fun e s' => match e with
    | .goto _ => False
    | e => k e s'
  | .exit id, s, k => k (.exit id) s
  | .ret, s, k => k .ret s
  | _, _, _ => False

def resSV (X : Ctx) (s : St) : List ResultVar → Option (List SV)
  | [] => some []
  | .tmp t :: r => match resSV X s r with
    | some xs => some ((s.t[t]?).getD .any :: xs)
    | none => none
  | .cell t ty :: r => match resSV X s r, s.t[t]?, X.tt ty with
    | some xs, some (.ptr l off), some i => match s.b[l]? with
      | some (.fix e cs) => match getAt i cs off with
        | some v => some (v :: xs)
        | none => none
      | _ => none
    | _, _, _ => none
def tupOf : List SV → SV
  | [x] => x
  | xs => .tup xs

def retK (X : Ctx) (rs : List ResultVar) (k : List Slot → SV → Prop) : Exit → St → Prop
  | .normal, s => match resSV X s rs with
    | some xs => k s.b (tupOf xs)
    | none => False
  | .ret, s => match resSV X s rs with
    | some xs => k s.b (tupOf xs)
    | none => False
  | _, _ => False

def anys : Nat → List SV
  | 0 => []
  | n + 1 => .any :: anys n
def start (args : List SV) (n : Nat) (b : List Slot) : St := ⟨args ++ anys (n - args.length), b⟩

/-- The loops of a function that is walked into: so many rounds, one behind the other. -/
def unrollK (X : Ctx) (call : Func → List SV → List Slot → (List Slot → SV → Prop) → Prop) : Nat → Code → St → (Exit → St → Prop) → Prop
  | 0, _, _, _ => False
  | n + 1, c, s, k => match c with
    | .loop x => vcB (unrollK X call n) X call x s fun e s' => match e with
      | .normal => unrollK X call n (.loop x) s' k
      | e => k e s'
    | _ => False

def callL (X : Ctx) : Nat → Func → List SV → List Slot → (List Slot → SV → Prop) → Prop
  | 0, _, _, _, _ => False
  | n + 1, fn, args, b, k => match fn.body with
    | some c => vcB (unrollK X (callL X n) 4) X (callL X n) c (start args fn.ntmps b) (retK X fn.results.toList k)
    | none => False
def vc (P : Unit → Program) (X : Ctx) (n : Nat) : Code → St → (Exit → St → Prop) → Prop := vcB (fun c s k => Sat P c s k) X (callL X n)

def codeOk : Code → Bool
  | .region _ ops draw => storesOk ops.toList && (!draw || orderOk ops.toList)
  | .seq x y => codeOk x && codeOk y
  | .cond _ x y => codeOk x && codeOk y
  | .block _ x => codeOk x
  | .loop x => codeOk x
  | .scope x => codeOk x
  | _ => true
def fnCodeOk (fn : Func) : Bool := match fn.body with
  | some c => codeOk c
  | none => false

def InlOk (X : Ctx) : Prop := ∀ f fn, X.inl f = some fn → fnCodeOk fn = true

section
variable {P : Program} {X : Ctx} {f : Fr} {s : St} {η : Nat → Value} {H : Heap} {a : Act} {w : World}

theorem anys_eq : ∀ n, anys n = List.replicate n .any
  | 0 => rfl
  | n + 1 => by rw [anys, anys_eq n]; rfl

theorem Den.act (D : Den f s η H a w) : ∃ ts, a = ⟨ts, []⟩ ∧ relL η (qOf s.b) H s.t ts.toList := ⟨a.tmps, by cases a; have := D.d; simp at this; subst this; rfl, D.t⟩

theorem res_ok (C : X.Ok P) (D : Den f s η H a w) : ∀ (rs : List ResultVar) (xs : List SV), resSV X s rs = some xs →
    ∃ vs : List Value, (rs.mapM fun | .tmp t => pure (a.tmps.getD t undef) | .cell b t => do loadVar t (← asAddr (a.tmps.getD b undef)) : Sem (List Value)).run P w = .ok vs w ∧ relL η (qOf s.b) H xs vs
  | [], xs, h => by simp [resSV] at h; subst h; exact ⟨[], by simp, by simp [relL]⟩
  | .tmp t :: r, xs, h => by
    simp only [resSV] at h
    split at h
    · rename_i ys hy
      simp at h; subst h
      obtain ⟨vs, h1, h2⟩ := res_ok C D r ys hy
      refine ⟨a.tmps.getD t undef :: vs, ?_, ?_⟩
      · rw [List.mapM_cons]
        simp only [Sem.run_bind, Sem.run_pure, Result.andThen_ok, h1]
      · simp only [relL]; exact ⟨_, _, rfl, D.rel_tmp t, h2⟩
    · cases h
  | .cell t ty :: r, xs, h => by
    simp only [resSV] at h
    split at h
    · rename_i ys l off i hy ht hi
      split at h
      · rename_i e cs hs
        split at h
        · rename_i v hv
          simp at h; subst h
          obtain ⟨vs, h1, h2⟩ := res_ok C D r ys hy
          have I := C.tt _ _ hi
          have hr := D.rel_tmp t
          rw [ht] at hr
          simp only [Option.getD_some, rel, qOf_get hs, Slot.live] at hr
          obtain ⟨bl, g1, g2⟩ := hr
          obtain ⟨bl', us, g3, g4, g5⟩ := D.sl l _ hs
          rw [g1] at g3
          simp at g3; subst g3
          obtain ⟨k1, k2⟩ := getAt_ok I hv g5
          have hl := run_loadVar (P := P) I w bl off (us.toList.drop off) k1 (fun j u hu => by
            rw [List.getElem?_drop] at hu
            rw [cell_of_row w bl (off + j) us e (0, 0) g4]
            simpa using hu)
          refine ⟨(if i.agg then .agg ((us.toList.drop off).take i.size).toArray else (us.toList.drop off).getD 0 undef) :: vs, ?_, ?_⟩
          · have ha : (asAddr (a.tmps.getD t undef)).run P w = .ok ⟨bl, off, none⟩ w := by rw [g2]; rfl
            rw [List.mapM_cons]
            simp only [Sem.run_bind, ha, Sem.run_pure, Result.andThen_ok, hl, h1]
          · simp only [relL]; exact ⟨_, _, rfl, k2, h2⟩
        · cases h
      · cases h
    · cases h

theorem results_ok (C : X.Ok P) (D : Den f s η H a w) {fn : Func} {xs : List SV} (h : resSV X s fn.results.toList = some xs) :
    ∃ v, (results fn a.tmps).run P w = .ok v w ∧ rel η (qOf s.b) H (tupOf xs) v := by
  obtain ⟨vs, h1, h2⟩ := res_ok C D _ xs h
  have hm : (fn.results.mapM fun | .tmp t => pure (a.tmps.getD t undef) | .cell b t => do loadVar t (← asAddr (a.tmps.getD b undef)) : Sem (Array Value)).run P w = .ok vs.toArray w := by
    rw [Array.mapM_eq_mapM_toList, map_eq_pure_bind, Sem.run_bind]
    erw [h1]
    rfl
  have hl := relL_length h2
  refine ⟨if h : vs.toArray.size = 1 then vs.toArray[0] else .tuple vs.toArray, ?_, ?_⟩
  · unfold results
    rw [Sem.run_bind]
    erw [hm]
    rfl
  · unfold tupOf
    split
    · rename_i x
      simp only [relL] at h2
      obtain ⟨u, us, rfl, h3, rfl⟩ := h2
      simpa using h3
    · rename_i hne
      have : ¬ vs.toArray.size = 1 := by
        intro e
        simp at e
        rw [e] at hl
        cases xs with
        | nil => simp at hl
        | cons x r => cases r with
          | nil => exact hne x rfl
          | cons _ _ => simp at hl
      rw [dif_neg this]
      simp only [rel]
      exact ⟨vs, rfl, h2⟩

/-- What a way of meeting calls is worth. -/
def CallOk (P : Program) (X : Ctx) (call : Func → List SV → List Slot → (List Slot → SV → Prop) → Prop) : Prop :=
  ∀ fid fn args b k, X.inl fid = some fn → call fn args b k → ∀ (f : Fr) (η : Nat → Value) (H : Heap) (a : Act) (w : World) (vals : List Value), Den f ⟨args, b⟩ η H a w → a.tmps.toList = vals →
    Calls P fid vals.toArray w fun e w' => ∃ v b' η' H' a' xv, e = .returned v ∧ k b' xv ∧ Den f ⟨[], b'⟩ η' H' a' w' ∧ rel η' (qOf b') H' xv v

theorem guardK_ok (D : Den f s η H a w) {ops : Array Oper} {o : Oper} {act skip : St → Prop} (h : guardK ops.toList o s act skip) :
    ∃ s0, Den f s0 η H a w ∧ s0.b = s.b ∧ ((Region.wanted o (yielded ops a.tmps) = true ∧ act s0) ∨ (Region.wanted o (yielded ops a.tmps) = false ∧ skip s0)) := by
  unfold guardK gTmp at h
  cases hq : o.guard with
  | none =>
    rw [hq] at h
    exact ⟨s, D, rfl, .inl ⟨by simp [Region.wanted, hq], h⟩⟩
  | some p =>
    obtain ⟨j, want⟩ := p
    rw [hq] at h
    simp only at h
    cases hgt : (ops.toList[j]?).bind (·.dst) with
    | none => rw [hgt] at h; exact h.elim
    | some g =>
      rw [hgt] at h
      simp only at h
      have hw : Region.wanted o (yielded ops a.tmps) = (yielded ops a.tmps j == some want) := by simp [Region.wanted, hq]
      have hyl : ∀ y, s.t[g]? = some y → yielded ops a.tmps j = match a.tmps.getD g undef with | .bool b => some b | _ => none := by
        intro y hy
        have hg' : (ops[j]?).bind (·.dst) = some g := by simpa using hgt
        unfold yielded
        rw [hg']
        simp only [Option.bind_some, tmps_get D hy]
        cases a.tmps.getD g undef <;> rfl
      split at h
      · rename_i c hc
        have hr := D.rel_tmp g
        rw [hc] at hr
        simp only [Option.getD_some, rel] at hr
        have hy := hyl _ hc
        rw [hr] at hy
        simp only at hy
        rw [hw, hy]
        split at h
        · exact ⟨s, D, rfl, .inl ⟨by simp, h⟩⟩
        · exact ⟨s, D, rfl, .inl ⟨by simp, h⟩⟩
        · rename_i n1 n2
          refine ⟨s, D, rfl, .inr ⟨?_, h⟩⟩
          cases c <;> cases want <;> simp_all
      · rename_i x hx
        obtain ⟨D0, hr⟩ := D.guard hx (v := .bc (x ())) rfl
        simp only [rel] at hr
        have hy := hyl _ hx
        rw [hr] at hy
        simp only at hy
        rw [hw, hy]
        cases hb : x ()
        · rw [hb] at D0
          split at h
          · exact ⟨_, D0, rfl, .inr ⟨by simp, h.2 ⟨hb⟩⟩⟩
          · exact ⟨_, D0, rfl, .inl ⟨by simp, h.2 ⟨hb⟩⟩⟩
        · rw [hb] at D0
          split at h
          · exact ⟨_, D0, rfl, .inl ⟨by simp, h.1 ⟨hb⟩⟩⟩
          · exact ⟨_, D0, rfl, .inr ⟨by simp, h.1 ⟨hb⟩⟩⟩
      · rename_i d p hx
        obtain ⟨c, hr, hp⟩ := D.rel_nb hx
        have hr' : a.tmps.getD g undef = .bool c := hr
        have D0 := D.guard' hx (v := .bc c) (by simp only [rel]; exact hr)
        have hy := hyl _ hx
        rw [hr'] at hy
        simp only at hy
        rw [hw, hy]
        split at h <;> cases c
        · exact ⟨_, D0, rfl, .inr ⟨by simp, h.2⟩⟩
        · exact ⟨_, D0, rfl, .inl ⟨by simp, h.1 ⟨hp rfl⟩⟩⟩
        · exact ⟨_, D0, rfl, .inr ⟨by simp, h.2 ⟨hp rfl⟩⟩⟩
        · exact ⟨_, D0, rfl, .inl ⟨by simp, h.1⟩⟩
        · exact ⟨_, D0, rfl, .inl ⟨by simp, h.2⟩⟩
        · exact ⟨_, D0, rfl, .inr ⟨by simp, h.1 ⟨hp rfl⟩⟩⟩
        · exact ⟨_, D0, rfl, .inl ⟨by simp, h.2 ⟨hp rfl⟩⟩⟩
        · exact ⟨_, D0, rfl, .inr ⟨by simp, h.1⟩⟩
      · rename_i hx
        have hr := D.rel_tmp g
        rw [hx] at hr
        simp only [Option.getD_some, rel] at hr
        obtain ⟨vs, h1, _⟩ := hr
        have hy := hyl _ hx
        rw [h1] at hy
        simp only at hy
        rw [hw, hy]
        exact ⟨s, D, rfl, .inr ⟨by simp, h⟩⟩
      · exact h.elim

theorem opK_sound (C : X.Ok P) (I : InlOk X) {call : Func → List SV → List Slot → (List Slot → SV → Prop) → Prop} (CO : CallOk P X call) (D : Den f s η H a w) {o : Oper} {l : Nat} (hl : labelOk o l s) (hs : storeOk o)
    {k : St → Prop} (h : opK X call o l s k) {Q : Exit → Act → World → Prop} {K : Act → World → Prop} (hK : ∀ s' η' H' a' w', Den f s' η' H' a' w' → k s' → K a' w') : o.wp P a w K Q := by
  unfold opK at h
  split at h
  · rename_i fn args hin
    unfold inlOf at hin
    split at hin <;> try (cases hin; done)
    rename_i c ho
    split at hin <;> try (cases hin; done)
    rename_i g hg
    split at hin <;> try (cases hin; done)
    rename_i fid first cap hv
    split at hin <;> try (cases hin; done)
    split at hin <;> try (cases hin; done)
    rename_i fn' hfn
    simp only [Option.some.injEq, Prod.mk.injEq] at hin
    obtain ⟨rfl, rfl⟩ := hin
    have F := C.inl _ _ hfn
    have hgv := D.ev g
    rw [hv] at hgv
    simp only [rel] at hgv
    obtain ⟨fs, cs, h1, h2, h3⟩ := hgv
    have hargs : relL η (qOf s.b) H (first ++ c.args.toList.map (Vc.ev s) ++ cap) (fs ++ c.args.toList.map a.eval ++ cs) := relL_append (relL_append h2 (D.evs _)) h3
    have hrun := exec_call F ho hg h1 w
    obtain ⟨ts, ha, ht⟩ := D.act
    let f' : Fr := { f with sS := s.t ++ f.sS, sV := ts.toList ++ f.sV }
    have D' : Den f' ⟨first ++ c.args.toList.map (Vc.ev s) ++ cap, s.b⟩ η H ⟨(fs ++ c.args.toList.map a.eval ++ cs).toArray, []⟩ w := {
      t := hargs
      sv := relL_append ht D.sv
      d := rfl
      h0 := D.h0
      hw := D.hw
      fw := D.fw
      hf := D.hf
      sl := D.sl
      dj := D.dj
      dh := D.dh
      os := D.os
      tape := D.tape
      out := D.out }
    have hc := CO fid _ _ _ _ hfn h f' η H _ w _ D' rfl
    unfold Oper.wp
    rw [hrun]
    simp only [Oper.upon]
    refine hc.mono fun e w' ⟨v, b', η', H', a', xv, he, hk, D2, hr⟩ => ?_
    subst he
    simp only
    have hsv := relL_split (s := s.t) (s' := f.sS) D2.sv
    have hlen : s.t.length = ts.toList.length := (relL_length ht).symm
    have e1 : (ts.toList ++ f.sV).take s.t.length = ts.toList := by rw [hlen]; exact List.take_left
    have e2 : (ts.toList ++ f.sV).drop s.t.length = f.sV := by rw [hlen]; exact List.drop_left
    simp only [f'] at hsv
    rw [e1, e2] at hsv
    have D3 : Den f { s with b := b' } η' H' a w' := {
      t := by rw [ha]; exact hsv.1
      sv := hsv.2
      d := D.d
      h0 := D2.h0
      hw := D2.hw
      fw := D2.fw
      hf := D2.hf
      sl := D2.sl
      dj := D2.dj
      dh := D2.dh
      os := D2.os
      tape := D2.tape
      out := D2.out }
    exact hK _ η' H' _ w' (D3.put o.dst hr) hk
  · obtain ⟨s', h1, h2⟩ := (didK_iff X o l s k).1 h
    obtain ⟨x, u, h3, rfl⟩ := h1
    have := act_sound (R := fun x' u' => x' = x ∧ u' = u) C D (l := l) hl hs ((Act1.K_iff _ _).2 ⟨x, u, h3, rfl, rfl⟩)
    obtain ⟨x', u', ⟨rfl, rfl⟩, hgo⟩ := this
    exact hgo K Q fun η' H' w' v D' => hK _ η' H' _ w' D' h2

theorem seqK_sound (C : X.Ok P) (I : InlOk X) {call : Func → List SV → List Slot → (List Slot → SV → Prop) → Prop} (CO : CallOk P X call) {ops : Array Oper} (hst : storesOk ops.toList = true)
    {Q : Exit → Act → World → Prop} {k : St → Prop} (hk : ∀ s' η' H' a' w', Den f s' η' H' a' w' → k s' → Q .normal a' w') :
    ∀ (r : List Oper) (i : Nat) {s : St} {η : Nat → Value} {H : Heap} {a : Act} {w : World}, (∀ j, r[j]? = ops[i + j]?) → Den f s η H a w → seqK X call ops.toList r s k → wpOps P ops Q (List.range' i r.length) a w
  | [], i, s, η, H, a, w, _, D, h => hk s η H a w D h
  | o :: r, i, s, η, H, a, w, hr, D, h => by
    have hi : ops[i]? = some o := by simpa using (hr 0).symm
    have hr' : ∀ j, r[j]? = ops[i + 1 + j]? := fun j => by have := hr (j + 1); simpa [Nat.add_assoc, Nat.add_comm 1 j] using this
    have hso : storeOk o := by
      rintro ⟨t, x, y, he⟩
      have := List.all_eq_true.1 hst o (by simpa using Array.mem_of_getElem? hi)
      rw [he] at this
      simpa using this
    simp only [List.length_cons, List.range'_succ]
    rw [wpOps_cons]
    unfold wpOp
    rw [hi]
    simp only
    obtain ⟨s0, D0, hb, h | h⟩ := guardK_ok D (ops := ops) h
    · rw [if_pos h.1]
      left
      have h2 := h.2
      split at h2
      · rename_i hal
        have D1 := D0.ext 1
        refine opK_sound C I CO (s := { s0 with b := s0.b ++ [.un] }) D1 (fun _ => by simp) hso h2 fun s' η' H' a' w' D' hk' => ?_
        exact seqK_sound C I CO hst hk r (i + 1) hr' D' hk'
      · rename_i hal
        refine opK_sound C I CO D0 (fun ha => by rw [hal] at ha; cases ha) hso h2 fun s' η' H' a' w' D' hk' => ?_
        exact seqK_sound C I CO hst hk r (i + 1) hr' D' hk'
    · rw [if_neg (by rw [h.1]; simp)]
      have h2 := h.2
      unfold skipK at h2
      exact seqK_sound C I CO hst hk r (i + 1) hr' (D0.put o.dst (x := .tup []) (by simp only [rel]; exact ⟨[], rfl, by simp [relL]⟩)) h2

theorem condK_sound (D : Den f s η H a w) {c : Operand} {x y : St → Prop} (h : condK s c x y) : ∃ t s0, a.eval c = .bool t ∧ Den f s0 η H a w ∧ (if t then x s0 else y s0) := by
  have hc := D.ev c
  unfold condK at h
  split at h
  · rename_i e; rw [e] at hc; simp only [rel] at hc; exact ⟨true, s, hc, D, h⟩
  · rename_i e; rw [e] at hc; simp only [rel] at hc; exact ⟨false, s, hc, D, h⟩
  · rename_i t e
    rw [e] at hc; simp only [rel] at hc
    split at h
    · rename_i g
      have hg : s.t[g]? = some (.b t) := by
        simp only [ev] at e
        cases hq : s.t[g]? with
        | none => rw [hq] at e; cases e
        | some z => rw [hq] at e; simp at e; rw [e]
      obtain ⟨D0, _⟩ := D.guard hg (v := .bc (t ())) rfl
      cases hb : t ()
      · rw [hb] at D0 hc; exact ⟨false, _, hc, D0, h.2 ⟨hb⟩⟩
      · rw [hb] at D0 hc; exact ⟨true, _, hc, D0, h.1 ⟨hb⟩⟩
    · cases hb : t ()
      · rw [hb] at hc; exact ⟨false, s, hc, D, h.2 ⟨hb⟩⟩
      · rw [hb] at hc; exact ⟨true, s, hc, D, h.1 ⟨hb⟩⟩
  · rename_i d p e
    split at h <;> first | exact h.elim | skip
    rename_i g
    have hg : s.t[g]? = some (.nb d p) := by
      simp only [ev] at e
      cases hq : s.t[g]? with
      | none => rw [hq] at e; cases e
      | some z => rw [hq] at e; simp at e; rw [e]
    obtain ⟨c, hv, hp⟩ := D.rel_nb hg
    have D0 := D.guard' hg (v := .bc c) (by simp only [rel]; exact hv)
    split at h
    · cases c
      · exact ⟨false, _, hv, D0, h.2⟩
      · exact ⟨true, _, hv, D0, h.1 ⟨hp rfl⟩⟩
    · cases c
      · exact ⟨false, _, hv, D0, h.2 ⟨hp rfl⟩⟩
      · exact ⟨true, _, hv, D0, h.1⟩
  · exact h.elim

theorem vcB_sound {lk : Code → St → (Exit → St → Prop) → Prop} {φ : Fr → Prop} (C : X.Ok P) (I : InlOk X) {call : Func → List SV → List Slot → (List Slot → SV → Prop) → Prop} (CO : CallOk P X call)
    (LK : ∀ c s k, codeOk c = true → lk c s k → ∀ (f : Fr) (η : Nat → Value) (H : Heap) (a : Act) (w : World), φ f → Den f s η H a w → c.wp P (fun e a' w' => ∃ s' η' H', Den f s' η' H' a' w' ∧ k e s') a w) :
    ∀ (c : Code) (s : St) (k : Exit → St → Prop), codeOk c = true → vcB lk X call c s k → ∀ (f : Fr) (η : Nat → Value) (H : Heap) (a : Act) (w : World), φ f → Den f s η H a w → c.wp P (fun e a' w' => ∃ s' η' H', Den f s' η' H' a' w' ∧ k e s') a w
  | .skip, s, k, _, h, f, η, H, a, w, hφ, D => wp_skip ⟨s, η, H, D, h⟩
  | .region id ops draw, s, k, hc, h, f, η, H, a, w, hφ, D => by
    have hc0 := hc
    simp only [codeOk, Bool.and_eq_true, Bool.or_eq_true, Bool.not_eq_true'] at hc
    simp only [vcB] at h
    split at h
    · exact LK _ s k hc0 h f η H a w hφ D
    cases draw with
    | true =>
      simp only at h
      split at h <;> try exact h.elim
      rename_i hfar
      exact region_sound C hc.1 (fun _ => by rcases hc.2 with h | h; cases h; exact h) (fun _ => hfar) (k := fun s' => k .normal s') (fun s' η' H' a' w' D' hk => ⟨s', η', H', D', hk⟩) D h
    | false =>
      refine wp_region ?_
      have := seqK_sound C I CO hc.1 (Q := fun e a' w' => ∃ s' η' H', Den f s' η' H' a' w' ∧ k e s') (k := fun s' => k .normal s') (fun s' η' H' a' w' D' hk => ⟨s', η', H', D', hk⟩) ops.toList 0 (fun j => by simp) D h
      rw [List.range_eq_range']
      simpa using this
  | .seq x y, s, k, hc, h, f, η, H, a, w, hφ, D => by
    simp only [codeOk, Bool.and_eq_true] at hc
    simp only [vcB] at h
    refine wp_seq ?_
    refine wp_mono (vcB_sound C I CO LK x s _ hc.1 h f η H a w hφ D) ?_
    rintro e a' w' ⟨s', η', H', D', hk⟩
    cases e with
    | normal => exact vcB_sound C I CO LK y s' k hc.2 hk f η' H' a' w' hφ D'
    | _ => exact ⟨s', η', H', D', hk⟩
  | .cond c x y, s, k, hc, h, f, η, H, a, w, hφ, D => by
    simp only [codeOk, Bool.and_eq_true] at hc
    simp only [vcB] at h
    obtain ⟨t, s0, h1, D0, h2⟩ := condK_sound D h
    refine wp_cond h1 ?_
    cases t with
    | true => exact vcB_sound C I CO LK x s0 k hc.1 h2 f η H a w hφ D0
    | false => exact vcB_sound C I CO LK y s0 k hc.2 h2 f η H a w hφ D0
  | .block id x, s, k, hc, h, f, η, H, a, w, hφ, D => by
    simp only [codeOk] at hc
    simp only [vcB] at h
    refine wp_block ?_
    refine wp_mono (vcB_sound C I CO LK x s _ hc h f η H a w hφ D) ?_
    rintro e a' w' ⟨s', η', H', D', hk⟩
    cases e with
    | exit i =>
      simp only [blockK] at hk
      simp only [Exit.inBlock]
      split at hk
      · rename_i he
        rw [if_pos (Nat.eq_of_beq_eq_true he)]
        exact ⟨s', η', H', D', hk⟩
      · rename_i he
        rw [if_neg (Nat.ne_of_beq_eq_false he)]
        exact ⟨s', η', H', D', hk⟩
    | _ => exact ⟨s', η', H', D', hk⟩
  | .loop x, s, k, hc, h, f, η, H, a, w, hφ, D => by
    simp only [vcB] at h
    exact LK _ _ _ hc h f η H a w hφ D
  | .scope x, s, k, hc, h, f, η, H, a, w, hφ, D => by
    simp only [codeOk] at hc
    simp only [vcB] at h
    refine wp_scope_straight ?_
    refine wp_mono (vcB_sound C I CO LK x s _ hc h f η H a w hφ D) ?_
    rintro e a' w' ⟨s', η', H', D', hk⟩
    cases e with
    | goto l => exact hk.elim
    | _ => exact ⟨s', η', H', D', hk⟩
  | .exit id, s, k, _, h, f, η, H, a, w, hφ, D => wp_exit ⟨s, η, H, D, h⟩
  | .ret, s, k, _, h, f, η, H, a, w, hφ, D => wp_ret ⟨s, η, H, D, h⟩
  | .rangeFunc .., s, k, _, h, f, η, H, a, w, hφ, D => h.elim
  | .label _, s, k, _, h, f, η, H, a, w, hφ, D => h.elim
  | .goto _, s, k, _, h, f, η, H, a, w, hφ, D => h.elim
  | .refuse _, s, k, _, h, f, η, H, a, w, hφ, D => h.elim

theorem unrollK_sound (C : X.Ok P) (I : InlOk X) {call : Func → List SV → List Slot → (List Slot → SV → Prop) → Prop} (CO : CallOk P X call) : ∀ n,
    (∀ c s k, codeOk c = true → unrollK X call n c s k → ∀ (f : Fr) (η : Nat → Value) (H : Heap) (a : Act) (w : World), True → Den f s η H a w → c.wp P (fun e a' w' => ∃ s' η' H', Den f s' η' H' a' w' ∧ k e s') a w) ∧
    (∀ x s k, codeOk x = true → unrollK X call n (.loop x) s k → ∀ (f : Fr) (η : Nat → Value) (H : Heap) (a : Act) (w : World), Den f s η H a w → Code.rounds P x (fun e a' w' => ∃ s' η' H', Den f s' η' H' a' w' ∧ k e s') n a w)
  | 0 => ⟨fun c s k _ h => h.elim, fun x s k _ h => h.elim⟩
  | n + 1 => by
    have ih := unrollK_sound C I CO n
    have two : ∀ x s k, codeOk x = true → unrollK X call (n + 1) (.loop x) s k → ∀ (f : Fr) (η : Nat → Value) (H : Heap) (a : Act) (w : World), Den f s η H a w →
        Code.rounds P x (fun e a' w' => ∃ s' η' H', Den f s' η' H' a' w' ∧ k e s') (n + 1) a w := by
      intro x s k hc h f η H a w D
      rw [rounds_succ]
      simp only [unrollK] at h
      refine wp_mono (vcB_sound (φ := fun _ => True) C I CO ih.1 x s _ hc h f η H a w trivial D) ?_
      rintro e a' w' ⟨s', η', H', D', hk⟩
      cases e with
      | normal => exact ih.2 x s' k hc hk f η' H' a' w' D'
      | _ => exact ⟨s', η', H', D', hk⟩
    refine ⟨fun c s k hc h f η H a w _ D => ?_, two⟩
    cases c <;> try exact h.elim
    rename_i x
    exact wp_loop_rounds (n + 1) (two x s k hc h f η H a w D)

theorem callL_ok (C : X.Ok P) (I : InlOk X) : ∀ n, CallOk P X (callL X n)
  | 0 => fun fid fn args b k _ h => h.elim
  | n + 1 => fun fid fn args b k hfn h f η H a w vals D hv => by
    have F := C.inl _ _ hfn
    have hco := I _ _ hfn
    simp only [callL] at h
    split at h
    · rename_i c hb
      unfold fnCodeOk at hco
      rw [hb] at hco
      refine calls_of_wp F.get hb ?_
      have D' : Den f (start args fn.ntmps b) η H { tmps := vals.toArray ++ Array.replicate (fn.ntmps - vals.toArray.size) undef, defers := [] } w := by
        have hl := relL_length D.t
        rw [hv] at hl
        exact { D with
          t := by
            unfold start
            have h1 := D.t
            rw [hv] at h1
            simp only [Array.toList_append, Array.toList_replicate]
            refine relL_append h1 ?_
            rw [anys_eq]
            simp only [List.size_toArray]
            rw [hl]
            exact relL_map_any _ _ (by simp)
          sv := D.sv
          d := rfl
          h0 := D.h0
          hw := D.hw
          fw := D.fw
          hf := D.hf
          sl := D.sl
          dj := D.dj
          dh := D.dh
          os := D.os
          tape := D.tape
          out := D.out }
      refine wp_mono (vcB_sound (φ := fun _ => True) C I (callL_ok C I n) (unrollK_sound C I (callL_ok C I n) 4).1 c _ _ hco h f η H _ w trivial D') ?_
      rintro e a' w' ⟨s', η', H', D2, hk⟩
      have fin : ∀ xs, resSV X s' fn.results.toList = some xs → k s'.b (tupOf xs) → a'.defers = [] ∧ ∃ v, (results fn a'.tmps).run P w' = .ok v w' ∧
          ∃ v_1 b' η' H' a' xv, Ending.returned v = .returned v_1 ∧ k b' xv ∧ Den f ⟨[], b'⟩ η' H' a' w' ∧ rel η' (qOf b') H' xv v_1 := by
        intro xs hx hk
        obtain ⟨v, h1, h2⟩ := results_ok C D2 hx
        refine ⟨D2.d, v, h1, v, s'.b, η', H', ⟨#[], []⟩, _, rfl, hk, { D2 with t := by simp [relL], d := rfl }, h2⟩
      cases e with
      | normal =>
        simp only [retK] at hk
        split at hk
        · rename_i xs hx; exact fin xs hx hk
        · exact hk.elim
      | ret =>
        simp only [retK] at hk
        split at hk
        · rename_i xs hx; exact fin xs hx hk
        · exact hk.elim
      | _ => exact hk.elim
    · exact h.elim
end

theorem vc_sound {X : Ctx} {PP : Unit → Program} (C : X.Ok (PP ())) (I : InlOk X) {n : Nat} {c : Code} {s : St} {k : Exit → St → Prop} (hc : codeOk c = true) (h : vc PP X n c s k) : SatD (PP ()) c s k :=
  vcB_sound (φ := fun f => f.sS = []) C I (callL_ok C I n) (fun c s k _ h f η H a w hf D => h.out f η H a w hf D) c s k hc h
end Go.Vc
