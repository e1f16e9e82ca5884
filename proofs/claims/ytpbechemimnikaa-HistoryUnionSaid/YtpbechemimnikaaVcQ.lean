/-
  The generator over code (vc), its soundness, and what it gives for a function.
-/
import Derived.Test.YtpbechemimnikaaVcPR
set_option linter.unusedVariables false
set_option linter.unusedSimpArgs false
namespace Go.Vc
open Go

/-- In every world that the state s tells of, the code c runs to a state that k allows. S: what the frames that wait hold; r: in a round. -/
def SatD (S : List SV) (r : Bool) (P : Program) (c : Code) (s : St) (k : Exit → St → Prop) : Prop :=
  ∀ (F : Fence), RF r F → ∀ (f : Fr) (η : Nat → Value) (H : Heap) (a : Act) (w : World), f.sS = S → Den f s η H a w → c.wpIn F 0 P (Post r f k) a w
structure Sat (S : List SV) (r : Bool) (P : Unit → Program) (c : Code) (s : St) (k : Exit → St → Prop) : Prop where
  out : SatD S r (P ()) c s k

/-- What is walked into: a function, or a round of a range over a function. -/
inductive Task where
  | fn (fid : FuncId) (fn : Func)
  | rnd (l : Nat)
abbrev Into := List SV → Task → List SV → List Slot → (List Slot → SV → Prop) → Prop

/-! ## Calls that are walked into -/
def guardK (ops : List Oper) (o : Oper) (s : St) (act skip : St → Prop) : Prop :=
  match gTmp ops o with
  | none => act s
  | some (none, _) => False
  | some (some g, want) => match s.t[g]? with
    | some (.bc c) => match c, want with
      | true, true => act s
      | false, false => act s
      | _, _ => skip s
    | some (.b x) => match want with
      | true => (Tru x → act { s with t := s.t.set g (.bc true) }) ∧ (Fls x → skip { s with t := s.t.set g (.bc false) })
      | false => (Tru x → skip { s with t := s.t.set g (.bc true) }) ∧ (Fls x → act { s with t := s.t.set g (.bc false) })
    | some (.nb d p) => match d, want with
      | true, true => (Hyp p → act { s with t := s.t.set g (.bc true) }) ∧ skip { s with t := s.t.set g (.bc false) }
      | false, true => act { s with t := s.t.set g (.bc true) } ∧ (Hyp p → skip { s with t := s.t.set g (.bc false) })
      | true, false => (Hyp p → skip { s with t := s.t.set g (.bc true) }) ∧ act { s with t := s.t.set g (.bc false) }
      | false, false => skip { s with t := s.t.set g (.bc true) } ∧ (Hyp p → act { s with t := s.t.set g (.bc false) })
    | some (.tup []) => skip s
    | _ => False

/-- The function that the operation calls, if it is to be walked into. -/
def inlOf (X : Ctx) (s : St) (o : Oper) : Option (FuncId × Func × List SV) :=
  match o.op with
  | .call c => match c.callee with
    | .value g => match ev s g with
      | .fn (.func f) first cap => match X.sp f with
        | some _ => none
        | none => match X.inl f with
          | some fn => some (f, fn, first ++ c.args.toList.map (ev s) ++ cap)
          | none => none
      | _ => none
    | _ => none
  | _ => none

/-- The round that the operation asks for. -/
def yldOf (s : St) (o : Oper) : Option (Nat × List SV) :=
  match o.op with
  | .call c => match c.callee with
    | .value g => match ev s g with
      | .yld l => some (l, c.args.toList.map (ev s))
      | _ => none
    | _ => none
  | _ => none

/-- Whether a slice of the call's own is nil: then it is empty. -/
def ownNil (X : Ctx) (s : St) (o : Oper) : Option (Bool × (Unit → Prop)) :=
  match o.op with
  | .binOp op t x y _ => match ev s x with
    | .own l => match ev s y, s.b[l]?, X.tt t with
      | .nils, some (@Slot.dyn T e sz c xs), some i => match i.d, op with
        | .sl _, .eql => some (true, fun _ => xs () = [])
        | .sl _, .neq => some (false, fun _ => xs () = [])
        | _, _ => none
      | _, _, _ => none
    | _ => none
  | _ => none

/-- A step of a range over a map: over, or whatever entry has not come yet. -/
def nextK (o : Oper) (s : St) (x : Operand) (str : Bool) (k : St → Prop) : Prop :=
  match str with
  | true => False
  | false => match ev s x with
    | .ptr l 0 => match s.b[l]? with
      | some (@Slot.iter T kk c m seen cur) =>
        (Hyp (fun _ => ∀ n t, m () n = some t → n ∈ seen ()) → k (s.upd o.dst (.tup [.bc false]) [])) ∧
          ∀ (n : Int) (t : T), Hyp (fun _ => m () n = some t ∧ n ∉ seen ()) → k (s.upd o.dst (.tup (.bc true :: .i kk (fun _ => n) :: c t)) [(l, .iter kk c m (fun _ => seen () ++ [n]) (some (n, t)))])
      | _ => False
    | _ => False

def opK (X : Ctx) (call : Into) (S : List SV) (o : Oper) (l : Nat) (s : St) (k : St → Prop) : Prop :=
  match o.op with
  | .next x str => nextK o s x str k
  | _ => match inlOf X s o with
    | some (fid, fn, args) => call (s.t ++ S) (.fn fid fn) args s.b fun b v => k (({ s with b := b } : St).upd o.dst v [])
    | none => match yldOf s o with
      | some (lab, args) => call (.yld lab :: (s.t ++ S)) (.rnd lab) args s.b fun b v => k (({ s with b := b } : St).upd o.dst v [])
      | none => match ownNil X s o with
        | some (d, p) => k (s.upd o.dst (.nb d p) [])
        | none => didK X o l s k

/-- Operations one behind the other; a new label for each that lays one. -/
def seqK (X : Ctx) (call : Into) (S : List SV) (ops : List Oper) : List Oper → St → (St → Prop) → Prop
  | [], s, k => k s
  | o :: r, s, k => guardK ops o s
      (fun s => match allocs o.op with
        | true => opK X call S o s.b.length { s with b := s.b ++ [.un] } fun s' => seqK X call S ops r s' k
        | false => opK X call S o 0 s fun s' => seqK X call S ops r s' k)
      (fun s => skipK o s fun s' => seqK X call S ops r s' k)

def blockK (id : Nat) (k : Exit → St → Prop) : Exit → St → Prop
  | .exit i, s => match Nat.beq i id with
    | true => k .normal s
    | false => k (.exit i) s
  | e, s => k e s

def condK (s : St) (c : Operand) (x y : St → Prop) : Prop :=
  match ev s c with
  | .bc true => x s
  | .bc false => y s
  | .b t => match c with
    | .tmp g => (Tru t → x { s with t := s.t.set g (.bc true) }) ∧ (Fls t → y { s with t := s.t.set g (.bc false) })
    | _ => (Tru t → x s) ∧ (Fls t → y s)
  | .nb d p => match c with
    | .tmp g => match d with
      | true => (Hyp p → x { s with t := s.t.set g (.bc true) }) ∧ y { s with t := s.t.set g (.bc false) }
      | false => x { s with t := s.t.set g (.bc true) } ∧ (Hyp p → y { s with t := s.t.set g (.bc false) })
    | _ => False
  | _ => False

/-- Behind a range over a function: the jump that a round has left, if one has. -/
def rngK (k : Exit → St → Prop) : YSt → St → Prop
  | .ready, s => k .normal s
  | .ret, s => k .ret s
  | .exit id, s => k (.exit id) s
  | .busy, _ => False

def vcB (r : Bool) (S : List SV) (lk : Code → St → (Exit → St → Prop) → Prop) (X : Ctx) (call : Into) : Code → St → (Exit → St → Prop) → Prop
  | .skip, s, k => k .normal s
  | .region id ops draw, s, k => match X.cut id with
    | true => lk (.region id ops draw) s k
    | false => match draw with
      | true => match farOk ops.toList s with
        | true => regionK X ops.toList s fun s' => k .normal s'
        | false => False
      | false => seqK X call S ops.toList ops.toList s fun s' => k .normal s'
  | .seq x y, s, k => vcB r S lk X call x s fun e s' => match e with
    | .normal => vcB r S lk X call y s' k
    | e => k e s'
  | .cond c x y, s, k => condK s c (fun s => vcB r S lk X call x s k) (fun s => vcB r S lk X call y s k)
  | .block id x, s, k => vcB r S lk X call x s (blockK id k)
  | .loop x, s, k => lk (.loop x) s k
  | .scope x, s, k => vcB r S lk X call x s fun e s' => match e with
    | .goto _ => False
    | e => k e s'
  | .exit id, s, k => k (.exit id) s
  | .ret, s, k => k .ret s
  | .rangeFunc g ps asg body, s, k => match r with
    | true => False
    | false => match ev s g with
      | .fn (.func gf) [] cap => match X.sp gf with
        | some _ => False
        | none => match X.inl gf with
          | none => False
          | some fn => call (.yld s.b.length :: (s.t ++ S)) (.fn gf fn) (.yld s.b.length :: cap) (s.b ++ [.yrec s.t ps.toList asg body .ready]) fun b _ => match b[s.b.length]? with
            | some (.yrec _ _ _ _ st) => rngK k st { s with b := b.set s.b.length .dead }
            | _ => False
      | _ => False
  | _, _, _ => False

def resSV (X : Ctx) (s : St) : List ResultVar → Option (List SV)
  | [] => some []
  | .tmp t :: r => match resSV X s r with
    | some xs => some ((s.t[t]?).getD .any :: xs)
    | none => none
  | .cell t ty :: r => match resSV X s r, s.t[t]?, X.tt ty with
    | some xs, some (.ptr l off), some i => match s.b[l]? with
      | some (.fix e cs) => match getAt i cs off with
        | some v => some (v :: xs)
        | none => none
      | _ => none
    | _, _, _ => none
def tupOf : List SV → SV
  | [x] => x
  | xs => .tup xs

def retK (X : Ctx) (rs : List ResultVar) (k : List Slot → SV → Prop) : Exit → St → Prop
  | .normal, s => match resSV X s rs with
    | some xs => k s.b (tupOf xs)
    | none => False
  | .ret, s => match resSV X s rs with
    | some xs => k s.b (tupOf xs)
    | none => False
  | _, _ => False

def anys : Nat → List SV
  | 0 => []
  | n + 1 => .any :: anys n
def start (args : List SV) (n : Nat) (b : List Slot) : St := ⟨args ++ anys (n - args.length), b⟩

/-- The loops of a function that is walked into: so many rounds, one behind the other. -/
def unrollK (S : List SV) (X : Ctx) (call : Into) : Nat → Code → St → (Exit → St → Prop) → Prop
  | 0, _, _, _ => False
  | n + 1, c, s, k => match c with
    | .loop x => vcB false S (unrollK S X call n) X call x s fun e s' => match e with
      | .normal => unrollK S X call n (.loop x) s' k
      | e => k e s'
    | _ => False

def setPs : List Tmp → List SV → List SV → List SV
  | p :: ps, x :: xs, ts => setPs ps xs (ts.set p x)
  | _, _, ts => ts
/-- Behind the assignments of a round: it begins. -/
def asgK (l : Nat) (K : St → Prop) : Exit → St → Prop
  | .normal, s => match s.b[l]? with
    | some (.yrec ts ps asg body .ready) => K { s with b := s.b.set l (.yrec ts ps asg body .busy) }
    | _ => False
  | _, _ => False
/-- A round's end. -/
def rndK (l : Nat) (k : List Slot → SV → Prop) : Exit → St → Prop
  | .normal, s => match s.b[l]? with
    | some (.yrec ts ps asg body .busy) => k (s.b.set l (.yrec ts ps asg body .ready)) (.bc true)
    | _ => False
  | .ret, s => match s.b[l]? with
    | some (.yrec ts ps asg body .busy) => k (s.b.set l (.yrec ts ps asg body .ret)) (.bc false)
    | _ => False
  | .exit id, s => match s.b[l]? with
    | some (.yrec ts ps asg body .busy) => k (s.b.set l (.yrec ts ps asg body (.exit id))) (.bc false)
    | _ => False
  | _, _ => False

def codeOk : Code → Bool
  | .region _ ops draw => storesOk ops.toList && (!draw || orderOk ops.toList)
  | .seq x y => codeOk x && codeOk y
  | .cond _ x y => codeOk x && codeOk y
  | .block _ x => codeOk x
  | .loop x => codeOk x
  | .scope x => codeOk x
  | .rangeFunc _ _ x y => codeOk x && codeOk y
  | _ => true
def fnCodeOk (fn : Func) : Bool := match fn.body with
  | some c => codeOk c
  | none => false

def callL (P : Unit → Program) (X : Ctx) : Nat → Into
  | 0, _, _, _, _, _ => False
  | n + 1, S, .fn fid fn, args, b, k => match fn.body with
    | some c => match X.lp fid with
      | true => vcB false S (fun c s k => Sat S false P c s k) X (callL P X n) c (start args fn.ntmps b) (retK X fn.results.toList k)
      | false => vcB false S (unrollK S X (callL P X n) 4) X (callL P X n) c (start args fn.ntmps b) (retK X fn.results.toList k)
    | none => False
  | n + 1, S, .rnd l, args, b, k => match b[l]? with
    | some (.yrec ts ps asg body .ready) => match Nat.beq args.length ps.length && codeOk asg && codeOk body with
      | true => vcB true S (fun c s k => Sat S true P c s k) X (callL P X n) asg ⟨setPs ps args ts, b⟩
          (asgK l fun s => vcB true S (fun c s k => Sat S true P c s k) X (callL P X n) body s (rndK l k))
      | false => False
    | _ => False
def vcS (S : List SV) (r : Bool) (P : Unit → Program) (X : Ctx) (n : Nat) : Code → St → (Exit → St → Prop) → Prop := vcB r S (fun c s k => Sat S r P c s k) X (callL P X n)
abbrev vc (P : Unit → Program) (X : Ctx) (n : Nat) : Code → St → (Exit → St → Prop) → Prop := vcS [] false P X n

def InlOk (X : Ctx) : Prop := ∀ f fn, X.inl f = some fn → fnCodeOk fn = true

section
variable {P : Program} {X : Ctx} {f : Fr} {s : St} {η : Nat → Value} {H : Heap} {a : Act} {w : World}

theorem anys_eq : ∀ n, anys n = List.replicate n .any
  | 0 => rfl
  | n + 1 => by rw [anys, anys_eq n]; rfl

theorem res_ok (C : X.Ok P) (D : Den f s η H a w) : ∀ (rs : List ResultVar) (xs : List SV), resSV X s rs = some xs →
    ∃ vs : List Value, (rs.mapM fun | .tmp t => pure (a.tmps.getD t undef) | .cell b t => do loadVar t (← asAddr (a.tmps.getD b undef)) : Sem (List Value)).run P w = .ok vs w ∧ relL η (qOf s.b) H xs vs
  | [], xs, h => by simp [resSV] at h; subst h; exact ⟨[], by simp, by simp [relL]⟩
  | .tmp t :: r, xs, h => by
    simp only [resSV] at h
    split at h
    · rename_i ys hy
      simp at h; subst h
      obtain ⟨vs, h1, h2⟩ := res_ok C D r ys hy
      refine ⟨a.tmps.getD t undef :: vs, ?_, ?_⟩
      · rw [List.mapM_cons]
        simp only [Sem.run_bind, Sem.run_pure, Result.andThen_ok, h1]
      · simp only [relL]; exact ⟨_, _, rfl, D.rel_tmp t, h2⟩
    · cases h
  | .cell t ty :: r, xs, h => by
    simp only [resSV] at h
    split at h
    · rename_i ys l off i hy ht hi
      split at h
      · rename_i e cs hs
        split at h
        · rename_i v hv
          simp at h; subst h
          obtain ⟨vs, h1, h2⟩ := res_ok C D r ys hy
          have I := C.tt _ _ hi
          have hr := D.rel_tmp t
          rw [ht] at hr
          simp only [Option.getD_some, rel, qOf_get hs, Slot.live] at hr
          obtain ⟨bl, g1, g2⟩ := hr
          obtain ⟨bl', us, g3, g4, g5⟩ := D.sl l _ hs
          rw [g1] at g3
          simp at g3; subst g3
          obtain ⟨k1, k2⟩ := getAt_ok I hv g5
          have hl := run_loadVar (P := P) I w bl off (us.toList.drop off) k1 (fun j u hu => by
            rw [List.getElem?_drop] at hu
            rw [cell_of_row w bl (off + j) us e (0, 0) g4]
            simpa using hu)
          refine ⟨(if i.agg then .agg ((us.toList.drop off).take i.size).toArray else (us.toList.drop off).getD 0 undef) :: vs, ?_, ?_⟩
          · have ha : (asAddr (a.tmps.getD t undef)).run P w = .ok ⟨bl, off, none⟩ w := by rw [g2]; rfl
            rw [List.mapM_cons]
            simp only [Sem.run_bind, ha, Sem.run_pure, Result.andThen_ok, hl, h1]
          · simp only [relL]; exact ⟨_, _, rfl, k2, h2⟩
        · cases h
      · cases h
    · cases h

theorem results_ok (C : X.Ok P) (D : Den f s η H a w) {fn : Func} {xs : List SV} (h : resSV X s fn.results.toList = some xs) :
    ∃ v, (results fn a.tmps).run P w = .ok v w ∧ rel η (qOf s.b) H (tupOf xs) v := by
  obtain ⟨vs, h1, h2⟩ := res_ok C D _ xs h
  have hm : (fn.results.mapM fun | .tmp t => pure (a.tmps.getD t undef) | .cell b t => do loadVar t (← asAddr (a.tmps.getD b undef)) : Sem (Array Value)).run P w = .ok vs.toArray w := by
    rw [Array.mapM_eq_mapM_toList, map_eq_pure_bind, Sem.run_bind]
    erw [h1]
    rfl
  have hl := relL_length h2
  refine ⟨if h : vs.toArray.size = 1 then vs.toArray[0] else .tuple vs.toArray, ?_, ?_⟩
  · unfold results
    rw [Sem.run_bind]
    erw [hm]
    rfl
  · unfold tupOf
    split
    · rename_i x
      simp only [relL] at h2
      obtain ⟨u, us, rfl, h3, rfl⟩ := h2
      simpa using h3
    · rename_i hne
      have : ¬ vs.toArray.size = 1 := by
        intro e
        simp at e
        rw [e] at hl
        cases xs with
        | nil => simp at hl
        | cons x r => cases r with
          | nil => exact hne x rfl
          | cons _ _ => simp at hl
      rw [dif_neg this]
      simp only [rel]
      exact ⟨vs, rfl, h2⟩

/-- Back from what was walked into. -/
def Back (f : Fr) (k : List Slot → SV → Prop) : Ending → World → Prop :=
  fun e w' => ∃ v b' η' H' xv, e = .returned v ∧ k b' xv ∧ Den f ⟨[], b'⟩ η' H' ⟨#[], []⟩ w' ∧ rel η' (qOf b') H' xv v

/-- What a way of meeting calls is worth. -/
structure CallOk (P : Program) (X : Ctx) (call : Into) : Prop where
  fn : ∀ S fid fn args b k, X.inl fid = some fn → call S (.fn fid fn) args b k → ∀ (f : Fr) (η : Nat → Value) (H : Heap) (a : Act) (w : World), f.sS = S → f.dS = [] → Den f ⟨args, b⟩ η H a w →
    Calls P fid a.tmps w (Back f k)
  rnd : ∀ S l args b k, call (.yld l :: S) (.rnd l) args b k → ∀ (f : Fr) (η : Nat → Value) (H : Heap) (a : Act) (w : World), f.sS = .yld l :: S → f.dS = [] → Den f ⟨args, b⟩ η H a w →
    ∃ bl rec, η l = .pointer (some ⟨bl, 0, none⟩) ∧ qOf b l = .live ∧ w.heap[bl]? = some (.loop rec) ∧ a.tmps.size = rec.params.size ∧
      ∀ (r : Bool) (F : Fence), RF r F → RoundIn F 0 P bl rec.fn ((rec.params.zip a.tmps).foldl (fun tmps (t, a) => tmps.setIfInBounds t a) rec.tmps) rec.assign rec.body w (Back f k)

theorem guardK_ok (D : Den f s η H a w) {ops : Array Oper} {o : Oper} {act skip : St → Prop} (h : guardK ops.toList o s act skip) :
    ∃ s0, Den f s0 η H a w ∧ s0.b = s.b ∧ ((Region.wanted o (yielded ops a.tmps) = true ∧ act s0) ∨ (Region.wanted o (yielded ops a.tmps) = false ∧ skip s0)) := by
  unfold guardK gTmp at h
  cases hq : o.guard with
  | none =>
    rw [hq] at h
    exact ⟨s, D, rfl, .inl ⟨by simp [Region.wanted, hq], h⟩⟩
  | some p =>
    obtain ⟨j, want⟩ := p
    rw [hq] at h
    simp only at h
    cases hgt : (ops.toList[j]?).bind (·.dst) with
    | none => rw [hgt] at h; exact h.elim
    | some g =>
      rw [hgt] at h
      simp only at h
      have hw : Region.wanted o (yielded ops a.tmps) = (yielded ops a.tmps j == some want) := by simp [Region.wanted, hq]
      have hyl : ∀ y, s.t[g]? = some y → yielded ops a.tmps j = match a.tmps.getD g undef with | .bool b => some b | _ => none := by
        intro y hy
        have hg' : (ops[j]?).bind (·.dst) = some g := by simpa using hgt
        unfold yielded
        rw [hg']
        simp only [Option.bind_some, tmps_get D hy]
        cases a.tmps.getD g undef <;> rfl
      split at h
      · rename_i c hc
        have hr := D.rel_tmp g
        rw [hc] at hr
        simp only [Option.getD_some, rel] at hr
        have hy := hyl _ hc
        rw [hr] at hy
        simp only at hy
        rw [hw, hy]
        split at h
        · exact ⟨s, D, rfl, .inl ⟨by simp, h⟩⟩
        · exact ⟨s, D, rfl, .inl ⟨by simp, h⟩⟩
        · rename_i n1 n2
          refine ⟨s, D, rfl, .inr ⟨?_, h⟩⟩
          cases c <;> cases want <;> simp_all
      · rename_i x hx
        obtain ⟨D0, hr⟩ := D.guard hx (v := .bc (x ())) rfl
        simp only [rel] at hr
        have hy := hyl _ hx
        rw [hr] at hy
        simp only at hy
        rw [hw, hy]
        cases hb : x ()
        · rw [hb] at D0
          split at h
          · exact ⟨_, D0, rfl, .inr ⟨by simp, h.2 ⟨hb⟩⟩⟩
          · exact ⟨_, D0, rfl, .inl ⟨by simp, h.2 ⟨hb⟩⟩⟩
        · rw [hb] at D0
          split at h
          · exact ⟨_, D0, rfl, .inl ⟨by simp, h.1 ⟨hb⟩⟩⟩
          · exact ⟨_, D0, rfl, .inr ⟨by simp, h.1 ⟨hb⟩⟩⟩
      · rename_i d p hx
        obtain ⟨c, hr, hp⟩ := D.rel_nb hx
        have hr' : a.tmps.getD g undef = .bool c := hr
        have D0 := D.guard' hx (v := .bc c) (by simp only [rel]; exact hr)
        have hy := hyl _ hx
        rw [hr'] at hy
        simp only at hy
        rw [hw, hy]
        split at h <;> cases c
        · exact ⟨_, D0, rfl, .inr ⟨by simp, h.2⟩⟩
        · exact ⟨_, D0, rfl, .inl ⟨by simp, h.1 ⟨hp rfl⟩⟩⟩
        · exact ⟨_, D0, rfl, .inr ⟨by simp, h.2 ⟨hp rfl⟩⟩⟩
        · exact ⟨_, D0, rfl, .inl ⟨by simp, h.1⟩⟩
        · exact ⟨_, D0, rfl, .inl ⟨by simp, h.2⟩⟩
        · exact ⟨_, D0, rfl, .inr ⟨by simp, h.1 ⟨hp rfl⟩⟩⟩
        · exact ⟨_, D0, rfl, .inl ⟨by simp, h.2 ⟨hp rfl⟩⟩⟩
        · exact ⟨_, D0, rfl, .inr ⟨by simp, h.1⟩⟩
      · rename_i hx
        have hr := D.rel_tmp g
        rw [hx] at hr
        simp only [Option.getD_some, rel] at hr
        obtain ⟨vs, h1, _⟩ := hr
        have hy := hyl _ hx
        rw [h1] at hy
        simp only at hy
        rw [hw, hy]
        exact ⟨s, D, rfl, .inr ⟨by simp, h⟩⟩
      · exact h.elim

/-- Into a frame that is walked into, the caller's temporaries laid by. -/
theorem Den.into (D : Den f s η H a w) {args : List SV} {vals : List Value} (h : relL η (qOf s.b) H args vals) :
    Den { f with sS := s.t ++ f.sS, sV := a.tmps.toList ++ f.sV, dS := [] } ⟨args, s.b⟩ η H ⟨vals.toArray, []⟩ w := {
  t := h
  sv := relL_append D.t D.sv
  d := rfl
  h0 := D.h0
  hw := D.hw
  fw := D.fw
  hf := D.hf
  sl := D.sl
  dj := D.dj
  dh := D.dh
  os := D.os
  tape := D.tape
  out := D.out }
/-- And out of it. -/
theorem Den.outOf (D : Den f s η H a w) {b' : List Slot} {η' : Nat → Value} {H' : Heap} {a' : Act} {w' : World} (D2 : Den { f with sS := s.t ++ f.sS, sV := a.tmps.toList ++ f.sV, dS := [] } ⟨[], b'⟩ η' H' a' w') :
    Den f { s with b := b' } η' H' a w' := by
  have hsv := relL_split (s := s.t) (s' := f.sS) D2.sv
  have hlen : s.t.length = a.tmps.toList.length := (relL_length D.t).symm
  have e1 : (a.tmps.toList ++ f.sV).take s.t.length = a.tmps.toList := by rw [hlen]; exact List.take_left
  have e2 : (a.tmps.toList ++ f.sV).drop s.t.length = f.sV := by rw [hlen]; exact List.drop_left
  simp only at hsv
  rw [e1, e2] at hsv
  exact {
    t := hsv.1
    sv := hsv.2
    d := D.d
    h0 := D2.h0
    hw := D2.hw
    fw := D2.fw
    hf := D2.hf
    sl := D2.sl
    dj := D2.dj
    dh := D2.dh
    os := D2.os
    tape := D2.tape
    out := D2.out }

theorem Den.intoY (D : Den f s η H a w) {l : Nat} {y : Value} (hy : rel η (qOf s.b) H (.yld l) y) {args : List SV} {vals : List Value} (h : relL η (qOf s.b) H args vals) :
    Den { f with sS := .yld l :: (s.t ++ f.sS), sV := y :: (a.tmps.toList ++ f.sV), dS := [] } ⟨args, s.b⟩ η H ⟨vals.toArray, []⟩ w :=
  { D.into h with sv := by simp only [relL]; exact ⟨_, _, rfl, hy, relL_append D.t D.sv⟩ }
theorem Den.outOfY (D : Den f s η H a w) {l : Nat} {y : Value} {b' : List Slot} {η' : Nat → Value} {H' : Heap} {a' : Act} {w' : World} (D2 : Den { f with sS := .yld l :: (s.t ++ f.sS), sV := y :: (a.tmps.toList ++ f.sV), dS := [] } ⟨[], b'⟩ η' H' a' w') :
    Den f { s with b := b' } η' H' a w' ∧ rel η' (qOf b') H' (.yld l) y := by
  have h := D2.sv
  simp only [relL] at h
  obtain ⟨_, _, e, h1, h2⟩ := h
  simp at e
  obtain ⟨rfl, rfl⟩ := e
  exact ⟨D.outOf { D2 with sv := h2 }, h1⟩

theorem exec_yield {o : Oper} {c : Call} {g : Operand} {bl : Nat} {rec : Loop} (ho : o.op = .call c) (hg : c.callee = .value g) (hv : a.eval g = .func (.yield bl) #[] #[]) (hl : w.heap[bl]? = some (.loop rec))
    (hs : (c.args.map a.eval).size = rec.params.size) :
    (execOp a.eval o).run P w = .ok (.round bl rec.fn ((rec.params.zip (c.args.map a.eval)).foldl (fun tmps (t, a) => tmps.setIfInBounds t a) rec.tmps) rec.assign rec.body) w := by
  unfold execOp
  simp only [ho, resolve, hg, hv, Deferred.ofValue, Sem.run_bind, Sem.run_pure, Result.andThen_ok, invoke]
  have : (#[] ++ Array.map a.eval c.args : Array Value) = Array.map a.eval c.args := by simp
  rw [this]
  exact run_yield hl hs

theorem opK_sound (C : X.Ok P) (I : InlOk X) {call : Into} (CO : CallOk P X call) {r : Bool} {F : Fence} (R : RF r F) (D : Den f s η H a w) {o : Oper} {l : Nat} (hl : labelOk o l s) (hs : storeOk o) (hnd : isDefer o.op = false)
    {k : St → Prop} (h : opK X call f.sS o l s k) {Q : Exit → Act → World → Prop} {K : Act → World → Prop} (hK : ∀ s' η' H' a' w', Den f s' η' H' a' w' → k s' → K a' w') : o.wpIn F 0 P a w K Q := by
  unfold opK at h
  split at h
  · rename_i x str ho
    unfold nextK at h
    split at h
    · exact h.elim
    split at h <;> try exact h.elim
    rename_i l' ex
    split at h <;> try exact h.elim
    rename_i T kk c m seen cur hs'
    exact op_in R hnd (s_next D x ho ex hs' (fun hall => h.1 ⟨hall⟩) (fun n t h1 h2 => h.2 n t ⟨⟨h1, h2⟩⟩) hK)
  split at h
  · rename_i fid fn args hin
    unfold inlOf at hin
    split at hin <;> try (cases hin; done)
    rename_i c ho
    split at hin <;> try (cases hin; done)
    rename_i g hg
    split at hin <;> try (cases hin; done)
    rename_i fid' first cap hv
    split at hin <;> try (cases hin; done)
    split at hin <;> try (cases hin; done)
    rename_i fn' hfn
    simp only [Option.some.injEq, Prod.mk.injEq] at hin
    obtain ⟨rfl, rfl, rfl⟩ := hin
    have G := C.inl _ _ hfn
    have hgv := D.ev g
    rw [hv] at hgv
    simp only [rel] at hgv
    obtain ⟨fs, cs, h1, h2, h3⟩ := hgv
    have hargs : relL η (qOf s.b) H (first ++ c.args.toList.map (Vc.ev s) ++ cap) (fs ++ c.args.toList.map a.eval ++ cs) := relL_append (relL_append h2 (D.evs _)) h3
    have hrun := exec_call (P := P) G ho hg h1 w
    have hc := CO.fn _ _ _ _ _ _ hfn h _ η H _ w rfl rfl (D.into hargs)
    refine op_in R hnd ?_
    unfold Oper.wp
    rw [hrun]
    simp only [Oper.upon]
    refine hc.mono fun e w' ⟨v, b', η', H', xv, he, hk, D2, hr⟩ => ?_
    subst he
    simp only
    exact hK _ η' H' _ w' ((D.outOf D2).put o.dst hr) hk
  · split at h
    · rename_i lab args hin
      unfold yldOf at hin
      split at hin <;> try (cases hin; done)
      rename_i c ho
      split at hin <;> try (cases hin; done)
      rename_i g hg
      split at hin <;> try (cases hin; done)
      rename_i lab' hv
      simp only [Option.some.injEq, Prod.mk.injEq] at hin
      obtain ⟨rfl, rfl⟩ := hin
      have hgv := D.ev g
      rw [hv] at hgv
      have hargs : relL η (qOf s.b) H (c.args.toList.map (Vc.ev s)) (c.args.toList.map a.eval) := D.evs _
      obtain ⟨bl, rec, hb, hq, hrec, hsz, hround⟩ := CO.rnd _ _ _ _ _ h _ η H _ w rfl rfl (D.intoY hgv hargs)
      simp only [rel, hq] at hgv
      obtain ⟨bl', e1, e2⟩ := hgv
      rw [hb] at e1
      simp at e1
      subst e1
      have hvals : (c.args.toList.map a.eval).toArray = c.args.map a.eval := by apply Array.ext'; simp
      simp only [hvals] at hsz hround
      have hrun := exec_yield (P := P) ho hg e2 hrec hsz
      refine ⟨fun g _ => R.fn g, ?_⟩
      rw [Oper.semAt_eq _ _ _ (fun c e => by rw [e] at hnd; cases hnd), hrun, Oper.uponIn_round]
      refine ⟨R.nd, (hround r F R).mono fun e w' ⟨v, b', η', H', xv, he, hk, D2, hr⟩ => ?_⟩
      subst he
      exact hK _ η' H' _ w' ((D.outOfY D2).1.put o.dst hr) hk
    · split at h
      · rename_i d p hin
        unfold ownNil at hin
        split at hin <;> try (cases hin; done)
        rename_i op t x y t' ho
        split at hin <;> try (cases hin; done)
        rename_i lo ex
        split at hin <;> try (cases hin; done)
        rename_i T e sz c xs i ey hsl hi
        have hd := (C.tt _ _ hi).desc
        have hx := D.ev x
        have hy := D.ev y
        rw [ex] at hx
        rw [ey] at hy
        simp only [rel, qOf_get hsl, Slot.live] at hx hy
        obtain ⟨hx, ad, n, cp, hsh⟩ := hx
        have hemp : ad = none → xs () = [] := by
          rintro rfl
          obtain ⟨vals, h1, _⟩ := D.sl lo _ hsl
          rw [← hx, hsh] at h1
          have h0 : (xs ()).length = 0 := by
            rcases h1 with ⟨h1, _⟩ | ⟨_, h1, _⟩
            · rcases h1.2 with h1 | ⟨g, cap, cur, h1, _⟩
              · simp_all
              · cases h1
            · exact h1
          exact List.eq_nil_of_length_eq_zero h0
        have fin : ∀ (r : Bool), (execOp a.eval o).run P w = .ok (.value (.bool r)) w → (r = d → p ()) → o.wpIn F 0 P a w K Q := by
          intro r hrun hp
          refine op_in R hnd ?_
          unfold Oper.wp
          rw [hrun]
          exact hK _ η H _ w (Den.put D o.dst (x := .nb d p) (by simp only [rel]; exact ⟨r, rfl, hp⟩)) h
        split at hin <;> try (cases hin; done)
        · rename_i e' hdd
          rw [hdd] at hd
          simp only [Option.some.injEq, Prod.mk.injEq] at hin
          obtain ⟨rfl, rfl⟩ := hin
          refine fin ad.isNone ?_ (fun e => hemp (by simpa using e))
          simp [execOp, ho, hsh, hy, eqGuard, binOp, run_equal_slice hd ad none n cp 0 0 (.inr rfl)]
        · rename_i e' hdd
          rw [hdd] at hd
          simp only [Option.some.injEq, Prod.mk.injEq] at hin
          obtain ⟨rfl, rfl⟩ := hin
          refine fin (!ad.isNone) ?_ (fun e => hemp (by simpa using e))
          simp [execOp, ho, hsh, hy, eqGuard, binOp, run_equal_slice hd ad none n cp 0 0 (.inr rfl)]
      obtain ⟨s', h1, h2⟩ := (didK_iff X o l s k).1 h
      obtain ⟨x, u, h3, rfl⟩ := h1
      have := act_sound (R := fun x' u' => x' = x ∧ u' = u) C D (l := l) hl hs ((Act1.K_iff _ _).2 ⟨x, u, h3, rfl, rfl⟩)
      obtain ⟨x', u', ⟨rfl, rfl⟩, hgo⟩ := this
      exact op_in R hnd (hgo K Q fun η' H' w' v D' => hK _ η' H' _ w' D' h2)

theorem seqK_sound (C : X.Ok P) (I : InlOk X) {call : Into} (CO : CallOk P X call) {r0 : Bool} {F : Fence} (R : RF r0 F) {ops : Array Oper} (hst : storesOk ops.toList = true)
    {Q : Exit → Act → World → Prop} {k : St → Prop} (hk : ∀ s' η' H' a' w', Den f s' η' H' a' w' → k s' → Q .normal a' w') :
    ∀ (r : List Oper) (i : Nat) {s : St} {η : Nat → Value} {H : Heap} {a : Act} {w : World}, (∀ j, r[j]? = ops[i + j]?) → Den f s η H a w → seqK X call f.sS ops.toList r s k → wpOpsIn F 0 P ops Q (List.range' i r.length) a w
  | [], i, s, η, H, a, w, _, D, h => hk s η H a w D h
  | o :: r, i, s, η, H, a, w, hr, D, h => by
    have hi : ops[i]? = some o := by simpa using (hr 0).symm
    have hr' : ∀ j, r[j]? = ops[i + 1 + j]? := fun j => by have := hr (j + 1); simpa [Nat.add_assoc, Nat.add_comm 1 j] using this
    have hall := List.all_eq_true.1 hst o (by simpa using Array.mem_of_getElem? hi)
    have hso : storeOk o := by
      intro he
      rw [he] at hall
      simpa using hall
    have hnd : isDefer o.op = false := by
      cases hst : isStore o.op
      · rw [hst] at hall; simpa using hall
      · cases hop : o.op <;> rw [hop] at hst <;> first | rfl | cases hst
    simp only [List.length_cons, List.range'_succ]
    rw [wpOpsIn_cons]
    unfold wpOpIn
    rw [hi]
    simp only
    obtain ⟨s0, D0, hb, h | h⟩ := guardK_ok D (ops := ops) h
    · rw [if_pos h.1]
      have h2 := h.2
      split at h2
      · rename_i hal
        have D1 := D0.ext 1
        refine opK_sound C I CO R (s := { s0 with b := s0.b ++ [.un] }) D1 (fun _ => by simp) hso hnd h2 fun s' η' H' a' w' D' hk' => ?_
        exact seqK_sound C I CO R hst hk r (i + 1) hr' D' hk'
      · rename_i hal
        refine opK_sound C I CO R D0 (fun ha => by rw [hal] at ha; cases ha) hso hnd h2 fun s' η' H' a' w' D' hk' => ?_
        exact seqK_sound C I CO R hst hk r (i + 1) hr' D' hk'
    · rw [if_neg (by rw [h.1]; simp)]
      have h2 := h.2
      unfold skipK at h2
      exact ⟨fun g _ => R.fn g, seqK_sound C I CO R hst hk r (i + 1) hr' (D0.put o.dst (x := .tup []) (by simp only [rel]; exact ⟨[], rfl, by simp [relL]⟩)) h2⟩

theorem condK_sound (D : Den f s η H a w) {c : Operand} {x y : St → Prop} (h : condK s c x y) : ∃ t s0, a.eval c = .bool t ∧ Den f s0 η H a w ∧ (if t then x s0 else y s0) := by
  have hc := D.ev c
  unfold condK at h
  split at h
  · rename_i e; rw [e] at hc; simp only [rel] at hc; exact ⟨true, s, hc, D, h⟩
  · rename_i e; rw [e] at hc; simp only [rel] at hc; exact ⟨false, s, hc, D, h⟩
  · rename_i t e
    rw [e] at hc; simp only [rel] at hc
    split at h
    · rename_i g
      have hg : s.t[g]? = some (.b t) := by
        simp only [ev] at e
        cases hq : s.t[g]? with
        | none => rw [hq] at e; cases e
        | some z => rw [hq] at e; simp at e; rw [e]
      obtain ⟨D0, _⟩ := D.guard hg (v := .bc (t ())) rfl
      cases hb : t ()
      · rw [hb] at D0 hc; exact ⟨false, _, hc, D0, h.2 ⟨hb⟩⟩
      · rw [hb] at D0 hc; exact ⟨true, _, hc, D0, h.1 ⟨hb⟩⟩
    · cases hb : t ()
      · rw [hb] at hc; exact ⟨false, s, hc, D, h.2 ⟨hb⟩⟩
      · rw [hb] at hc; exact ⟨true, s, hc, D, h.1 ⟨hb⟩⟩
  · rename_i d p e
    split at h <;> first | exact h.elim | skip
    rename_i g
    have hg : s.t[g]? = some (.nb d p) := by
      simp only [ev] at e
      cases hq : s.t[g]? with
      | none => rw [hq] at e; cases e
      | some z => rw [hq] at e; simp at e; rw [e]
    obtain ⟨c, hv, hp⟩ := D.rel_nb hg
    have D0 := D.guard' hg (v := .bc c) (by simp only [rel]; exact hv)
    split at h
    · cases c
      · exact ⟨false, _, hv, D0, h.2⟩
      · exact ⟨true, _, hv, D0, h.1 ⟨hp rfl⟩⟩
    · cases c
      · exact ⟨false, _, hv, D0, h.2 ⟨hp rfl⟩⟩
      · exact ⟨true, _, hv, D0, h.1⟩
  · exact h.elim

theorem rounds_mono {F : Fence} {n : Nat} {c : Code} {Q Q' : Exit → Act → World → Prop} (h : ∀ e a w, Q e a w → Q' e a w) : ∀ {m : Nat} {a : Act} {w : World}, Code.roundsIn F n P c Q m a w → Code.roundsIn F n P c Q' m a w
  | 0, _, _, x => x.elim
  | m + 1, a, w, x => wpIn_mono x fun e a w y => by
    cases e with
    | normal => exact rounds_mono h y
    | _ => exact h _ _ _ y

theorem vcB_sound {r : Bool} {S : List SV} {lk : Code → St → (Exit → St → Prop) → Prop} (C : X.Ok P) (I : InlOk X) {call : Into} (CO : CallOk P X call)
    (LK : ∀ c s k, codeOk c = true → lk c s k → SatD S r P c s k) :
    ∀ (c : Code) (s : St) (k : Exit → St → Prop), codeOk c = true → vcB r S lk X call c s k → SatD S r P c s k
  | .skip, s, k, _, h, F, R, f, η, H, a, w, hS, D => wpIn_skip (Post.of D h)
  | .region id ops draw, s, k, hc, h, F, R, f, η, H, a, w, hS, D => by
    have hc0 := hc
    simp only [codeOk, Bool.and_eq_true, Bool.or_eq_true, Bool.not_eq_true'] at hc
    simp only [vcB] at h
    split at h
    · exact LK _ s k hc0 h F R f η H a w hS D
    cases draw with
    | true =>
      simp only at h
      split at h <;> try exact h.elim
      rename_i hfar
      exact region_sound C R hc.1 (fun _ => by rcases hc.2 with h | h; cases h; exact h) (fun _ => hfar) (k := fun s' => k .normal s') (fun s' η' H' a' w' D' hk => Post.of D' hk) D h
    | false =>
      refine wpIn_region ?_
      subst hS
      have := seqK_sound C I CO R hc.1 (Q := Post r f k) (k := fun s' => k .normal s') (fun s' η' H' a' w' D' hk => Post.of D' hk) ops.toList 0 (fun j => by simp) D h
      rw [List.range_eq_range']
      simpa using this
  | .seq x y, s, k, hc, h, F, R, f, η, H, a, w, hS, D => by
    simp only [codeOk, Bool.and_eq_true] at hc
    simp only [vcB] at h
    refine wpIn_seq ?_
    refine wpIn_mono (vcB_sound C I CO LK x s _ hc.1 h F R f η H a w hS D) ?_
    rintro e a' w' ⟨f', s', η', H', E, D', hk⟩
    cases e with
    | normal => exact wpIn_mono (vcB_sound C I CO LK y s' k hc.2 hk F R f' η' H' a' w' (E.sS.trans hS) D') fun e a w p => p.up E
    | _ => exact ⟨f', s', η', H', E, D', hk⟩
  | .cond c x y, s, k, hc, h, F, R, f, η, H, a, w, hS, D => by
    simp only [codeOk, Bool.and_eq_true] at hc
    simp only [vcB] at h
    obtain ⟨t, s0, h1, D0, h2⟩ := condK_sound D h
    refine wpIn_cond h1 ?_
    cases t with
    | true => exact vcB_sound C I CO LK x s0 k hc.1 h2 F R f η H a w hS D0
    | false => exact vcB_sound C I CO LK y s0 k hc.2 h2 F R f η H a w hS D0
  | .block id x, s, k, hc, h, F, R, f, η, H, a, w, hS, D => by
    simp only [codeOk] at hc
    simp only [vcB] at h
    refine wpIn_block ?_
    refine wpIn_mono (vcB_sound C I CO LK x s _ hc h F R f η H a w hS D) ?_
    rintro e a' w' ⟨f', s', η', H', E, D', hk⟩
    cases e with
    | exit i =>
      simp only [blockK] at hk
      simp only [Exit.inBlock]
      split at hk
      · rename_i he
        rw [if_pos (Nat.eq_of_beq_eq_true he)]
        exact ⟨f', s', η', H', E, D', hk⟩
      · rename_i he
        rw [if_neg (Nat.ne_of_beq_eq_false he)]
        exact ⟨f', s', η', H', E, D', hk⟩
    | _ => exact ⟨f', s', η', H', E, D', hk⟩
  | .loop x, s, k, hc, h, F, R, f, η, H, a, w, hS, D => by
    simp only [vcB] at h
    exact LK _ _ _ hc h F R f η H a w hS D
  | .scope x, s, k, hc, h, F, R, f, η, H, a, w, hS, D => by
    simp only [codeOk] at hc
    simp only [vcB] at h
    refine wpIn_scope_straight ?_
    refine wpIn_mono (vcB_sound C I CO LK x s _ hc h F R f η H a w hS D) ?_
    rintro e a' w' ⟨f', s', η', H', E, D', hk⟩
    cases e with
    | goto l => exact hk.elim
    | _ => exact ⟨f', s', η', H', E, D', hk⟩
  | .exit id, s, k, _, h, F, R, f, η, H, a, w, hS, D => wpIn_exit (Post.of D h)
  | .ret, s, k, _, h, F, R, f, η, H, a, w, hS, D => wpIn_ret (Post.of D h)
  | .rangeFunc g ps asg body, s, k, hc, h, F, R, f, η, H, a, w, hS, D => by
    simp only [vcB] at h
    split at h
    · exact h.elim
    split at h <;> try exact h.elim
    rename_i gf cap hv
    split at h
    · exact h.elim
    split at h
    · exact h.elim
    rename_i fn hfn
    have R : F = _ := R
    subst R
    subst hS
    have G := C.inl _ _ hfn
    have hgv := D.ev g
    rw [hv] at hgv
    simp only [rel] at hgv
    obtain ⟨fs, cs, h1, h2, h3⟩ := hgv
    simp only [relL] at h2
    subst h2
    refine wpIn_rangeFunc fun cfn _ => ?_
    let w1 := w.alloc (.deferred (some []))
    let w2 := w1.alloc (.loop { state := .ready, pending := none, fn := cfn, tmps := a.tmps, params := ps, assign := asg, body, defers := w.heap.size })
    obtain ⟨D1, E1⟩ := D.mark
    have D2 := D1.ext 1
    have hsz : w1.heap.size = w.heap.size + 1 := World.size_alloc _ _
    let η' := etaSet η s.b.length (.pointer (some ⟨w.heap.size + 1, 0, none⟩))
    have hun : (s.b ++ uns 1)[s.b.length]? = some .un := by simp [uns]
    have hset : (s.b ++ uns 1).set s.b.length (.yrec s.t ps.toList asg body .ready) = s.b ++ [.yrec s.t ps.toList asg body .ready] := by simp [uns]
    have D3 := D2.change (w' := w2) (η' := η') (l := s.b.length) (x := .yrec s.t ps.toList asg body .ready) none (b' := s.b ++ [.yrec s.t ps.toList asg body .ready]) hset.symm
      (fun k hk => etaSet_ne _ _ _ k hk) (.inl hun) rfl (fun _ h => by cases h) none (World.grownBy_alloc w1 _ none) (fun k hk => by cases hk)
      (fun b hb => .inl (by simp only [η', etaSet_self, vblk, Option.some.injEq] at hb; show w1.heap.size ≤ b; omega))
      (fun T => ⟨w.heap.size + 1, cfn, a.tmps, w.heap.size, etaSet_self _ _ _, by rw [← hsz]; exact World.alloc_heap_new w1 _, relL_mono T (Heap.le.refl _) _ _ D2.t⟩)
    have hql : qOf (s.b ++ [.yrec s.t ps.toList asg body .ready]) s.b.length = .live := by rw [qOf_get (x := .yrec s.t ps.toList asg body .ready) (by simp)]; rfl
    have hcap : relL η' (qOf (s.b ++ [.yrec s.t ps.toList asg body .ready])) H cap cs := by
      have hT : Turn η η' (qOf s.b) (qOf (s.b ++ [.yrec s.t ps.toList asg body .ready])) := fun k => by
        by_cases hk : k < s.b.length
        · have e1 : qOf (s.b ++ [.yrec s.t ps.toList asg body .ready]) k = qOf s.b k := by unfold qOf; rw [List.getElem?_append_left hk]
          have e2 : η' k = η k := etaSet_ne _ _ _ k (by omega)
          cases hq : qOf s.b k with
          | un => trivial
          | dead => simp only [e1, hq]
          | live => exact .inl ⟨by rw [e1]; exact hq, e2⟩
        · have e1 : qOf s.b k = .un := by unfold qOf; rw [List.getElem?_eq_none (by omega)]
          rw [e1]; trivial
      exact relL_mono hT (Heap.le.refl _) _ _ h3
    have hargs : relL η' (qOf (s.b ++ [.yrec s.t ps.toList asg body .ready])) H (.yld s.b.length :: cap) (.func (.yield (w.heap.size + 1)) #[] #[] :: cs) := by
      simp only [relL]
      refine ⟨_, _, rfl, ?_, hcap⟩
      simp only [rel, hql]
      exact ⟨w.heap.size + 1, etaSet_self _ _ _, rfl⟩
    have hyl : rel η' (qOf (s.b ++ [.yrec s.t ps.toList asg body .ready])) H (.yld s.b.length) (.func (.yield (w.heap.size + 1)) #[] #[]) := by
      simp only [rel, hql]
      exact ⟨w.heap.size + 1, etaSet_self _ _ _, rfl⟩
    have hcall := CO.fn _ _ _ _ _ _ hfn h _ η' H _ w2 rfl rfl (D3.intoY hyl hargs)
    refine ⟨w.heap.size + 1, [markD w.heap.size], w2, { target := .fn (.func gf) cs.toArray, args := #[.func (.yield (w.heap.size + 1)) #[] #[]] }, w2, gf,
      (.func (.yield (w.heap.size + 1)) #[] #[] :: cs).toArray, w2, ?_, ?_, fun _ _ => trivial, ?_, RF.nd (r := false) rfl, RF.calls (r := false) rfl ?_⟩
    · exact run_enterLoop_outer _ _ _ _ _
    · simp only [resolve, h1, Deferred.ofValue]
      simp [Sem.run_bind, Act.eval]
    · simp only [invoke]
      have : (#[.func (.yield (w.heap.size + 1)) #[] #[]] ++ cs.toArray : Array Value) = (.func (.yield (w.heap.size + 1)) #[] #[] :: cs).toArray := by apply Array.ext'; simp
      rw [this]
      exact run_callFunc G _ w2
    · refine hcall.mono fun e w' ⟨v, b', η2, H2, xv, he, hk, D4, hr⟩ => ?_
      subst he
      dsimp only at hk
      split at hk <;> try exact hk.elim
      rename_i ts2 ps2 asg2 body2 st hbl
      obtain ⟨D5, hy5⟩ := D3.outOfY D4
      obtain ⟨bl, fn2, tmps2, dd, g1, g2, g3⟩ := D5.sl _ _ hbl
      have hst : st.state ≠ .busy := by
        cases st <;> simp [YSt.state]
        exact hk
      have hend := run_endLoop (P := P) g2 hst
      have D6 := D5.drop (l := s.b.length) (bl := bl) (by show qOf b' s.b.length = .live; rw [qOf_get hbl]; rfl) (by rw [g1]; rfl) (.loop { state := .exhausted, pending := st.pend, fn := fn2, tmps := tmps2, params := ps2.toArray, assign := asg2, body := body2, defers := dd })
      -- the label of the record is that of the yield
      have hl : bl = w.heap.size + 1 := by
        simp only [rel, qOf_get hbl, Slot.live] at hy5
        obtain ⟨bl', k1, k2⟩ := hy5
        rw [g1] at k1
        simp at k1 k2
        omega
      subst hl
      refine ⟨st.pend, _, hend, ?_⟩
      cases st with
      | ready => exact ⟨_, _, η2, H2, E1, D6, hk⟩
      | busy => exact hk.elim
      | ret => exact wpIn_ret ⟨_, _, η2, H2, E1, D6, hk⟩
      | exit id => exact wpIn_exit ⟨_, _, η2, H2, E1, D6, hk⟩
  | .label _, s, k, _, h, F, R, f, η, H, a, w, hS, D => h.elim
  | .goto _, s, k, _, h, F, R, f, η, H, a, w, hS, D => h.elim
  | .refuse _, s, k, _, h, F, R, f, η, H, a, w, hS, D => h.elim

theorem unrollK_sound {S : List SV} (C : X.Ok P) (I : InlOk X) {call : Into} (CO : CallOk P X call) : ∀ n,
    (∀ c s k, codeOk c = true → unrollK S X call n c s k → SatD S false P c s k) ∧
    (∀ x s k, codeOk x = true → unrollK S X call n (.loop x) s k → ∀ (F : Fence), RF false F → ∀ (f : Fr) (η : Nat → Value) (H : Heap) (a : Act) (w : World), f.sS = S → Den f s η H a w → Code.roundsIn F 0 P x (Post false f k) n a w)
  | 0 => ⟨fun c s k _ h => h.elim, fun x s k _ h => h.elim⟩
  | n + 1 => by
    have ih := unrollK_sound (S := S) C I CO n
    have two : ∀ x s k, codeOk x = true → unrollK S X call (n + 1) (.loop x) s k → ∀ (F : Fence), RF false F → ∀ (f : Fr) (η : Nat → Value) (H : Heap) (a : Act) (w : World), f.sS = S → Den f s η H a w →
        Code.roundsIn F 0 P x (Post false f k) (n + 1) a w := by
      intro x s k hc h F R f η H a w hS D
      rw [roundsIn_succ]
      simp only [unrollK] at h
      refine wpIn_mono (vcB_sound C I CO ih.1 x s _ hc h F R f η H a w hS D) ?_
      rintro e a' w' ⟨f', s', η', H', E, D', hk⟩
      cases e with
      | normal => exact rounds_mono (fun e a w p => p.up E) (ih.2 x s' k hc hk F R f' η' H' a' w' (E.sS.trans hS) D')
      | _ => exact ⟨f', s', η', H', E, D', hk⟩
    refine ⟨fun c s k hc h F R f η H a w hS D => ?_, two⟩
    cases c <;> try exact h.elim
    rename_i x
    exact wpIn_loop_rounds (n + 1) (two x s k hc h F R f η H a w hS D)

/-- From the walk of a function's body to its call. -/
theorem calls_ok (C : X.Ok P) {fid : FuncId} {fn : Func} {c : Code} (G : FnOk P fid fn) (hb : fn.body = some c) {args : List SV} {b : List Slot} {k : List Slot → SV → Prop} {S : List SV}
    (h : SatD S false P c (start args fn.ntmps b) (retK X fn.results.toList k)) (f : Fr) (η : Nat → Value) (H : Heap) (a : Act) (w : World) (hS : f.sS = S) (hd : f.dS = []) (D : Den f ⟨args, b⟩ η H a w) : Calls P fid a.tmps w (Back f k) := by
  have D' : Den f (start args fn.ntmps b) η H { tmps := a.tmps ++ Array.replicate (fn.ntmps - a.tmps.size) undef, defers := [] } w := by
    have hl := relL_length D.t
    simp only [Array.length_toList] at hl
    exact { D with
      t := by
        unfold start
        simp only [Array.toList_append, Array.toList_replicate]
        refine relL_append D.t ?_
        rw [anys_eq, hl]
        exact relL_map_any _ _ (by simp)
      d := by rw [hd]; rfl }
  refine (callsIn_wide (n := 0)).1 (callsIn_of_wp_marks G.get hb trivial (wpIn_mono (h Fence.wide rfl f η H _ w hS D') ?_))
  rintro e a' w' ⟨f', s', η', H', E, D2, hk⟩
  have fin : ∀ xs, resSV X s' fn.results.toList = some xs → k s'.b (tupOf xs) → LeavesInM Fence.wide 0 P fn a'.tmps (Back f k) a'.defers .returning w' := by
    intro xs hx hk
    obtain ⟨ms, h1, h2, h3, h4⟩ := D2.shut E hd
    have D3 := h4 _ D2.t
    rw [h1]
    refine leaves_marks h3 h2 ?_
    obtain ⟨v, g1, g2⟩ := results_ok C D3 hx
    refine ⟨v, g1, v, s'.b, η', H', tupOf xs, rfl, hk, { D3 with t := by simp [relL], d := by rw [hd]; rfl }, g2⟩
  cases e with
  | normal =>
    simp only [retK] at hk
    split at hk
    · rename_i xs hx; exact fin xs hx hk
    · exact hk.elim
  | ret =>
    simp only [retK] at hk
    split at hk
    · rename_i xs hx; exact fin xs hx hk
    · exact hk.elim
  | _ => exact hk.elim

theorem zip_fold (ps : Array Tmp) (vs us : Array Value) : (ps.zip vs).foldl (fun tmps (t, a) => tmps.setIfInBounds t a) us = (ps.toList.zip vs.toList).foldl (fun tmps (t, a) => tmps.setIfInBounds t a) us := by
  rw [← Array.foldl_toList, Array.toList_zip]
theorem setPs_ok {q : Nat → Live} : ∀ (ps : List Tmp) (xs : List SV) (vs : List Value) (ts : List SV) (us : Array Value), relL η q H xs vs → relL η q H ts us.toList →
    relL η q H (setPs ps xs ts) ((ps.zip vs).foldl (fun tmps (t, a) => tmps.setIfInBounds t a) us).toList
  | [], xs, vs, ts, us, hx, ht => by simpa [setPs] using ht
  | p :: ps, [], vs, ts, us, hx, ht => by
    simp only [relL] at hx
    subst hx
    simpa [setPs] using ht
  | p :: ps, x :: xs, vs, ts, us, hx, ht => by
    simp only [relL] at hx
    obtain ⟨v, vs', rfl, h1, h2⟩ := hx
    have := setPs_ok ps xs vs' (ts.set p x) (us.setIfInBounds p v) h2 (by simpa using relL_set ht p h1)
    simpa [setPs] using this

/-- A record's label, and what the waiting frames know of it. -/
theorem Den.rec_at (D : Den f s η H a w) {l : Nat} {S : List SV} (hS : f.sS = .yld l :: S) {ts : List SV} {ps : List Tmp} {asg body : Code} {st : YSt} (hb : s.b[l]? = some (.yrec ts ps asg body st)) :
    ∃ bl fn tmps d V, f.sV = .func (.yield bl) #[] #[] :: V ∧ η l = .pointer (some ⟨bl, 0, none⟩) ∧
      w.heap[bl]? = some (.loop { state := st.state, pending := st.pend, fn, tmps, params := ps.toArray, assign := asg, body, defers := d }) ∧ relL η (qOf s.b) H ts tmps.toList := by
  obtain ⟨bl, fn, tmps, d, g1, g2, g3⟩ := D.sl l _ hb
  have h := D.sv
  rw [hS] at h
  simp only [relL] at h
  obtain ⟨y, V, e, h1, h2⟩ := h
  simp only [rel, qOf_get hb, Slot.live] at h1
  obtain ⟨bl', k1, k2⟩ := h1
  rw [g1] at k1
  simp at k1
  subst k1
  exact ⟨bl, fn, tmps, d, V, by rw [e, k2], g1, g2, g3⟩

theorem Den.restate (D : Den f s η H a w) {l : Nat} {S : List SV} (hS : f.sS = .yld l :: S) {ts : List SV} {ps : List Tmp} {asg body : Code} {st : YSt} (hb : s.b[l]? = some (.yrec ts ps asg body st)) (st' : YSt) :
    ∃ bl rec V, f.sV = .func (.yield bl) #[] #[] :: V ∧ w.heap[bl]? = some (.loop rec) ∧ rec.state = st.state ∧
      Den f { s with b := s.b.set l (.yrec ts ps asg body st') } η H a (w.putObj bl (.loop { rec with state := st'.state, pending := st'.pend })) := by
  obtain ⟨bl, fn, tmps, d, V, e, g1, g2, g3⟩ := D.rec_at hS hb
  refine ⟨bl, _, V, e, g2, rfl, ?_⟩
  refine D.turn hb rfl rfl (by rw [g1]; rfl) _ fun T => ⟨bl, fn, tmps, d, g1, ?_, relL_mono T (Heap.le.refl _) _ _ g3⟩
  exact World.putObj_heap_same (Array.getElem?_eq_some_iff.1 g2).1

theorem callL_ok {P : Unit → Program} (C : X.Ok (P ())) (I : InlOk X) : ∀ n, CallOk (P ()) X (callL P X n)
  | 0 => ⟨fun _ _ _ _ _ _ _ h => h.elim, fun _ _ _ _ _ h => h.elim⟩
  | n + 1 => by
    have ih := callL_ok C I n
    constructor
    · intro S fid fn args b k hfn h f η H a w hS hd D
      have G := C.inl _ _ hfn
      have hco := I _ _ hfn
      simp only [callL] at h
      split at h
      · rename_i c hb
        unfold fnCodeOk at hco
        rw [hb] at hco
        split at h
        · exact calls_ok C G hb (vcB_sound C I ih (fun c s k _ h => h.out) c _ _ hco h) f η H a w hS hd D
        · exact calls_ok C G hb (vcB_sound C I ih (unrollK_sound C I ih 4).1 c _ _ hco h) f η H a w hS hd D
      · exact h.elim
    · intro S l args b k h f η H a w hS hd D
      simp only [callL] at h
      split at h <;> try exact h.elim
      rename_i ts ps asg body hb
      split at h <;> try exact h.elim
      rename_i hck
      simp only [Bool.and_eq_true] at hck
      obtain ⟨⟨hlen, hc1⟩, hc2⟩ := hck
      have hlen := Nat.eq_of_beq_eq_true hlen
      obtain ⟨bl, fn, tmps, d, V, e, g1, g2, g3⟩ := D.rec_at hS hb
      have hl := relL_length D.t
      simp only [Array.length_toList] at hl
      refine ⟨bl, _, g1, by rw [qOf_get hb]; rfl, g2, by simp [hl, hlen], fun r F R => roundIn_of_wpIn (R.fn fn) ?_⟩
      have D0 : Den f ⟨setPs ps args ts, b⟩ η H { tmps := (ps.toArray.zip a.tmps).foldl (fun tmps (t, a) => tmps.setIfInBounds t a) tmps, defers := [] } w :=
        { D with
          t := by rw [zip_fold]; exact setPs_ok ps args a.tmps.toList ts tmps D.t g3
          d := by rw [hd]; rfl }
      refine wpIn_mono (vcB_sound C I ih (fun c s k _ h => h.out) asg _ _ hc1 h (F.inRound bl) (R.inRound bl) f η H _ w hS D0) ?_
      rintro ee a1 w1 ⟨f1, s1, η1, H1, E1, D1, hk⟩
      obtain rfl := E1.eq
      cases ee <;> try exact hk.elim
      simp only [asgK] at hk
      split at hk <;> try exact hk.elim
      rename_i ts1 ps1 asg1 body1 hb1
      obtain ⟨bl1, rec1, V1, e1, k1, k2, D2⟩ := D1.restate hS hb1 .busy
      rw [e] at e1
      simp at e1
      obtain ⟨rfl, rfl⟩ := e1
      have hbeg := run_beginRound (P := P ()) k1 k2
      obtain ⟨_, _, _, _, _, _, _, k4, _⟩ := D1.rec_at hS hb1
      refine ⟨_, hbeg, ?_⟩
      have hpend : rec1.pending = none := by
        obtain ⟨bl', fn', tmps', d', V', e', g1', g2', g3'⟩ := D1.rec_at hS hb1
        rw [e] at e'
        simp at e'
        obtain ⟨rfl, _⟩ := e'
        rw [g2'] at k1
        simp at k1
        rw [← k1]; rfl
      have D2' : Den f1 { s1 with b := s1.b.set l (.yrec ts1 ps1 asg1 body1 .busy) } η1 H1 a1 (w1.putObj bl (.loop { rec1 with state := .busy })) := by
        have := D2
        simp only [YSt.state, YSt.pend] at this
        rw [← hpend] at this
        exact this
      refine wpIn_mono (vcB_sound C I ih (fun c s k _ h => h.out) body _ _ hc2 hk (F.inRound bl) (R.inRound bl) f1 η1 H1 a1 _ hS D2') ?_
      rintro ee a3 w3 ⟨f3, s3, η3, H3, E3, D3, hk⟩
      obtain rfl := E3.eq
      have fin : ∀ (jump : Option Code) (st' : YSt) {ts3 : List SV} {ps3 : List Tmp} {asg3 body3 : Code}, s3.b[l]? = some (.yrec ts3 ps3 asg3 body3 .busy) → st'.pend = jump → st'.state = (if jump.isNone then .ready else .done) → k (s3.b.set l (.yrec ts3 ps3 asg3 body3 st')) (.bc jump.isNone) →
          ∃ v w', (Instr.endRound bl jump).run (P ()) w3 = .ok v w' ∧ Back f3 k (.returned v) w' := by
        intro jump st' ts3 ps3 asg3 body3 hb3 hp hst hk
        obtain ⟨bl3, rec3, V3, e3, m1, m2, D4⟩ := D3.restate hS hb3 st'
        rw [e] at e3
        simp at e3
        obtain ⟨rfl, rfl⟩ := e3
        refine ⟨_, _, run_endRound jump m1, _, _, η3, H3, .bc jump.isNone, rfl, hk, ?_, by simp only [rel]⟩
        rw [← hst, ← hp]
        exact { D4 with t := by simp [relL], d := by rw [hd]; rfl }
      cases ee with
      | normal =>
        simp only [rndK] at hk
        split at hk <;> try exact hk.elim
        rename_i hb3
        exact fin none .ready hb3 rfl rfl hk
      | ret =>
        simp only [rndK] at hk
        split at hk <;> try exact hk.elim
        rename_i hb3
        exact fin (some .ret) .ret hb3 rfl rfl hk
      | exit id =>
        simp only [rndK] at hk
        split at hk <;> try exact hk.elim
        rename_i hb3
        exact fin (some (.exit id)) (.exit id) hb3 rfl rfl hk
      | _ => exact hk.elim
end

theorem vcS_sound {X : Ctx} {PP : Unit → Program} (C : X.Ok (PP ())) (I : InlOk X) {S : List SV} {r : Bool} {n : Nat} {c : Code} {s : St} {k : Exit → St → Prop} (hc : codeOk c = true) (h : vcS S r PP X n c s k) : SatD S r (PP ()) c s k :=
  vcB_sound C I (callL_ok C I n) (fun c s k _ h => h.out) c s k hc h
end Go.Vc
