/-
  The operations' soundness, last part: parts of slices and strings, calls; and all of them together (act_sound).
-/
import Derived.Test.YtpbechemimnikaaVcKN
set_option linter.unusedVariables false
set_option linter.unusedSimpArgs false
namespace Go.Vc
open Go

section
variable {P : Program} {X : Ctx} {f : Fr} {s : St} {η : Nat → Value} {H : Heap} {a : Act} {w : World} {o : Oper} {R : SV → List (Nat × Slot) → Prop}

theorem lower_ok {q : Nat → Live} {lo : Option Operand} {m : Unit → Int} (D : Den f s η H a w) (h : lower (lo.map (Vc.ev s)) = some m) :
    (lo = none ∧ m () = 0) ∨ ∃ x k, lo = some x ∧ a.eval x = .int k (m ()) := by
  cases lo with
  | none => simp [lower] at h; subst h; exact .inl ⟨rfl, rfl⟩
  | some x =>
    simp only [Option.map_some, lower] at h
    split at h
    · rename_i k n hn
      simp at h; subst h
      exact .inr ⟨x, k, rfl, toI_ok hn (D.ev x)⟩
    · cases h
theorem bound_ok {q : Nat → Live} {len : Unit → Nat} {hi : Option Operand} {m : Unit → Int} (D : Den f s η H a w) (h : bound len (hi.map (Vc.ev s)) = some m) :
    (hi = none ∧ m () = len ()) ∨ ∃ x k, hi = some x ∧ a.eval x = .int k (m ()) := by
  cases hi with
  | none => simp [bound] at h; subst h; exact .inl ⟨rfl, rfl⟩
  | some x =>
    simp only [Option.map_some, bound] at h
    split at h
    · rename_i k n hn
      simp at h; subst h
      exact .inr ⟨x, k, rfl, toI_ok hn (D.ev x)⟩
    · cases h

theorem run_sliceBounds (b : Bool) (len cap : Nat) (lo hi : Option Value) (m n : Int) (hlo : (lo = none ∧ m = 0) ∨ ∃ k, lo = some (.int k m)) (hhi : (hi = none ∧ n = len) ∨ ∃ k, hi = some (.int k n))
    (h0 : 0 ≤ m) (h1 : m ≤ n) (h2 : n ≤ cap) (w : World) : (Instr.sliceBounds b len cap lo hi none).run P w = .ok (m.toNat, n.toNat, cap) w := by
  have hn : 0 ≤ n ∧ n ≤ (cap : Int) := by omega
  have hm : 0 ≤ m ∧ m ≤ (n.toNat : Int) := by omega
  rcases hlo with ⟨rfl, rfl⟩ | ⟨k, rfl⟩ <;> rcases hhi with ⟨rfl, rfl⟩ | ⟨k', rfl⟩ <;>
    simp [Instr.sliceBounds, Instr.sliceBound, asIntOf, hn, hm] <;> (intro h; omega)

theorem s_slice (C : X.Ok P) (D : Den f s η H a w) {l : Nat} (t : TypeId) (x : Operand) (lo hi mx : Option Operand) (hl : mx.isSome = true → s.b[l]? = some .un) (ho : o.op = .slice t x lo hi mx)
    (h : (aSlice X s.b l t (Vc.ev s x) (lo.map (Vc.ev s)) (hi.map (Vc.ev s)) (mx.map (Vc.ev s))).K R) : Goes P f s o a w R := by
  have hx := D.ev x
  unfold aSlice at h
  split at h <;> first | exact h.elim | skip
  rename_i i hi'
  have I := C.tt _ _ hi'
  have hdesc := I.desc
  split at h <;> first | exact h.elim | skip
  · rename_i e hd
    rw [hd] at hdesc
    split at h <;> first | exact h.elim | skip
    rename_i k hk
    have Kk := C.tt _ _ hk
    split at h
    · rename_i hc
      simp only [Bool.and_eq_true] at hc
      obtain ⟨hc1, hc2⟩ := hc
      split at h <;> first | exact h.elim | skip
      rename_i E hE
      have EE := C.el _ _ hE
      have hsl : Value.isSlice (a.eval x) := by
        cases hq : Vc.ev s x <;> rw [hq] at hc2 hx <;> simp [isSl] at hc2 <;> simp only [rel] at hx
        · exact ⟨_, _, _, hx⟩
        · split at hx
          · exact hx.elim
          · exact hx
          · exact hx.2
        · obtain ⟨ad, hx, _⟩ := hx; exact ⟨_, _, _, hx⟩
        · obtain ⟨⟨ad, cap, hx, _⟩, _⟩ := hx; exact ⟨_, _, _, hx⟩
      obtain ⟨ad, n, cp, hsv⟩ := hsl
      have hb : ∃ y z k1 k2, lo = none ∧ hi = some y ∧ mx = some z ∧ a.eval y = .int k1 0 ∧ a.eval z = .int k2 0 := by
        unfold clip at hc1
        split at hc1
        · rename_i k1 k2 e1 e2 e3
          cases lo <;> simp at e1
          cases hi <;> simp at e2
          cases mx <;> simp at e3
          rename_i y z
          have hy := D.ev y
          have hz := D.ev z
          rw [e2] at hy; rw [e3] at hz
          simp only [rel] at hy hz
          exact ⟨y, z, _, _, rfl, rfl, rfl, hy, hz⟩
        · cases hc1
      obtain ⟨y, z, k1, k2, rfl, rfl, rfl, hy, hz⟩ := hb
      refine goes_newrow D (hl rfl) (v := .slice ad 0 0) (w' := w) ?_ (grownBy_refl w none) (fun b hb => by cases ad <;> simp [vblk] at hb) ⟨_, _, _, rfl⟩ ?_ h
      · simp [execOp, ho, hy, hz, hsv, Instr.sliceAt, run_underlying hdesc, Instr.slice, Instr.sliceBounds, Instr.sliceBound, asIntOf, run_sizeOf Kk]
      · exact ⟨[], .inr ⟨⟨ad, rfl⟩, rfl, rfl⟩, by simp [relL], by simp, EE.lf⟩
    · split at h <;> first | exact h.elim | skip
      · rename_i T sz c xs z ex em
        split at h <;> first | exact h.elim | skip
        rename_i hsz
        subst hsz
        split at h <;> first | exact h.elim | skip
        rename_i kn n kz m elo hn hz
        obtain ⟨⟨h1, h2⟩, hR⟩ := h
        obtain ⟨mz, rfl, emz⟩ : ∃ mz, mx = some mz ∧ Vc.ev s mz = z := by
          cases mx with
          | none => cases em
          | some mz => simp at em; exact ⟨mz, rfl, em⟩
        have elo' : lo = none := by cases lo <;> simp at elo; rfl
        subst elo'
        rw [ex] at hx
        simp only [rel] at hx
        obtain ⟨⟨ad, cap, h3, h4, h5⟩, hlf⟩ := hx
        obtain ⟨yh, rfl, hyh⟩ : ∃ yh, hi = some yh ∧ (Vc.ev s yh).toI = some (kn, n) := by
          cases hi with
          | none => cases hn
          | some yh => exact ⟨yh, rfl, by simpa using hn⟩
        have hyv := toI_ok hyh (D.ev yh)
        have hmz : a.eval mz = .int kz (m ()) := toI_ok (by rw [← emz] at hz; exact hz) (D.ev mz)
        have hb : (Instr.sliceBounds true (xs ()).length cap none (some (a.eval yh)) (some (a.eval mz))).run P w = .ok (0, (xs ()).length, (xs ()).length) w := by
          rw [hmz]
          have q1 : 0 ≤ m () ∧ m () ≤ (cap : Int) := by omega
          have q2 : (m ()).toNat = (xs ()).length := by omega
          have q3 : (n ()).toNat = (xs ()).length := by omega
          have q4 : 0 ≤ n () ∧ n () ≤ m () := by omega
          have q5 : ((xs ()).length : Int) ≤ (cap : Int) := by omega
          rw [hyv, h1, h2]
          simp [Instr.sliceBounds, Instr.sliceBound, asIntOf, q5]
        refine goes_val D (v := .slice (if (xs ()).length = 0 then ad else ad.map (·.add (0 * k.size))) (xs ()).length (xs ()).length) (w' := w) ?_ (grownBy_refl w none) ?_ hR
        · simp only [execOp, ho, h3, Sem.run_bind, Instr.sliceAt, run_underlying hdesc, Result.andThen_ok, Instr.slice, Option.map_none, Option.map_some, hb, run_sizeOf Kk, Sem.run_pure, Nat.sub_zero]
        · simp only [rel]
          refine ⟨⟨_, rfl, ?_⟩, hlf⟩
          rcases h5 with h5 | ⟨a0, rfl, hsp, h6⟩
          · exact .inl h5
          by_cases hx0 : xs () = []
          · exact .inl hx0
          right
          have : (xs ()).length ≠ 0 := fun e => hx0 (List.eq_nil_of_length_eq_zero e)
          refine ⟨a0, ?_, hsp, h6⟩
          rw [if_neg this]
          simp [addr_add' _ hsp]
          cases a0; simp_all
      · rename_i T sz c xs ex em
        split at h <;> first | exact h.elim | skip
        rename_i hsz
        subst hsz
        split at h <;> first | exact h.elim | skip
        rename_i m n hm hn
        obtain ⟨⟨h0, h1, h2⟩, hR⟩ := h
        have emx : mx = none := by cases mx <;> simp at em; rfl
        subst emx
        rw [ex] at hx
        simp only [rel] at hx
        obtain ⟨⟨ad, cap, h3, h4, h5⟩, hlf⟩ := hx
        have hlo := lower_ok (q := qOf s.b) D hm
        have hhi := bound_ok (q := qOf s.b) D hn
        have hb := run_sliceBounds (P := P) true (xs ()).length cap (lo.map a.eval) (hi.map a.eval) (m ()) (n ())
          (by rcases hlo with ⟨rfl, h⟩ | ⟨y, k, rfl, h⟩
              · exact .inl ⟨rfl, h⟩
              · exact .inr ⟨k, by simp [h]⟩)
          (by rcases hhi with ⟨rfl, h⟩ | ⟨y, k, rfl, h⟩
              · exact .inl ⟨rfl, h⟩
              · exact .inr ⟨k, by simp [h]⟩) h0 h1 (by omega)
        have hlen : (((xs ()).take (n ()).toNat).drop (m ()).toNat).length = (n ()).toNat - (m ()).toNat := by simp; omega
        refine goes_pure D (v := .slice (if cap = (m ()).toNat then ad else ad.map (·.add ((m ()).toNat * k.size))) ((n ()).toNat - (m ()).toNat) (cap - (m ()).toNat)) (fun w => ?_) ?_ hR
        · simp only [execOp, ho, h3, Sem.run_bind, Instr.sliceAt, run_underlying hdesc, Result.andThen_ok, Instr.slice, Option.map_none, hb, run_sizeOf Kk, Sem.run_pure]
        · simp only [rel, hlen]
          refine ⟨⟨_, _, rfl, by omega, ?_⟩, hlf⟩
          by_cases hz : (n ()).toNat - (m ()).toNat = 0
          · left; exact List.eq_nil_of_length_eq_zero (by rw [hlen]; exact hz)
          right
          rcases h5 with h5 | ⟨a0, rfl, hsp, h6⟩
          · rw [h5] at h2; simp at h2; omega
          refine ⟨a0.add ((m ()).toNat * k.size), ?_, by rw [addr_add' _ hsp], fun j y hy => ?_⟩
          · rw [if_neg (by omega)]; rfl
          · rw [List.getElem?_drop, List.getElem?_take] at hy
            split at hy
            · obtain ⟨vals, g1, g2, g3⟩ := h6 _ y hy
              refine ⟨vals, g1, g2, ?_⟩
              rw [addr_add' _ hsp]
              rw [show a0.off + (m ()).toNat * k.size + j * k.size = a0.off + ((m ()).toNat + j) * k.size by rw [Nat.add_mul]; omega]
              exact g3
            · cases hy
      · rename_i l0 ex em
        split at h <;> first | exact h.elim | skip
        rename_i T e' sz c xs hs
        split at h <;> first | exact h.elim | skip
        rename_i hsz
        subst hsz
        split at h <;> first | exact h.elim | skip
        rename_i m n hm hn
        obtain ⟨⟨h0, h1, h2⟩, hR⟩ := h
        have emx : mx = none := by cases mx <;> simp at em; rfl
        subst emx
        rw [ex] at hx
        simp only [rel, qOf_get hs, Slot.live] at hx
        obtain ⟨vals, h3', h4, h5, h5'⟩ := D.sl l0 _ hs
        obtain ⟨ad, cap, hsl, hcap⟩ := h3'.slice
        have hlo := lower_ok (q := qOf s.b) D hm
        have hhi := bound_ok (q := qOf s.b) D hn
        have hb := run_sliceBounds (P := P) true (xs ()).length cap (lo.map a.eval) (hi.map a.eval) (m ()) (n ())
          (by rcases hlo with ⟨rfl, h⟩ | ⟨y, k, rfl, h⟩
              · exact .inl ⟨rfl, h⟩
              · exact .inr ⟨k, by simp [h]⟩)
          (by rcases hhi with ⟨rfl, h⟩ | ⟨y, k, rfl, h⟩
              · exact .inl ⟨rfl, h⟩
              · exact .inr ⟨k, by simp [h]⟩) h0 h1 (by omega)
        have hxv : a.eval x = .slice ad (xs ()).length cap := hx.1.trans hsl
        refine goes_pure D (v := .slice (if cap = (m ()).toNat then ad else ad.map (·.add ((m ()).toNat * k.size))) ((n ()).toNat - (m ()).toNat) (cap - (m ()).toNat)) (fun w => ?_) ?_ hR
        · simp only [execOp, ho, hxv, Sem.run_bind, Instr.sliceAt, run_underlying hdesc, Result.andThen_ok, Instr.slice, Option.map_none, hb, run_sizeOf Kk, Sem.run_pure]
        · simp only [rel, qOf_get hs, Slot.live]
          refine ⟨ad, _, cap, hsl, by omega, by omega, _, _, rfl, by omega, fun hlt => ?_⟩
          have h3 := h3'.pos (show 0 < (xs ()).length by omega)
          rcases h3.2 with ⟨hn', _⟩ | ⟨g, cap', cur, hg, _, _, _⟩
          · rw [hsl] at hn'; simp at hn'; omega
          · rw [hsl] at hg; simp at hg
            refine ⟨g, hg.1, ?_⟩
            rw [if_neg (by omega), hg.1]
            simp [addr_add]
      · rename_i l0 sz g h' ex em
        split at h <;> first | exact h.elim | skip
        rename_i T e' sz' c xs hs
        split at h <;> first | exact h.elim | skip
        rename_i hsz
        subst hsz
        split at h <;> first | exact h.elim | skip
        rename_i m n hm hn
        obtain ⟨⟨h0, h1, h2⟩, hR⟩ := h
        have emx : mx = none := by cases mx <;> simp at em; rfl
        subst emx
        rw [ex] at hx
        simp only [rel, qOf_get hs, Slot.live] at hx
        obtain ⟨ad, nn, c0, p1, p2, p3, ad', cap, hxv, p5, p6⟩ := hx
        have hlo := lower_ok (q := qOf s.b) D hm
        have hhi := bound_ok (q := qOf s.b) D hn
        have hb := run_sliceBounds (P := P) true (h' () - g ()) cap (lo.map a.eval) (hi.map a.eval) (m ()) (n ())
          (by rcases hlo with ⟨rfl, h⟩ | ⟨y, k, rfl, h⟩
              · exact .inl ⟨rfl, h⟩
              · exact .inr ⟨k, by simp [h]⟩)
          (by rcases hhi with ⟨rfl, h⟩ | ⟨y, k, rfl, h⟩
              · exact .inl ⟨rfl, h⟩
              · exact .inr ⟨k, by simp [h]⟩) h0 h1 (by omega)
        refine goes_pure D (v := .slice (if cap = (m ()).toNat then ad' else ad'.map (·.add ((m ()).toNat * k.size))) ((n ()).toNat - (m ()).toNat) (cap - (m ()).toNat)) (fun w => ?_) ?_ hR
        · simp only [execOp, ho, hxv, Sem.run_bind, Instr.sliceAt, run_underlying hdesc, Result.andThen_ok, Instr.slice, Option.map_none, hb, run_sizeOf Kk, Sem.run_pure]
        · simp only [rel, qOf_get hs, Slot.live]
          refine ⟨ad, nn, c0, p1, by omega, by omega, _, _, by rw [show g () + (n ()).toNat - (g () + (m ()).toNat) = (n ()).toNat - (m ()).toNat by omega], by omega, fun hlt => ?_⟩
          obtain ⟨bl, q1, q2⟩ := p6 (by omega)
          refine ⟨bl, q1, ?_⟩
          rw [if_neg (by omega), q2]
          simp [addr_add, Nat.add_mul]
  · rename_i hd
    rw [hd] at hdesc
    split at h <;> first | exact h.elim | skip
    rename_i y ex em
    split at h <;> first | exact h.elim | skip
    rename_i m n hm hn
    obtain ⟨⟨h0, h1, h2⟩, hR⟩ := h
    have emx : mx = none := by cases mx <;> simp at em; rfl
    subst emx
    rw [ex] at hx
    simp only [rel] at hx
    have hlo := lower_ok (q := qOf s.b) D hm
    have hhi := bound_ok (q := qOf s.b) D hn
    have hb := run_sliceBounds (P := P) false (y ()).size (y ()).size (lo.map a.eval) (hi.map a.eval) (m ()) (n ())
        (by rcases hlo with ⟨rfl, h⟩ | ⟨y, k, rfl, h⟩
            · exact .inl ⟨rfl, h⟩
            · exact .inr ⟨k, by simp [h]⟩)
        (by rcases hhi with ⟨rfl, h⟩ | ⟨y, k, rfl, h⟩
            · exact .inl ⟨rfl, h⟩
            · exact .inr ⟨k, by simp [h]⟩) h0 h1 (by omega)
    refine goes_pure D (v := .string ((y ()).extract (m ()).toNat (n ()).toNat)) (fun w => ?_) (by simp only [rel]) hR
    simp [execOp, ho, hx, Instr.sliceAt, run_underlying hdesc, Instr.slice, hb]

  · rename_i n e hd
    rw [hd] at hdesc
    split at h <;> first | exact h.elim | skip
    rename_i k E hk hE
    have Kk := C.tt _ _ hk
    have EE := C.el _ _ hE
    split at h <;> first | exact h.elim | skip
    rename_i cs off ex em
    split at h <;> first | exact h.elim | skip
    rename_i m hh hm hn
    obtain ⟨l, ⟨hl1, hl2, h0, h1, h2⟩, hR⟩ := h
    have emx : mx = none := by cases mx <;> simp at em; rfl
    subst emx
    rw [ex] at hx
    simp only [rel] at hx
    obtain ⟨a0, hv, vals, hrel, hcells⟩ := hx
    have hlo := lower_ok (q := qOf s.b) D hm
    have hhi := bound_ok (q := qOf s.b) D hn
    have hb := run_sliceBounds (P := P) false n n (lo.map a.eval) (hi.map a.eval) (m ()) (hh ())
        (by rcases hlo with ⟨rfl, h⟩ | ⟨y, k, rfl, h⟩
            · exact .inl ⟨rfl, h⟩
            · exact .inr ⟨k, by simp [h]⟩)
        (by rcases hhi with ⟨rfl, h⟩ | ⟨y, k, rfl, h⟩
            · exact .inl ⟨rfl, h⟩
            · exact .inr ⟨k, by simp [h]⟩) h0 h1 (by omega)
    have hlen : ((l.take (hh ()).toNat).drop (m ()).toNat).length = (hh ()).toNat - (m ()).toNat := by simp; omega
    have hr2 := relL_le hl2 (relL_take (relL_drop hrel off) (n * k.size))
    refine goes_pure D (v := .slice (some (if n = (m ()).toNat then ⟨a0.block, a0.off + off, none⟩ else (⟨a0.block, a0.off + off, none⟩ : Addr).add ((m ()).toNat * k.size))) ((hh ()).toNat - (m ()).toNat) (n - (m ()).toNat)) (fun w => ?_) ?_ hR
    · simp only [execOp, ho, hv, Sem.run_bind, Instr.sliceAt, run_underlying hdesc, Result.andThen_ok, Instr.sureAddr, Option.map_none, hb, run_sizeOf Kk, Sem.run_pure]
    · simp only [rel, hlen]
      refine ⟨⟨_, _, rfl, by omega, ?_⟩, fun x => (EE.lf x).1⟩
      by_cases hz : (hh ()).toNat - (m ()).toNat = 0
      · left; exact List.eq_nil_of_length_eq_zero (by rw [hlen]; exact hz)
      right
      refine ⟨_, rfl, ?_, fun j y hy => ?_⟩
      · rw [if_neg (by omega), addr_add' _ rfl]
      · rw [List.getElem?_drop, List.getElem?_take] at hy
        split at hy
        · have g := relL_flatMap_get (fun x _ => EE.len k hk x) hr2 _ y hy
          refine ⟨_, ?_, g, ?_⟩
          · rw [relL_length g]; exact EE.len k hk y
          · rw [if_neg (by omega), addr_add' _ rfl]
            intro i u hu
            rw [List.getElem?_take] at hu
            split at hu
            · rw [List.getElem?_drop, List.getElem?_take] at hu
              split at hu
              · rw [List.getElem?_drop] at hu
                have := hcells _ u hu
                rw [show a0.off + off + (m ()).toNat * k.size + j * k.size + i = a0.off + (off + (((m ()).toNat + j) * k.size + i)) by rw [Nat.add_mul]; omega]
                exact this
              · cases hu
            · cases hu
        · cases hy

theorem map1 {α : Type} {β : Type 1} {f : α → β} {l : List α} {x : β} (h : l.map f = [x]) : ∃ a, l = [a] ∧ f a = x := by
  match l, h with
  | [a], h => simp at h; exact ⟨a, rfl, h⟩
theorem map2 {α : Type} {β : Type 1} {f : α → β} {l : List α} {x y : β} (h : l.map f = [x, y]) : ∃ a b, l = [a, b] ∧ f a = x ∧ f b = y := by
  match l, h with
  | [a, b], h => simp at h; exact ⟨a, b, rfl, h.1, h.2⟩

/-! ### calls -/
def worldHeap (w : World) : Heap := fun b => w.heap[b]?
theorem worldHeap_in (w : World) : (worldHeap w).inW w := fun b o h => h
theorem hcell_world {b o : Nat} {u : Value} (h : w.cell? ⟨b, o, none⟩ = some u) : hcell (worldHeap w) b o = some u := by
  unfold World.cell? at h
  unfold hcell worldHeap
  split at h
  · rename_i c e fz he
    simp at he
    simp [he] at h ⊢
    exact h
  · cases h

/-- A heap in which all that is shared, and all live labels' blocks, can be read. -/
structure Sees (D : Den f s η H a w) (G : Heap) : Prop where
  le : H.le G
  own : ∀ l b, qOf s.b l = .live → vblk (η l) = some b → G b = w.heap[b]?

theorem Sees.world (D : Den f s η H a w) : Sees D (worldHeap w) := ⟨D.hw, fun _ _ _ _ => rfl⟩

theorem own_seen (D : Den f s η H a w) {G : Heap} {l : Nat} {T : Type} {e : TypeId} {sz : Nat} {c : T → List SV} {xs : Unit → List T} (hs : s.b[l]? = some (.dyn e sz c xs)) (hle : H.le G) (hown : ∀ b, vblk (η l) = some b → G b = w.heap[b]?) :
    rel η (qOf s.b) G (.sl sz c xs) (η l) := by
  obtain ⟨vals, h3', h4, h5, h5'⟩ := D.sl l _ hs
  have hlv : qOf s.b l = .live := by rw [qOf_get hs]; rfl
  simp only [rel]
  refine ⟨?_, fun x => (h5' x).1⟩
  obtain ⟨ad, cp, hsl, hcp⟩ := h3'.slice
  refine ⟨ad, cp, hsl, hcp, ?_⟩
  by_cases hn : xs () = []
  · exact .inl hn
  right
  have hpos : 0 < (xs ()).length := by cases hq : xs () with | nil => exact absurd hq hn | cons => simp
  have h3 := h3'.pos hpos
  rcases h3.2 with ⟨hz, hz'⟩ | ⟨g, cap', cur, hg, _, hgg, hncap, hcm, hcs, htake⟩
  · omega
  rw [hg] at hsl
  simp at hsl
  refine ⟨⟨g, 0, none⟩, hsl.1.symm, rfl, fun j x hx => ?_⟩
  have h6 := relL_flatMap_get h5 h4 j x hx
  refine ⟨_, ?_, relHL.up hle h6, fun k u hu => ?_⟩
  · rw [relL_length h6]; exact h5 x (List.mem_of_getElem? hx)
  · rw [List.getElem?_take] at hu
    split at hu
    · rw [List.getElem?_drop] at hu
      have hG := hown g (by rw [hg]; simp only [vblk]; rw [if_neg (by omega)])
      have hc := h3.cells (g := g) (by rw [hg]; rfl) _ u hu
      rw [addr_add, cell_of_row w g _ cur e (0, 0) hgg] at hc
      simp only [hcell, hG, hgg, Nat.zero_add]
      simpa using hc
    · cases hu

theorem own_sees {D : Den f s η H a w} {G : Heap} (S : Sees D G) {l : Nat} {T : Type} {e : TypeId} {sz : Nat} {c : T → List SV} {xs : Unit → List T} (hs : s.b[l]? = some (.dyn e sz c xs)) :
    rel η (qOf s.b) G (.sl sz c xs) (η l) := own_seen D hs S.le (fun b hb => S.own l b (by rw [qOf_get hs]; rfl) hb)

/-- A part of a row that can be read. -/
theorem sl_part {q : Nat → Live} {G : Heap} {T : Type} {sz : Nat} {c : T → List SV} {xs : Unit → List T} {o v : Value} {m n : Nat} (h : rel η q G (.sl sz c xs) o) (hp : PartOf o sz m n v) :
    rel η q G (.sl sz c fun _ => ((xs ()).take n).drop m) v := by
  simp only [rel] at h ⊢
  obtain ⟨⟨ad, cap, rfl, h2, h3⟩, hlf⟩ := h
  refine ⟨?_, hlf⟩
  obtain ⟨ad0, nn, c0, h4, h5, h6, ad', c', rfl, h8, h9⟩ := hp
  simp at h4
  obtain ⟨rfl, rfl, rfl⟩ := h4
  have hlen : (((xs ()).take n).drop m).length = n - m := by simp; omega
  refine ⟨ad', c', by rw [hlen], by rw [hlen]; exact h8, ?_⟩
  by_cases hmn : m < n
  · right
    obtain ⟨bl, rfl, rfl⟩ := h9 hmn
    rcases h3 with h3 | ⟨a0, ha0, hsp, hrow⟩
    · rw [h3] at h6; simp at h6; omega
    · simp at ha0; subst ha0
      refine ⟨_, rfl, rfl, fun j x hx => ?_⟩
      rw [List.getElem?_drop, List.getElem?_take] at hx
      split at hx
      · obtain ⟨vals, g1, g2, g3⟩ := hrow _ x hx
        refine ⟨vals, g1, g2, fun k u hu => ?_⟩
        rw [← g3 k u hu]
        congr 1
        rw [Nat.add_mul]; simp only; omega
      · cases hx
  · left
    exact List.eq_nil_of_length_eq_zero (by rw [hlen]; omega)

theorem fix_sees {D : Den f s η H a w} {G : Heap} (S : Sees D G) {l : Nat} {e : TypeId} {cs : List SV} (hs : s.b[l]? = some (.fix e cs)) :
    ∃ bl vs, η l = .pointer (some ⟨bl, 0, none⟩) ∧ cellsAt G bl 0 vs ∧ relL η (qOf s.b) H cs vs := by
  obtain ⟨bl, vs, h3, h4, h5⟩ := D.sl l _ hs
  have hG := S.own l bl (by rw [qOf_get hs]; rfl) (by rw [h3]; rfl)
  refine ⟨bl, vs.toList, h3, fun j u hu => ?_, h5⟩
  simp only [hcell, hG, h4]
  simpa using hu

theorem view_ok {D : Den f s η H a w} {G : Heap} (S : Sees D G) : ∀ (n : Nat) (x : SV) (v : Value), rel η (qOf s.b) H x v → rel η (qOf s.b) G (viewF s.b n x) v
  | 0, x, v, h => rel_mono (Turn.refl _ _) S.le x v h
  | n + 1, x, v, h => by
    have up : ∀ {y : SV} {v : Value}, rel η (qOf s.b) H y v → rel η (qOf s.b) G y v := fun {y v} h => rel_mono (Turn.refl _ _) S.le y v h
    have map : ∀ (cs : List SV) (vs : List Value), relL η (qOf s.b) H cs vs → relL η (qOf s.b) G (cs.map (viewF s.b n)) vs := by
      intro cs
      induction cs with
      | nil => intro vs h; simpa [relL] using h
      | cons c r ih =>
        intro vs h
        simp only [relL, List.map_cons] at h ⊢
        obtain ⟨u, us, h1, h2, h3⟩ := h
        exact ⟨u, us, h1, view_ok S n c u h2, ih us h3⟩
    cases x with
    | own l =>
      simp only [viewF]
      split
      · rename_i T e sz c xs hs
        simp only [rel, qOf_get hs, Slot.live] at h
        rw [h.1]
        exact own_sees S hs
      · exact up h
    | osl l sz m k =>
      simp only [viewF]
      split
      · rename_i T e sz' c xs hs
        split
        · rename_i hsz
          obtain rfl := Nat.eq_of_beq_eq_true hsz
          simp only [rel, qOf_get hs, Slot.live] at h
          exact sl_part (own_sees S hs) h
        · exact up h
      · exact up h
    | ptr l off =>
      simp only [viewF]
      split
      · rename_i e cs hs
        simp only [rel, qOf_get hs, Slot.live] at h
        obtain ⟨bl, h1, h2⟩ := h
        obtain ⟨bl', vs, h3, h4, h5⟩ := fix_sees S hs
        rw [h1] at h3
        simp at h3; subst h3
        simp only [rel]
        exact ⟨⟨bl, 0, none⟩, by rw [h2]; simp, vs, map _ _ h5, h4⟩
      · exact up h
    | mown l =>
      simp only [viewF]
      split
      · rename_i T k c m hs
        simp only [rel, qOf_get hs, Slot.live] at h
        obtain ⟨r, es, clock, h3, h4, hM, hlf⟩ := D.sl l _ hs
        have hG := S.own l r (by rw [qOf_get hs]; rfl) (by rw [h3]; rfl)
        simp only [rel]
        exact ⟨.inr ⟨r, es, clock, h.1.trans h3, by rw [hG]; exact h4, hM.mono fun t u hu => relHL.up S.le hu⟩, hlf⟩
      · exact up h
    | fn f xs ys =>
      simp only [viewF]
      simp only [rel] at h ⊢
      obtain ⟨fs, cs, h1, h2, h3⟩ := h
      exact ⟨fs, cs, h1, map _ _ h2, map _ _ h3⟩
    | agg cs =>
      simp only [viewF]
      simp only [rel] at h ⊢
      obtain ⟨vs, h1, h2⟩ := h
      exact ⟨vs, h1, map _ _ h2⟩
    | tup cs =>
      simp only [viewF]
      simp only [rel] at h ⊢
      obtain ⟨vs, h1, h2⟩ := h
      exact ⟨vs, h1, map _ _ h2⟩
    | _ => simp only [viewF]; exact up h

mutual
theorem scalar_rel {η η' : Nat → Value} {q q' : Nat → Live} {H H' : Heap} : ∀ (x : SV) (v : Value), x.scalar = true → rel η q H x v → rel η' q' H' x v
  | .bc c, v, _, h => by simpa [rel] using h
  | .b x, v, _, h => by simpa [rel] using h
  | .nb d p, v, l, _ => by simp [SV.scalar] at l
  | .ic k n, v, _, h => by simpa [rel] using h
  | .i k n, v, _, h => by simpa [rel] using h
  | .str x, v, _, h => by simpa [rel] using h
  | .agg cs, v, l, h => by
    simp only [rel, SV.scalar] at h l ⊢
    obtain ⟨vs, h1, h2⟩ := h
    exact ⟨vs, h1, scalars_rel cs vs l h2⟩
  | .tup cs, v, l, h => by
    simp only [rel, SV.scalar] at h l ⊢
    obtain ⟨vs, h1, h2⟩ := h
    exact ⟨vs, h1, scalars_rel cs vs l h2⟩
  | .any, _, l, _ => by simp [SV.scalar] at l
  | .v x, v, l, _ => by simp [SV.scalar] at l
  | .nils, v, l, _ => by simp [SV.scalar] at l
  | .ptr _ off, v, l, h => by simp [SV.scalar] at l
  | .ept _ sz i off, v, l, h => by simp [SV.scalar] at l
  | .own _, v, l, h => by simp [SV.scalar] at l
  | .osl _ _ _ _, v, l, h => by simp [SV.scalar] at l
  | .lst cs n, v, l, h => by simp [SV.scalar] at l
  | .sl sz c xs, v, l, h => by simp [SV.scalar] at l
  | .spt cs off, v, l, h => by simp [SV.scalar] at l
  | .fn f first cap, v, l, h => by simp [SV.scalar] at l
  | .ifc t x, v, l, h => by simp [SV.scalar] at l
  | .csl sz c xs, v, l, h => by simp [SV.scalar] at l
  | .mp k c m, v, l, h => by simp [SV.scalar] at l
  | .mown _, v, l, h => by simp [SV.scalar] at l
  | .yld _, v, l, h => by simp [SV.scalar] at l
theorem scalars_rel {η η' : Nat → Value} {q q' : Nat → Live} {H H' : Heap} : ∀ (x : List SV) (v : List Value), scalars x = true → relL η q H x v → relL η' q' H' x v
  | [], v, _, h => by simpa [relL] using h
  | s :: r, v, l, h => by
    simp only [relL, scalars, Bool.and_eq_true] at h l ⊢
    obtain ⟨x, xs, h1, h2, h3⟩ := h
    exact ⟨x, xs, h1, scalar_rel s x l.1 h2, scalars_rel r xs l.2 h3⟩
end

theorem run_callFunc {fid : FuncId} {fn : Func} (F : FnOk P fid fn) (args : Array Value) (w : World) : (callFunc fid args).run P w = .ok (.enter fid args) w := by
  have h := F.body
  cases hb : fn.body with
  | none => rw [hb] at h; cases h
  | some c =>
    have hn : ¬ fn.name = "runtime.NumGoroutine" := by simpa using F.name
    simp [callFunc, F.get, hn, hb]

theorem exec_call {c : Call} {g : Operand} {fid : FuncId} {fn : Func} (F : FnOk P fid fn) (ho : o.op = .call c) (hg : c.callee = .value g) {fs cs : List Value} (hv : a.eval g = .func (.func fid) fs.toArray cs.toArray) (w : World) :
    (execOp a.eval o).run P w = .ok (.enter fid (fs ++ c.args.toList.map a.eval ++ cs).toArray) w := by
  unfold execOp
  simp only [ho, resolve, hg, hv, Deferred.ofValue, Sem.run_bind, Sem.run_pure, Result.andThen_ok, invoke]
  have : (fs.toArray ++ Array.map a.eval c.args ++ cs.toArray) = (fs ++ c.args.toList.map a.eval ++ cs).toArray := by
    apply Array.ext'
    simp
  rw [this]
  exact run_callFunc F _ w

theorem grown_of_frame {w w' : World} (h : (worldHeap w).inW w') (h1 : w'.os = w.os) (h2 : w'.tape = w.tape) (h3 : w'.output = w.output) : w.grownBy w' none := by
  refine ⟨h1, h2, h3, ?_, fun b hb _ => ?_⟩
  · by_cases hs : w.heap.size = 0
    · omega
    · have := h (w.heap.size - 1) w.heap[w.heap.size - 1] (by simp [worldHeap])
      have := (Array.getElem?_eq_some_iff.1 this).1
      omega
  · have := h b w.heap[b] (by simp [worldHeap, hb])
    rw [this]
    simp [hb]

theorem view_id (b : List Slot) : ∀ (n : Nat) (x : SV), x.lb = false → viewF b n x = x
  | 0, x, _ => rfl
  | n + 1, x, h => by
    have map : ∀ (cs : List SV), lbs cs = false → cs.map (viewF b n) = cs := by
      intro cs
      induction cs with
      | nil => intro _; rfl
      | cons c r ih =>
        intro h
        simp only [lbs, Bool.or_eq_false_iff] at h
        rw [List.map_cons, view_id b n c h.1, ih h.2]
    cases x <;> simp only [SV.lb] at h <;> first | (cases h; done) | rfl | (simp only [viewF]; rw [map _ h]; done) | (simp only [Bool.or_eq_false_iff] at h; simp only [viewF]; rw [map _ h.1, map _ h.2])
theorem views_id (b : List Slot) : ∀ (xs : List SV), lbs xs = false → xs.map (view b) = xs
  | [], _ => rfl
  | x :: r, h => by
    simp only [lbs, Bool.or_eq_false_iff] at h
    rw [List.map_cons, views_id b r h.2]
    exact congrArg (· :: r) (view_id b 4 x h.1)

theorem s_call (C : X.Ok P) (D : Den f s η H a w) {c : Call} {g : Operand} {fid : FuncId} {first cap : List SV} (ho : o.op = .call c) (hg : c.callee = .value g) (hv : Vc.ev s g = .fn (.func fid) first cap)
    (h : (aCall X s.b fid (first ++ c.args.toList.map (Vc.ev s) ++ cap)).K R) : Goes P f s o a w R := by
  have hgv := D.ev g
  rw [hv] at hgv
  simp only [rel] at hgv
  obtain ⟨fs, cs, h1, h2, h3⟩ := hgv
  have hargs : relL η (qOf s.b) H (first ++ c.args.toList.map (Vc.ev s) ++ cap) (fs ++ c.args.toList.map a.eval ++ cs) := relL_append (relL_append h2 (D.evs _)) h3
  unfold aCall at h
  split at h <;> first | exact h.elim | skip
  rename_i S hS
  have SS := C.sp _ _ hS
  obtain ⟨fn, F⟩ := SS.fn
  have hrun := exec_call F ho hg h1 w
  have fin : ∀ (α : S.α), S.pre α → R (S.res α) [] → ∀ (Hc : Heap), Hc.inW w → relHL Hc (S.args α) (fs ++ c.args.toList.map a.eval ++ cs) →
      (∀ H' w' v, Hc.le H' → H'.inW w' → w.grownBy w' none → (∀ b, H' b ≠ none → Hc b ≠ none ∨ w.heap.size ≤ b) → relH H' (S.res α) v → ∃ η' H2, Den f (s.upd o.dst (S.res α) []) η' H2 (a.put o.dst v) w') → Goes P f s o a w R := by
    intro α hpre hR Hc hin hrel hfin
    refine ⟨_, [], hR, fun K Q hk => ?_⟩
    unfold Oper.wp
    rw [hrun]
    refine (SS.run α hpre Hc (worldHeap w) w _ hin (worldHeap_in w) hrel).mono fun e w' ⟨v, H', he, g1, g2, g3, g4, g5, g6, g7, g8⟩ => ?_
    subst he
    have hgr := grown_of_frame g3 g6 g7 g8
    obtain ⟨η', H2, D'⟩ := hfin H' w' v g1 g2 hgr (fun b hb => by
      rcases g4 b hb with h | h
      · exact .inl h
      · right
        unfold worldHeap at h
        simpa using h) g5
    exact hk η' H2 w' v D'
  split at h
  · obtain ⟨α, ⟨hle, hpre, hsc⟩, hR⟩ := h
    cases hl : lbs (first ++ c.args.toList.map (Vc.ev s) ++ cap) with
    | false =>
      rw [views_id s.b _ hl] at hle
      refine fin α hpre hR H D.hw (relL_lf _ _ (SS.lf α) (relL_le hle hargs)) ?_
      intro H' w' v hleH hin hgr hnew hres
      exact ⟨η, H', (D.share hgr hleH hin hnew).put o.dst (relH.up (Heap.le.refl H') hres)⟩
    | true =>
    have hsc : (S.res α).scalar = true := by
      have h2 : ((S.res α).scalar || !lbs (first ++ c.args.toList.map (Vc.ev s) ++ cap)) = true := hsc
      rw [hl] at h2
      simpa using h2
    have hview : relL η (qOf s.b) (worldHeap w) ((first ++ c.args.toList.map (Vc.ev s) ++ cap).map (view s.b)) (fs ++ c.args.toList.map a.eval ++ cs) := by
      have : ∀ (xs : List SV) (vs : List Value), relL η (qOf s.b) H xs vs → relL η (qOf s.b) (worldHeap w) (xs.map (view s.b)) vs := by
        intro xs
        induction xs with
        | nil => intro vs h; simpa [relL] using h
        | cons c r ih =>
          intro vs h
          simp only [relL, List.map_cons] at h ⊢
          obtain ⟨u, us, h1, h2, h3⟩ := h
          exact ⟨u, us, h1, view_ok (Sees.world D) 4 c u h2, ih us h3⟩
      exact this _ _ hargs
    refine fin α hpre hR (worldHeap w) (worldHeap_in w) (relL_lf _ _ (SS.lf α) (relL_le hle hview)) ?_
    intro H' w' v _ _ hgr _ hres
    exact ⟨η, H, (D.grown hgr).put o.dst (scalar_rel _ _ hsc hres)⟩
  · obtain ⟨α, ⟨hle, hpre⟩, hR⟩ := h
    refine fin α hpre hR H D.hw (relL_lf _ _ (SS.lf α) (relL_le hle hargs)) ?_
    intro H' w' v hleH hin hgr hnew hres
    exact ⟨η, H', (D.share hgr hleH hin hnew).put o.dst (relH.up (Heap.le.refl H') hres)⟩

theorem s_misc (D : Den f s η H a w) {v : Value} {x : SV} (hr : ∀ w, (execOp a.eval o).run P w = .ok (.value v) w) (hx : rel η (qOf s.b) H x v) (h : R x []) : Goes P f s o a w R := goes_pure D hr hx h

/-- Every operation that is served. -/
theorem act_sound (C : X.Ok P) (D : Den f s η H a w) {l : Nat} (hl : allocs o.op = true → s.b[l]? = some .un) (hd : isStore o.op = true → o.dst = none)
    (h : (actS X s l o.op).K R) : Goes P f s o a w R := by
  cases ho : o.op with
  | move x => rw [ho] at h; exact s_move D x (.inl ho) h
  | assign x => rw [ho] at h; exact s_move D x (.inr ho) h
  | pick c x y => rw [ho] at h; exact s_pick D c x y ho h
  | alloc e =>
    rw [ho] at h hl
    simp only [actS] at h
    split at h
    · rename_i i hi; exact s_alloc C D (hl rfl) e ho hi h
    · exact h.elim
  | box e x =>
    rw [ho] at h hl
    simp only [actS] at h
    split at h
    · rename_i i cs hi hc; exact s_box C D (hl rfl) e x ho hc h
    · exact h.elim
  | build t ps => rw [ho] at h; exact s_build C D t ps ho h
  | buildSlice t n ps => rw [ho] at h hl; exact s_buildSlice C D (hl rfl) t n ps ho h
  | load t x => rw [ho] at h; exact s_load C D t x ho h
  | store t x y => rw [ho] at h; exact s_store C D t x y ho (hd (by rw [ho]; rfl)) h
  | nilCheck x =>
    rw [ho] at h
    simp only [actS] at h
    have hx := D.ev x
    split at h <;> first | exact h.elim | skip
    · rename_i l off e
      rw [e] at hx
      have : ∃ ad, a.eval x = .pointer (some ad) := by
        simp only [rel] at hx
        split at hx
        · exact hx.elim
        · exact hx
        · obtain ⟨bl, _, h⟩ := hx; exact ⟨_, h⟩
      obtain ⟨ad, hp⟩ := this
      exact s_misc D (v := a.eval x) (fun w => by simp [execOp, ho, hp]) hx h
    · rename_i cs off e
      rw [e] at hx
      have : ∃ ad, a.eval x = .pointer (some ad) := by
        simp only [rel] at hx
        obtain ⟨ad, h, _⟩ := hx; exact ⟨_, h⟩
      obtain ⟨ad, hp⟩ := this
      exact s_misc D (v := a.eval x) (fun w => by simp [execOp, ho, hp]) hx h
    · rename_i fid fs cs e
      rw [e] at hx
      have : ∃ g1 g2, a.eval x = .func (.func fid) g1 g2 := by
        simp only [rel] at hx
        obtain ⟨g1, g2, h, _⟩ := hx; exact ⟨_, _, h⟩
      obtain ⟨g1, g2, hp⟩ := this
      exact s_misc D (v := a.eval x) (fun w => by simp [execOp, ho, hp]) hx h
  | binOp op t x y t' => rw [ho] at h; exact s_bin C D op t t' x y ho h
  | unOp op t x => rw [ho] at h; exact s_un D op t x ho h
  | convert src dst x => rw [ho] at h; exact s_conv C D src dst x ho h
  | makeFunc fn first cap =>
    rw [ho] at h
    refine s_misc D (v := .func fn (first.map a.eval) (cap.map a.eval)) (fun w => by simp [execOp, ho, Instr.makeFunc]) ?_ h
    simp only [rel]
    refine ⟨first.toList.map a.eval, cap.toList.map a.eval, ?_, D.evs _, D.evs _⟩
    congr 1 <;> (apply Array.ext'; simp)
  | makeSlice t n m => rw [ho] at h hl; exact s_makeSlice C D (hl rfl) t n m ho h
  | slice t x lo hi mx =>
    rw [ho] at h hl
    exact s_slice C D t x lo hi mx (fun hm => hl (by cases mx <;> simp [allocs] at hm ⊢)) ho h
  | fieldAddr t x j => rw [ho] at h; exact s_fieldAddr C D t x j ho h
  | field t x j => rw [ho] at h; exact s_field C D t x j ho h
  | indexAddr t x ix => rw [ho] at h; exact s_indexAddr C D t x ix ho h
  | index t x ix => rw [ho] at h; exact s_index C D t x ix ho h
  | makeMap t r =>
    rw [ho] at h hl
    cases r with
    | none => exact s_makeMap C D (hl rfl) t ho h
    | some r => exact h.elim
  | lookup t x ix ok => rw [ho] at h; exact s_lookup C D t x ix ok ho h
  | mapUpdate t x ix y => rw [ho] at h; exact s_mapUpdate C D t x ix y (.inl ho) (hd (by rw [ho]; rfl)) h
  | insert t x ix y => rw [ho] at h; exact s_mapUpdate C D t x ix y (.inr ho) (hd (by rw [ho]; rfl)) h
  | range t x => rw [ho] at h hl; exact s_range C D (hl rfl) t x ho h
  | entry x => rw [ho] at h; exact s_entry D x ho h
  | extract x j =>
    rw [ho] at h
    simp only [actS] at h
    have hx := D.ev x
    split at h <;> first | exact h.elim | skip
    rename_i cs e
    split at h <;> first | exact h.elim | skip
    rename_i v hv
    rw [e] at hx
    simp only [rel] at hx
    obtain ⟨vs, h1, h2⟩ := hx
    obtain ⟨u, h3, h4⟩ := relL_get h2 j v hv
    exact s_misc D (v := u) (fun w => by simp [execOp, ho, h1, Instr.extract, h3]) h4 h
  | call c =>
    rw [ho] at h hl
    simp only [actS] at h
    split at h <;> first | exact h.elim | skip
    · rename_i g hg
      split at h <;> first | exact h.elim | skip
      rename_i fid first cap hv
      exact s_call C D ho hg hv h
    · rename_i bi hg
      obtain ⟨callee, args, argTypes⟩ := c
      simp only at hg h
      subst hg
      unfold aBuiltin at h
      split at h <;> first | exact h.elim | skip
      · split at h <;> first | exact h.elim | skip
        rename_i t x e1 e2
        obtain ⟨x0, e3, rfl⟩ := map1 e2
        have e1' : argTypes = #[t] := by apply Array.ext'; simpa using e1
        have e2' : args = #[x0] := by apply Array.ext'; simpa using e3
        subst e1'; subst e2'
        exact s_len C D t x0 ho h
      · split at h <;> first | exact h.elim | skip
        rename_i t t' x y e1 e2
        split at h <;> first | exact h.elim | skip
        rename_i ht
        subst ht
        obtain ⟨x0, y0, e3, rfl, rfl⟩ := map2 e2
        have e1' : argTypes = #[t, t] := by apply Array.ext'; simpa using e1
        have e2' : args = #[x0, y0] := by apply Array.ext'; simpa using e3
        subst e1'; subst e2'
        exact s_append C D (hl rfl) t x0 y0 ho h
      · split at h <;> first | exact h.elim | skip
        rename_i t t' x y e1 e2
        split at h <;> first | exact h.elim | skip
        rename_i ht
        subst ht
        obtain ⟨x0, y0, e3, rfl, rfl⟩ := map2 e2
        have e1' : argTypes = #[t, t] := by apply Array.ext'; simpa using e1
        have e2' : args = #[x0, y0] := by apply Array.ext'; simpa using e3
        subst e1'; subst e2'
        exact s_copy C D t x0 y0 ho h
      · split at h <;> first | exact h.elim | skip
        rename_i t x e1 e2
        obtain ⟨x0, e3, rfl⟩ := map1 e2
        have e1' : argTypes = #[t] := by apply Array.ext'; simpa using e1
        have e2' : args = #[x0] := by apply Array.ext'; simpa using e3
        subst e1'; subst e2'
        exact s_clear C D t x0 ho h
      · split at h <;> first | exact h.elim | skip
        rename_i x y e2
        obtain ⟨x0, y0, e3, rfl, rfl⟩ := map2 e2
        have e2' : args = #[x0, y0] := by apply Array.ext'; simpa using e3
        subst e2'
        exact s_min D argTypes x0 y0 ho h
  | _ => rw [ho] at h; exact h.elim
end
end Go.Vc
