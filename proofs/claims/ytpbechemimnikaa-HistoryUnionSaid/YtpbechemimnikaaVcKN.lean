/-
  The operations' soundness: a part of an own row is cleared.
-/
import Derived.Test.YtpbechemimnikaaVcKM
set_option linter.unusedVariables false
set_option linter.unusedSimpArgs false
namespace Go.Vc
open Go

section
variable {P : Program} {X : Ctx} {f : Fr} {s : St} {η : Nat → Value} {H : Heap} {a : Act} {w : World} {o : Oper} {R : SV → List (Nat × Slot) → Prop}

theorem zeroCells_one {z : Value} (n : Nat) {zs : Array Value} (hz : zs.toList = [z]) : (Builtin.zeroCells zs n).toList = List.replicate n z := by
  have hs : zs = #[z] := by apply Array.ext'; simpa using hz
  subst hs
  apply List.ext_getElem?
  intro i
  simp only [Builtin.zeroCells, Array.toList_map, Array.toList_range, List.getElem?_map, List.getElem?_replicate]
  simp only [List.size_toArray, List.length_cons, List.length_nil, Nat.zero_add, Nat.mul_one, Nat.mod_one]
  by_cases h : i < n
  · simp [h]
  · simp [h]
theorem flat_one {T : Type} {c : T → List SV} (zs : List T) (hz : ∀ z ∈ zs, (c z).length = 1) (n : Nat) : (zs.take n).flatMap c = (zs.flatMap c).take n ∧ (zs.drop n).flatMap c = (zs.flatMap c).drop n := by
  induction zs generalizing n with
  | nil => simp
  | cons z r ih =>
    cases n with
    | zero => simp
    | succ n =>
      obtain ⟨y0, hy0⟩ := List.length_eq_one_iff.1 (hz z (by simp))
      have := ih (fun y hy => hz y (by simp [hy])) n
      simp [hy0, this.1, this.2]
theorem take_mid {α : Type} (cur R : List α) (g n : Nat) (h : g + R.length ≤ n) (hn : n ≤ cur.length) :
    (cur.take g ++ R ++ cur.drop (g + R.length)).take n = (cur.take n).take g ++ R ++ (cur.take n).drop (g + R.length) := by
  have e1 : (cur.take n).take g = cur.take g := by rw [List.take_take]; congr 1; omega
  have hl : (cur.take g ++ R).length = g + R.length := by simp; omega
  rw [e1, List.drop_take, List.take_append, hl, List.take_of_length_le (by rw [hl]; exact h)]
theorem rep_rel {T : Type} {c : T → List SV} {z : T} {v : Value} (h : relHL H (c z) [v]) : ∀ n, relHL H ((List.replicate n z).flatMap c) (List.replicate n v)
  | 0 => by simp [relL]
  | n + 1 => by
    rw [List.replicate_succ, List.replicate_succ, List.flatMap_cons]
    exact relL_append h (rep_rel h n)

theorem s_clear (C : X.Ok P) (D : Den f s η H a w) (t : TypeId) (x : Operand) (ho : o.op = .call { callee := .builtin .clear, args := #[x], argTypes := #[t] })
    (h : (aClear X s.b t (Vc.ev s x)).K R) : Goes P f s o a w R := by
  have hx := D.ev x
  have ex : ∀ w, (execOp a.eval o).run P w = ((Builtin.clear_ #[t] o.type #[a.eval x]).run P w).andThen fun v w' => .ok (.value v) w' := fun w => by
    unfold execOp
    simp [ho, resolve, invoke, builtin]
  unfold aClear at h
  split at h <;> first | exact h.elim | skip
  rename_i i hi
  split at h <;> first | exact h.elim | skip
  rename_i e hd
  split at h <;> first | exact h.elim | skip
  rename_i k l0 sz g h' hk es
  split at h <;> first | exact h.elim | skip
  rename_i T e' sz' c xs hs
  split at h <;> first | exact h.elim | skip
  rename_i hc
  obtain ⟨rfl, rfl, rfl, h1s, hag⟩ := hc
  obtain ⟨z, ⟨hle⟩, hR⟩ := h
  have I := C.tt _ _ hi
  have hdesc := I.desc
  rw [hd] at hdesc
  have Kk := C.tt _ _ hk
  rw [es] at hx
  simp only [rel, qOf_get hs, Slot.live] at hx
  have hlv : qOf s.b l0 = .live := by rw [qOf_get hs]; rfl
  obtain ⟨vals, h3, h4, h5, h5'⟩ := D.sl l0 _ hs
  obtain ⟨ad, nn, c0, p1, p2, p3, ad', cp', hv, p4, p5⟩ := hx
  obtain ⟨zv, hzv⟩ : ∃ zv, k.zero.cells.toList = [zv] := by
    have := Kk.zsize
    rw [h1s] at this
    exact List.length_eq_one_iff.1 (by simpa using this)
  have hz0 : relHL H (c z) [zv] := by
    have := relL_le hle (relL_ofV1 (fun _ => .nilIface) (fun _ => .un) H k.zero.cells.toList)
    rw [hzv] at this
    exact this
  have hz1 := ones_ok (h5' z).2 hz0
  have hczl : (c z).length = k.size := by rw [h1s, ← relL_length hz0]; rfl
  rw [h1s] at h5 hczl
  by_cases hgt : g () < h' ()
  · obtain ⟨bl, rfl, rfl⟩ := p5 hgt
    obtain ⟨adx, cpx, hsl, hcp⟩ := h3.slice
    rw [p1] at hsl
    simp at hsl
    have hnn : nn = (xs ()).length := hsl.2.1
    have hxpos : 0 < (xs ()).length := by omega
    have h3 := h3.pos hxpos
    rcases h3.2 with ⟨hn, _⟩ | ⟨gb, cap', cur, hg, _, hgg, hncap, hcm, hcs, htake⟩
    · rw [p1] at hn; simp at hn
    rw [p1] at hg
    simp at hg
    obtain ⟨rfl, _, rfl⟩ := hg
    rw [h1s, Nat.mul_one] at hcs htake
    have hvl := h3.1
    rw [h1s, Nat.mul_one] at hvl
    obtain ⟨d, hdd⟩ : ∃ d, d = h' () - g () := ⟨_, rfl⟩
    have hcurlen : cur.toList.length = c0 := by simpa using hcs
    have hst := run_storeCells_at P bl (g ()) e' (List.replicate d zv) 0 cur w hgg (by simp; omega) (fun v hv => by
      have := (List.mem_replicate.1 hv).2
      subst this
      exact hz1 _ (by simp))
    have hrun : (Builtin.clear_ #[t] o.type #[.slice (some ⟨bl, g () * 1, none⟩) (h' () - g ()) cp']).run P w = .ok (.tuple #[]) (w.setRow bl (cur.toList.take (g ()) ++ List.replicate d zv ++ cur.toList.drop (g () + d)).toArray) := by
      have hd0 : h' () - g () ≠ 0 := by omega
      obtain ⟨d', hd'⟩ : ∃ d', h' () - g () = d' + 1 := ⟨h' () - g () - 1, by omega⟩
      rw [← hdd] at hd'
      simp only [Builtin.clear_, run_underlying hdesc, Sem.run_bind, Result.andThen_ok, ← hdd, hd', run_zero Kk, Nat.mul_one]
      have hz2 := zeroCells_one (d' + 1) hzv
      simp only [Nat.add_zero, List.length_replicate] at hst
      rw [hd'] at hst
      simp [run_underlying hdesc, run_zero Kk, hz2, hst, Result.andThen]
    have hnlen : ((xs ()).take (g ()) ++ List.replicate d z ++ (xs ()).drop (g () + d)).length = (xs ()).length := by simp; omega
    have hlenc : ∀ y ∈ (xs ()).take (g ()) ++ List.replicate d z ++ (xs ()).drop (g () + d), (c y).length = k.size := by
      intro y hy
      rw [h1s]
      rcases List.mem_append.1 hy with hy | hy
      · rcases List.mem_append.1 hy with hy | hy
        · exact h5 y (List.mem_of_mem_take hy)
        · rw [(List.mem_replicate.1 hy).2]; exact hczl
      · exact h5 y (List.mem_of_mem_drop hy)
    have hnew : relHL H (((xs ()).take (g ()) ++ List.replicate d z ++ (xs ()).drop (g () + d)).flatMap c) (vals.take (g ()) ++ List.replicate d zv ++ vals.drop (g () + d)) := by
      rw [List.flatMap_append, List.flatMap_append, (flat_one (xs ()) h5 _).1, (flat_one (xs ()) h5 _).2]
      exact relL_append (relL_append (relL_take h4 _) (rep_rel hz0 d)) (relL_drop h4 _)
    have D' := D.change (w' := w.setRow bl (cur.toList.take (g ()) ++ List.replicate d zv ++ cur.toList.drop (g () + d)).toArray) (η' := η) (l := l0) (x := .dyn e' k.size c fun _ => (xs ()).take (g ()) ++ List.replicate (h' () - g ()) z ++ (xs ()).drop (g () + (h' () - g ()))) none
      (b' := s.b.set l0 (.dyn e' k.size c fun _ => (xs ()).take (g ()) ++ List.replicate (h' () - g ()) z ++ (xs ()).drop (g () + (h' () - g ())))) rfl (fun _ _ => rfl)
      (.inr ⟨hlv, rfl, rfl⟩) rfl (fun _ h => by cases h) (some bl) (setRow_grown w bl _) (fun q hq => .inr ⟨hlv, by simp at hq; subst hq; rw [p1]; simp only [vblk]; rw [if_neg (by omega)]⟩)
      (fun b hb => .inr (.inr ⟨hlv, hb⟩)) (fun _ => by
        rw [← hdd]
        refine ⟨_, .of ⟨?_, .inr ⟨bl, c0, _, by rw [p1, hnlen, hnn], Nat.zero_le _, setRow_heap w bl cur _ e' _ hgg, by rw [hnlen]; omega, hcm, ?_, ?_⟩⟩, hnew, hlenc, h5'⟩
        · rw [hnlen, h1s, Nat.mul_one]; simp [hvl]; omega
        · rw [h1s, Nat.mul_one]; simp [hcurlen]; omega
        · rw [hnlen, h1s, Nat.mul_one, ← htake]
          have := take_mid cur.toList (List.replicate d zv) (g ()) (xs ()).length (by simp; omega) (by rw [hcurlen]; omega)
          simp only [List.length_replicate] at this
          simpa using this)
    refine ⟨_, _, hR, fun K Q hkk => ?_⟩
    unfold Oper.wp
    rw [ex, hv, hrun]
    refine hkk _ H _ _ (Den.put D' o.dst ?_)
    simp only [rel]
    exact ⟨[], rfl, by simp [relL]⟩
  · have hd0 : h' () - g () = 0 := by omega
    have hnew : (xs ()).take (g ()) ++ List.replicate (h' () - g ()) z ++ (xs ()).drop (g () + (h' () - g ())) = xs () := by rw [hd0]; simp
    have hrun : (Builtin.clear_ #[t] o.type #[.slice ad' (h' () - g ()) cp']).run P w = .ok (.tuple #[]) w := by
      rw [hd0]
      cases ad' <;> simp [Builtin.clear_, run_underlying hdesc]
    refine ⟨_, _, hR, fun K Q hkk => ?_⟩
    unfold Oper.wp
    rw [ex, hv, hrun]
    have D' := D.change (w' := w) (η' := η) (l := l0) (x := .dyn e' k.size c fun _ => (xs ()).take (g ()) ++ List.replicate (h' () - g ()) z ++ (xs ()).drop (g () + (h' () - g ()))) none
      (b' := s.b.set l0 (.dyn e' k.size c fun _ => (xs ()).take (g ()) ++ List.replicate (h' () - g ()) z ++ (xs ()).drop (g () + (h' () - g ())))) rfl (fun _ _ => rfl)
      (.inr ⟨hlv, rfl, rfl⟩) rfl (fun _ h => by cases h) none (grownBy_refl w none) (fun k hk => by cases hk)
      (fun b hb => .inr (.inr ⟨hlv, hb⟩)) (fun _ => ⟨vals, by rw [hnew]; exact h3, by rw [hnew]; exact h4, by rw [hnew, h1s]; exact h5, h5'⟩)
    refine hkk _ H _ _ (Den.put D' o.dst ?_)
    simp only [rel]
    exact ⟨[], rfl, by simp [relL]⟩
end
end Go.Vc
