/-
  The operations' soundness, seventh part: append, parts of slices, lengths.
-/
import Derived.Test.YtpbechemimnikaaVcJ
set_option linter.unusedVariables false
set_option linter.unusedSimpArgs false
namespace Go.Vc
open Go

section
variable {P : Program} {X : Ctx} {f : Fr} {s : St} {η : Nat → Value} {H : Heap} {a : Act} {w : World} {o : Oper} {R : SV → List (Nat × Slot) → Prop}

/-- A slice whose elements can be read in the world at hand. -/
def RowW (η : Nat → Value) (q : Nat → Live) (H : Heap) (w : World) : SV → Value → Prop
  | @SV.sl T sz c xs, v => ∃ ad cap, v = .slice ad (xs ()).length cap ∧ (xs ()).length ≤ cap ∧
      (xs () = [] ∨ ∃ a : Addr, ad = some a ∧ a.spot = none ∧
        ∀ j x, (xs ())[j]? = some x → ∃ vals, vals.length = sz ∧ relL η q H (c x) vals ∧ ∀ k u, vals[k]? = some u → w.cell? ⟨a.block, a.off + j * sz + k, none⟩ = some u)
  | _, _ => False

theorem rowW_of_rel {q : Nat → Live} (hw : H.inW w) {T : Type} {sz : Nat} {c : T → List SV} {xs : Unit → List T} {v : Value} (h : rel η q H (.sl sz c xs) v) : RowW η q H w (.sl sz c xs) v := by
  simp only [rel] at h
  simp only [RowW]
  obtain ⟨⟨ad, cap, h1, h2, h3⟩, _⟩ := h
  refine ⟨ad, cap, h1, h2, h3.imp id ?_⟩
  rintro ⟨a, h4, h5, h6⟩
  refine ⟨a, h4, h5, fun j x hx => ?_⟩
  obtain ⟨vals, h7, h8, h9⟩ := h6 j x hx
  exact ⟨vals, h7, h8, fun k u hu => hcell_inW hw (h9 k u hu)⟩

theorem rowW_own (D : Den f s η H a w) {l : Nat} {T : Type} {e : TypeId} {sz : Nat} {c : T → List SV} {xs : Unit → List T} (hs : s.b[l]? = some (.dyn e sz c xs)) :
    RowW η (qOf s.b) H w (.sl sz c xs) (η l) := by
  obtain ⟨vals, h3, h4, h5, h5'⟩ := D.sl l _ hs
  simp only [RowW]
  rcases h3 with ⟨h3, _⟩ | ⟨⟨ad, h3⟩, hz, _⟩
  case inr => exact ⟨ad, 0, by rw [h3, hz], by omega, .inl (List.eq_nil_of_length_eq_zero hz)⟩
  rcases h3.2 with ⟨hn, hz⟩ | ⟨g, cap', cur, hg, _, hgg, hncap, hcm, hcs, htake⟩
  · exact ⟨none, 0, by rw [hn, hz], by omega, .inl (List.eq_nil_of_length_eq_zero hz)⟩
  · refine ⟨_, cap', hg, hncap, .inr ⟨⟨g, 0, none⟩, rfl, rfl, fun j x hx => ?_⟩⟩
    have h6 := relL_flatMap_get h5 h4 j x hx
    refine ⟨_, ?_, relHL.up (Heap.le.refl H) h6, fun k u hu => ?_⟩
    · rw [relL_length h6]; exact h5 x (List.mem_of_getElem? hx)
    · rw [List.getElem?_take] at hu
      split at hu
      · rw [List.getElem?_drop] at hu
        have := h3.cells (g := g) (by rw [hg]; rfl) _ u hu
        rw [addr_add] at this
        simpa using this
      · cases hu

/-- A part of a row, as a reader sees it. -/
theorem rowW_part {q : Nat → Live} {T : Type} {sz : Nat} {c : T → List SV} {xs : Unit → List T} {o v : Value} {m n : Nat} (h : RowW η q H w (.sl sz c xs) o) (hp : PartOf o sz m n v) :
    RowW η q H w (.sl sz c fun _ => ((xs ()).take n).drop m) v := by
  simp only [RowW] at h ⊢
  obtain ⟨ad, cap, rfl, h2, h3⟩ := h
  obtain ⟨ad0, nn, c0, h4, h5, h6, ad', c', rfl, h8, h9⟩ := hp
  simp at h4
  obtain ⟨rfl, rfl, rfl⟩ := h4
  have hlen : (((xs ()).take n).drop m).length = n - m := by simp; omega
  refine ⟨ad', c', by rw [hlen], by rw [hlen]; exact h8, ?_⟩
  by_cases hmn : m < n
  · right
    obtain ⟨bl, rfl, rfl⟩ := h9 hmn
    rcases h3 with h3 | ⟨a0, ha0, hsp, hrow⟩
    · rw [h3] at h6; simp at h6; omega
    · simp at ha0; subst ha0
      refine ⟨_, rfl, rfl, fun j x hx => ?_⟩
      rw [List.getElem?_drop, List.getElem?_take] at hx
      split at hx
      · obtain ⟨vals, g1, g2, g3⟩ := hrow _ x hx
        refine ⟨vals, g1, g2, fun k u hu => ?_⟩
        rw [← g3 k u hu]
        congr 2
        rw [Nat.add_mul]; simp only; omega
      · cases hx
  · left
    exact List.eq_nil_of_length_eq_zero (by rw [hlen]; omega)

theorem le_sl_eq : ∀ {x y : SV}, Le x y → ∀ {T T' : Type} {sz sz' : Nat} {c : T → List SV} {c' : T' → List SV} {xs : Unit → List T} {ys : Unit → List T'},
    x = .sl sz c xs → y = .sl sz' c' ys → x = y := by
  intro x y h
  cases h <;> intro T T' sz sz' c c' xs ys e1 e2 <;> try cases e1 <;> try cases e2
  · rfl
  · rename_i he
    congr 1
    funext u
    exact he

/-- The source of an append. -/
theorem src_ok (D : Den f s η H a w) {x : SV} {v : Value} (hx : rel η (qOf s.b) H x v) {T : Type} {sz : Nat} {c : T → List SV} {ys : Unit → List T} (hle : Le (top s.b x) (.sl sz c ys)) :
    RowW η (qOf s.b) H w (.sl sz c ys) v := by
  have plain : top s.b x = x → RowW η (qOf s.b) H w (.sl sz c ys) v := fun e => rowW_of_rel D.hw (rel_le (by rw [e] at hle; exact hle) hx)
  unfold top at hle plain
  split at hle
  · rename_i l
    split at hle
    · rename_i T' e sz' c' xs' hs
      have := le_sl_eq hle rfl rfl
      rw [← this]
      simp only [rel, qOf_get hs, Slot.live] at hx
      rw [hx.1]
      exact rowW_own D hs
    · rename_i hne
      exact rowW_of_rel D.hw (rel_le hle hx)
  · rename_i l sz' m k
    split at hle
    · rename_i T' e sz'' c' xs' hs
      split at hle
      · rename_i hsz
        obtain rfl := Nat.eq_of_beq_eq_true hsz
        have := le_sl_eq hle rfl rfl
        rw [← this]
        simp only [rel, qOf_get hs, Slot.live] at hx
        exact rowW_part (rowW_own D hs) hx
      · exact rowW_of_rel D.hw (rel_le hle hx)
    · exact rowW_of_rel D.hw (rel_le hle hx)
  · exact rowW_of_rel D.hw (rel_le hle hx)

/-- The cells of the source, in one list. -/
theorem row_list {q : Nat → Live} {T : Type} {sz : Nat} {c : T → List SV} (b : Nat) : ∀ (xs : List T) (o : Nat),
    (∀ j x, xs[j]? = some x → ∃ vals, vals.length = sz ∧ relL η q H (c x) vals ∧ ∀ k u, vals[k]? = some u → w.cell? ⟨b, o + j * sz + k, none⟩ = some u) →
    ∃ news : List Value, news.length = xs.length * sz ∧ relL η q H (xs.flatMap c) news ∧ (∀ x ∈ xs, (c x).length = sz) ∧ ∀ k u, news[k]? = some u → w.cell? ⟨b, o + k, none⟩ = some u
  | [], o, _ => ⟨[], by simp, by simp [relL], by simp, by simp⟩
  | x :: r, o, h => by
    obtain ⟨vals, h1, h2, h3⟩ := h 0 x (by simp)
    obtain ⟨news, h4, h5, h6, h7⟩ := row_list b r (o + sz) (fun j y hy => by
      obtain ⟨vals, a1, a2, a3⟩ := h (j + 1) y (by simpa using hy)
      exact ⟨vals, a1, a2, fun k u hu => by have := a3 k u hu; rw [Nat.add_mul, Nat.one_mul] at this; rw [← this]; congr 2; omega⟩)
    refine ⟨vals ++ news, by simp [h1, h4, Nat.add_mul]; omega, by rw [List.flatMap_cons]; exact relL_append h2 h5, ?_, ?_⟩
    · intro y hy
      rcases List.mem_cons.1 hy with rfl | hy
      · rw [← h1, relL_length h2]
      · exact h6 y hy
    · intro k u hu
      by_cases hk : k < sz
      · rw [List.getElem?_append_left (by omega)] at hu
        have := h3 k u hu
        simpa using this
      · rw [List.getElem?_append_right (by omega), h1] at hu
        have := h7 _ u hu
        rw [← this]
        congr 2
        omega

theorem LFL_append : ∀ {xs ys : List SV}, LFL xs → LFL ys → LFL (xs ++ ys)
  | [], ys, _, h => h
  | x :: r, ys, h, k => by simp only [LFL, List.cons_append] at h ⊢; exact ⟨h.1, LFL_append h.2 k⟩
theorem LFL_flatMap {T : Type} {c : T → List SV} (h : ∀ x, LFL (c x)) : ∀ xs : List T, LFL (xs.flatMap c)
  | [] => trivial
  | x :: r => by rw [List.flatMap_cons]; exact LFL_append (h x) (LFL_flatMap h r)
theorem ones_flatMap {T : Type} {c : T → List SV} (h : ∀ x, (c x).all SV.one = true) : ∀ xs : List T, (xs.flatMap c).all SV.one = true
  | [] => rfl
  | x :: r => by rw [List.flatMap_cons, List.all_append, h x, ones_flatMap h r]; rfl

theorem run_append_none (t ty e : TypeId) (i : TypeInfo) (ht : P.underlying t = some (.slice e)) (hi : P.info? e = some i) (ad : Option Addr) (n c c' : Nat) (hnc : n ≤ c) (w : World) (ad' : Option Addr) :
    (Builtin.append_ #[t, t] ty #[.slice ad n c, .slice ad' 0 c']).run P w = .ok (.slice ad n c) w := by
  cases ad <;> cases ad' <;> simp [Builtin.append_, run_underlying ht, sizeOf, typeInfo, hi, Builtin.lenOf, hnc, Builtin.firstCells, loadCells, loadCellsFrom, storeCells]

theorem vblk_own {v : Value} (h : ∀ ad m, v ≠ .slice ad m 0) (hs : Value.isSlice v) : vblk v = v.ownBlock := by
  obtain ⟨a, n, c, rfl⟩ := hs
  have : c ≠ 0 := fun e => h _ _ (by rw [e])
  cases a <;> simp [vblk, Value.ownBlock, this]

theorem OwnRow.slice {e : TypeId} {sz : Nat} {v : Value} {n : Nat} {vals : List Value} (h : OwnRow w e sz v n vals) : ∃ ad cp, v = .slice ad n cp ∧ n ≤ cp := by
  rcases h with ⟨h, _⟩ | ⟨⟨ad, rfl⟩, rfl, _⟩
  · rcases h.2 with ⟨rfl, h0⟩ | ⟨g, cap, cur, rfl, _, _, h0, _⟩
    · exact ⟨_, _, by rw [h0], by omega⟩
    · exact ⟨_, _, rfl, h0⟩
  · exact ⟨_, _, rfl, Nat.le_refl _⟩

theorem fresh_row {t e : TypeId} {inf : TypeInfo} (sz : Nat) (z : Value) (n3 : inf.size = sz) (hz : z.cells.size = sz) (news : List Value) (m old : Nat) (h1 : news.length = m * sz) (hm : m ≤ maxLen) :
    (w.drew.alloc (.cells (news.toArray ++ Builtin.zeroCells z.cells (grownCap w m old e - m)) e)).ownsRow 0 e sz (.slice (some ⟨w.heap.size, 0, none⟩) m (grownCap w m old e)) m news := by
  have hge := grownCap_ge w m old e
  have hcm : grownCap w m old e ≤ maxLen := grownCap_le_maxLen w m old e hm
  refine ⟨h1, .inr ⟨w.heap.size, _, _, rfl, Nat.zero_le _, heap_alloc_new w.drew _, hge, hcm, ?_, ?_⟩⟩
  · simp only [Array.size_append, List.size_toArray, size_zeroCells, hz, h1, ← Nat.add_mul]
    congr 1
    omega
  · simp only [Array.toList_append]
    rw [← h1]
    exact List.take_left

/-- append, run: to an owned row (or nil) the source's elements are laid. -/
theorem append_run (C : X.Ok P) (D : Den f s η H a w) {t e : TypeId} {i k : TI} (hi : X.tt t = some i) (hd : i.d = .sl e) (hk : X.tt e = some k)
    {T : Type} {c : T → List SV} {xs ys : List T} {v x : Value} {vals : List Value} (hown : OwnRow w e k.size v xs.length vals) (hvals : relHL H (xs.flatMap c) vals)
    (hlen : ∀ z ∈ xs, (c z).length = k.size) (hlf : ∀ z, LFL (c z) ∧ (c z).all SV.one = true)
    (hsrc : RowW η (qOf s.b) H w (.sl k.size c fun _ => ys) x) (hroom : (xs.length + ys.length) * k.bytes ≤ 140737488355328) (hmax : xs.length + ys.length ≤ 9223372036854775807) (ty : TypeId) :
    ∃ v' w', (Builtin.append_ #[t, t] ty #[v, x]).run P w = .ok v' w' ∧ w.grownBy w' (vblk v) ∧ Value.isSlice v' ∧ (∀ b, vblk v' = some b → vblk v = some b ∨ b = w.heap.size) ∧
      (∀ η', η' 0 = v' → SlotOk η' (fun _ => .un) H w' 0 (.dyn e k.size c fun _ => xs ++ ys)) := by
  have I := C.tt _ _ hi
  have hdesc := I.desc
  rw [hd] at hdesc
  have Kk := C.tt _ _ hk
  obtain ⟨inf, n1, n2, n3, n4⟩ := Kk.info
  simp only [RowW] at hsrc
  obtain ⟨ad, cap, rfl, hle, hsrc⟩ := hsrc
  by_cases hys : ys = []
  · subst hys
    obtain ⟨ad1, cp, rfl, hcp⟩ := hown.slice
    refine ⟨_, w, run_append_none t ty e inf hdesc n1 ad1 _ cp cap hcp w ad, grownBy_refl w _, ⟨_, _, _, rfl⟩, fun b hb => .inl hb, fun η' he => ?_⟩
    exact ⟨vals, by rw [he]; simpa using hown, by simpa using hvals, by simpa using hlen, hlf⟩
  · rcases hsrc with h | ⟨a0, rfl, hsp, hrow⟩
    · exact absurd h hys
    obtain ⟨news, h1, h2, h3, h4⟩ := row_list a0.block ys a0.off hrow
    have h5 : relHL H (ys.flatMap c) news := relL_lf _ _ (LFL_flatMap (fun z => (hlf z).1) ys) h2
    have h6 := ones_ok (ones_flatMap (fun z => (hlf z).2) ys) h2
    have hcells : ∀ j u, news[j]? = some u → w.cell? (a0.add j) = some u := fun j u hu => by rw [addr_add' a0 hsp]; exact h4 j u hu
    have hypos : 0 < ys.length := by cases ys with | nil => exact absurd rfl hys | cons => simp
    rcases hown with ⟨hown, hne⟩ | ⟨⟨ad1, rfl⟩, hx0, rfl⟩
    · have hvs : Value.isSlice v := by
        rcases hown.2 with ⟨rfl, _⟩ | ⟨g, cap, cur, rfl, _⟩ <;> exact ⟨_, _, _, rfl⟩
      obtain ⟨v', w', r1, r2, r3, r4, r5⟩ := run_append_own_at (P := P) w 0 t ty e inf k.zero k.size k.bytes hdesc n1 n4 n2 n3 Kk.zsize Kk.pos v xs.length vals hown a0 ys.length cap news h1
        hcells h6 (by unfold maxLen; omega) hroom (Nat.zero_le _)
      have hvs' : Value.isSlice v' := by
        rcases r2.2 with ⟨rfl, _⟩ | ⟨g, cap, cur, rfl, _⟩ <;> exact ⟨_, _, _, rfl⟩
      refine ⟨v', w', r1, by rw [vblk_own hne hvs]; exact r3, hvs', fun b hb => ?_, fun η' he => ?_⟩
      · have : v'.ownBlock = some b := by
          obtain ⟨a, n, c, rfl⟩ := hvs'
          cases a <;> simp [vblk, Value.ownBlock] at hb ⊢
          exact hb.2
        rw [vblk_own hne hvs]
        rcases r5 with r5 | r5
        · exact .inl (by rw [← r5]; exact this)
        · rw [r5] at this; simp at this; exact .inr this.symm
      · refine ⟨vals ++ news, by rw [he]; exact .of (by simpa using r2), ?_, ?_, hlf⟩
        · rw [List.flatMap_append]; exact relL_append hvals h5
        · intro z hz
          rcases List.mem_append.1 hz with hz | hz
          · exact hlen z hz
          · exact h3 z hz
    · have hx : xs = [] := List.eq_nil_of_length_eq_zero hx0
      subst hx
      simp only [List.length_nil, Nat.zero_add] at hroom hmax
      have hml : ys.length ≤ maxLen := by unfold maxLen; exact hmax
      have hrun : (Builtin.append_ #[t, t] ty #[.slice ad1 0 0, .slice (some a0) ys.length cap]).run P w =
          .ok (.slice (some ⟨w.heap.size, 0, none⟩) ys.length (grownCap w ys.length 0 e)) (w.drew.alloc (.cells (news.toArray ++ Builtin.zeroCells k.zero.cells (grownCap w ys.length 0 e - ys.length)) e)) := by
        cases ad1 with
        | none => exact run_append_nil (P := P) w t ty e inf k.zero hdesc n1 n4 a0 ys.length cap news (by rw [n2]; exact h1) hcells hypos (by omega) (by rw [n3]; omega)
        | some b1 =>
          have := run_append_grow (P := P) w t ty e inf k.zero hdesc n1 n4 b1 0 0 [] (by simp) (by simp) a0 ys.length cap news (by rw [n2]; exact h1) hcells (by omega) (by omega)
            (by rw [n3]; exact growslice_fits (by omega) (by simpa using hroom))
          simpa using this
      have hrowk := fresh_row (w := w) (t := t) (e := e) (inf := inf) k.size k.zero n2 Kk.zsize news ys.length 0 h1 hml
      refine ⟨_, _, hrun, ⟨rfl, rfl, rfl, by simp, fun j hj _ => (World.grownBy_alloc w.drew _ none).block j hj (by simp)⟩, ⟨_, _, _, rfl⟩, fun b hb => ?_, fun η' he => ?_⟩
      · simp [vblk] at hb; exact .inr hb.2.symm
      · exact ⟨news, by rw [he]; exact .of (by simpa using hrowk), by simpa using h5, by simpa using h3, hlf⟩

theorem exec_append {x0 y0 : Operand} {t : TypeId} (ho : o.op = .call { callee := .builtin .append, args := #[x0, y0], argTypes := #[t, t] }) (w : World) :
    (execOp a.eval o).run P w = ((Builtin.append_ #[t, t] o.type #[a.eval x0, a.eval y0]).run P w).andThen fun v w' => .ok (.value v) w' := by
  unfold execOp
  simp [ho, resolve, invoke, builtin]

theorem s_append (C : X.Ok P) (D : Den f s η H a w) {l : Nat} (hl : s.b[l]? = some .un) (t : TypeId) (x y : Operand) (ho : o.op = .call { callee := .builtin .append, args := #[x, y], argTypes := #[t, t] })
    (h : (aAppend X s.b l t (Vc.ev s x) (Vc.ev s y)).K R) : Goes P f s o a w R := by
  have hx := D.ev x
  have hy := D.ev y
  have hlt := (List.getElem?_eq_some_iff.1 hl).1
  unfold aAppend at h
  split at h <;> first | exact h.elim | skip
  rename_i i hi
  split at h <;> first | exact h.elim | skip
  rename_i e hd
  split at h <;> first | exact h.elim | skip
  rename_i k hk
  split at h <;> first | exact h.elim | skip
  · rename_i l0 ex
    split at h <;> first | exact h.elim | skip
    rename_i T e' sz c xs hs
    split at h <;> first | exact h.elim | skip
    rename_i hc
    obtain ⟨rfl, rfl⟩ := hc
    obtain ⟨ys, ⟨hle, hroom, hmax⟩, hR⟩ := h
    rw [ex] at hx
    simp only [rel, qOf_get hs, Slot.live] at hx
    obtain ⟨vals, h3, h4, h5, h5'⟩ := D.sl l0 _ hs
    have hlv : qOf s.b l0 = .live := by rw [qOf_get hs]; rfl
    have hne : l0 ≠ l := by rintro rfl; rw [hl] at hs; cases hs
    obtain ⟨v', w', r1, r2, r3, r4, r5⟩ := append_run (ys := ys) C D hi hd hk h3 h4 h5 h5' (src_ok D hy hle) hroom hmax o.type
    refine ⟨_, _, hR, fun K Q hkk => ?_⟩
    unfold Oper.wp
    rw [exec_append ho, hx.1, r1]
    have D' := D.change (w' := w') (η' := etaSet η l v') (l := l) (x := .dyn e' k.size c fun _ => xs () ++ ys) (some l0)
      (b' := (s.b.set l0 .dead).set l (.dyn e' k.size c fun _ => xs () ++ ys)) rfl
      (fun j hj => etaSet_ne _ _ _ j hj) (.inl hl) rfl (fun o ho => by simp at ho; subst ho; exact ⟨hlv, hne⟩) (vblk (η l0)) r2
      (fun j hj => .inl ⟨l0, rfl, hj⟩)
      (fun b hb => by
        rw [etaSet_self] at hb
        rcases r4 b hb with r4 | r4
        · exact .inr (.inl ⟨l0, rfl, r4⟩)
        · exact .inl (by omega))
      (fun T => by obtain ⟨vs, g1, g2⟩ := r5 (fun _ => v') rfl; exact ⟨vs, by rw [etaSet_self]; exact g1, g2⟩)
    refine hkk _ H _ _ (Den.put D' o.dst ?_)
    simp only [rel, qOf_set l (show l < (s.b.set l0 .dead).length by simpa using hlt), if_true, Slot.live]
    exact ⟨(etaSet_self _ _ _).symm, r3⟩
  · rename_i ex
    split at h <;> first | exact h.elim | skip
    rename_i E hE
    have EE := C.el _ _ hE
    obtain ⟨ys, ⟨hle, hroom, hmax⟩, hR⟩ := h
    rw [ex] at hx
    simp only [rel] at hx
    obtain ⟨v', w', r1, r2, r3, r4, r5⟩ := append_run (xs := ([] : List E.T)) (ys := ys) (vals := []) C D hi hd hk (.inr ⟨⟨none, rfl⟩, rfl, rfl⟩) (by simp [relL]) (by simp) EE.lf (src_ok D hy hle)
      (by simpa using hroom) (by simpa using hmax) o.type
    refine goes_newrow D hl (v := v') (w' := w') (by rw [exec_append ho, hx, r1]; rfl) r2 (fun b hb => ?_) r3 (by simpa using r5 (fun _ => v') rfl) hR
    rcases r4 b hb with r4 | r4
    · simp [vblk] at r4
    · omega
  · rename_i T sz c xs ex
    split at h <;> first | exact h.elim | skip
    rename_i hsz
    subst hsz
    have I := C.tt _ _ hi
    have hdesc := I.desc
    rw [hd] at hdesc
    have Kk := C.tt _ _ hk
    obtain ⟨inf, n1, n2, n3, n4⟩ := Kk.info
    obtain ⟨ys, ⟨hle, hroom, hmax, hne, hone⟩, hR⟩ := h
    rw [ex] at hx
    have hxs := rowW_of_rel D.hw (rel_le (Le.cslsl rfl) hx)
    simp only [rel] at hx
    obtain ⟨⟨ad, hv, _⟩, hlf⟩ := hx
    have hall : ∀ z, LFL (c z) ∧ (c z).all SV.one = true := fun z => ⟨hlf z, hone z⟩
    by_cases hx0 : xs () = []
    · rw [hx0] at hv hroom hmax
      obtain ⟨v', w', r1, r2, r3, r4, r5⟩ := append_run (xs := ([] : List T)) (ys := ys) (vals := []) (v := .slice ad 0 0) C D hi hd hk (.inr ⟨⟨ad, rfl⟩, rfl, rfl⟩) (by simp [relL]) (by simp) hall (src_ok D hy hle) hroom hmax o.type
      refine goes_newrow D hl (v := v') (w' := w') (by rw [exec_append ho, hv]; simp only [List.length_nil]; rw [r1]; rfl) ?_ (fun b hb => ?_) r3 (by rw [hx0]; exact r5 (fun _ => v') rfl) hR
      · have : vblk (.slice ad 0 0) = none := by cases ad <;> simp [vblk]
        rw [this] at r2; exact r2
      · rcases r4 b hb with r4 | r4
        · cases ad <;> simp [vblk] at r4
        · omega
    · simp only [RowW] at hxs
      obtain ⟨ad', cap', hv', hc', hrow⟩ := hxs
      rw [hv] at hv'
      simp at hv'
      obtain ⟨rfl, rfl⟩ := hv'
      rcases hrow with hrow | ⟨b0, rfl, hsp, hrow⟩
      · exact absurd hrow hx0
      obtain ⟨olds, o1, o2, o3, o4⟩ := row_list b0.block (xs ()) b0.off hrow
      have hsrc := src_ok D hy hle
      simp only [RowW] at hsrc
      obtain ⟨ady, capy, hvy, hcy, hrowy⟩ := hsrc
      rcases hrowy with hrowy | ⟨a0, rfl, hspy, hrowy⟩
      · exact absurd hrowy hne
      obtain ⟨news, m1, m2, m3, m4⟩ := row_list a0.block ys a0.off hrowy
      have hypos : 0 < ys.length := by cases hq : ys with | nil => exact absurd hq hne | cons => simp
      have hfit := growslice_fits (old := (xs ()).length) (show (xs ()).length < (xs ()).length + ys.length by omega) (by simpa using hroom)
      have hrun := run_append_grow (P := P) w t o.type e inf k.zero hdesc n1 n4 b0 (xs ()).length (xs ()).length olds (by rw [n2]; exact o1) (fun j u hu => by rw [addr_add' b0 hsp]; exact o4 j u hu) a0 ys.length capy news (by rw [n2]; exact m1) (fun j u hu => by rw [addr_add' a0 hspy]; exact m4 j u hu)
        (by omega) (by omega) (by rw [n3]; exact hfit)
      rw [show olds.toArray ++ news.toArray = (olds ++ news).toArray by simp] at hrun
      have hlenall : (olds ++ news).length = ((xs ()).length + ys.length) * k.size := by rw [List.length_append, o1, m1, ← Nat.add_mul]
      have hrowk := fresh_row (w := w) (t := t) (e := e) (inf := inf) k.size k.zero n2 Kk.zsize (olds ++ news) ((xs ()).length + ys.length) (xs ()).length hlenall (by unfold maxLen; exact hmax)
      refine goes_newrow D hl (v := .slice (some ⟨w.heap.size, 0, none⟩) ((xs ()).length + ys.length) (grownCap w ((xs ()).length + ys.length) (xs ()).length e)) (w' := w.drew.alloc (.cells ((olds ++ news).toArray ++ Builtin.zeroCells k.zero.cells (grownCap w ((xs ()).length + ys.length) (xs ()).length e - ((xs ()).length + ys.length))) e)) (by rw [exec_append ho, hv, hvy, hrun]; rfl)
        ⟨rfl, rfl, rfl, by simp, fun j hj _ => (World.grownBy_alloc w.drew _ none).block j hj (by simp)⟩ (fun b hb => ?_) ⟨_, _, _, rfl⟩ ?_ hR
      · simp [vblk] at hb; omega
      · refine ⟨olds ++ news, ?_, ?_, ?_, hall⟩
        · refine .of ?_
          have : (xs () ++ ys).length = (xs ()).length + ys.length := List.length_append
          show World.ownsRow _ _ _ _ _ (xs () ++ ys).length _
          rw [this]
          exact hrowk
        · rw [List.flatMap_append]
          exact relL_append (relL_lf _ _ (LFL_flatMap (fun z => hlf z) (xs ())) o2) (relL_lf _ _ (LFL_flatMap (fun z => hlf z) ys) m2)
        · intro z hz
          rcases List.mem_append.1 hz with hz | hz
          · exact o3 z hz
          · exact m3 z hz
  · rename_i cs n ex
    split at h <;> first | exact h.elim | skip
    rename_i E ds m hE ey
    have EE := C.el _ _ hE
    have I := C.tt _ _ hi
    have hdesc := I.desc
    rw [hd] at hdesc
    have Kk := C.tt _ _ hk
    obtain ⟨inf, n1, n2, n3, n4⟩ := Kk.info
    obtain ⟨⟨zs, ys⟩, ⟨hz1, hz2, hy1, hy2, hroom, hmax⟩, hR⟩ := h
    simp only at hz1 hz2 hy1 hy2 hroom hmax hR
    rw [ex] at hx
    rw [ey] at hy
    have part : ∀ {cs : List SV} {n : Nat} {v : Value} {zs : List E.T}, rel η (qOf s.b) H (.lst cs (n + 1)) v → LeL cs (zs.flatMap E.c) → zs.length = n + 1 →
        ∃ (b0 : Addr) (news : List Value), v = .slice (some b0) (n + 1) (n + 1) ∧ news.length = (n + 1) * k.size ∧ relHL H (zs.flatMap E.c) news ∧ (∀ j u, news[j]? = some u → w.cell? (b0.add j) = some u) := by
      intro cs n v zs hv hle hlen
      simp only [rel] at hv
      obtain ⟨ad, hv, h0⟩ := hv
      rcases h0 with h0 | ⟨b0, rfl, hsp, news, h1, h2⟩
      · omega
      have h3 := relL_le hle h1
      refine ⟨b0, news, hv, ?_, relL_lf _ _ (LFL_flatMap (fun z => (EE.lf z).1) zs) h3, fun j u hu => ?_⟩
      · rw [relL_length h3, List.length_flatMap, List.map_congr_left (g := fun _ => k.size) (fun z _ => EE.len k hk z), List.map_const', List.sum_replicate_nat, hlen]
      · rw [addr_add' b0 hsp]; exact hcell_inW D.hw (h2 j u hu)
    obtain ⟨b0, olds, hv, ho1, ho2, ho3⟩ := part hx hz1 hz2
    obtain ⟨a0, news, hv', hn1, hn2, hn3⟩ := part hy hy1 hy2
    have hfit := growslice_fits (old := n + 1) (show n + 1 < n + 1 + (m + 1) by omega) (by simpa using hroom)
    have hrun := run_append_grow (P := P) w t o.type e inf k.zero hdesc n1 n4 b0 (n + 1) (n + 1) olds (by rw [n2]; exact ho1) ho3 a0 (m + 1) (m + 1) news (by rw [n2]; exact hn1) hn3
      (by omega) (by omega) (by rw [n3]; exact hfit)
    rw [show olds.toArray ++ news.toArray = (olds ++ news).toArray by simp] at hrun
    have hlenall : (olds ++ news).length = (n + 1 + (m + 1)) * k.size := by rw [List.length_append, ho1, hn1, ← Nat.add_mul]
    have hrowk := fresh_row (w := w) (t := t) (e := e) (inf := inf) k.size k.zero n2 Kk.zsize (olds ++ news) (n + 1 + (m + 1)) (n + 1) hlenall (by unfold maxLen; exact hmax)
    refine goes_newrow D hl (v := .slice (some ⟨w.heap.size, 0, none⟩) (n + 1 + (m + 1)) (grownCap w (n + 1 + (m + 1)) (n + 1) e)) (w' := w.drew.alloc (.cells ((olds ++ news).toArray ++ Builtin.zeroCells k.zero.cells (grownCap w (n + 1 + (m + 1)) (n + 1) e - (n + 1 + (m + 1)))) e)) (by rw [exec_append ho, hv, hv', hrun]; rfl)
      ⟨rfl, rfl, rfl, by simp, fun j hj _ => (World.grownBy_alloc w.drew _ none).block j hj (by simp)⟩ (fun b hb => ?_) ⟨_, _, _, rfl⟩ ?_ hR
    · simp [vblk] at hb; omega
    · refine ⟨olds ++ news, ?_, ?_, ?_, EE.lf⟩
      · refine .of ?_
        have : (zs ++ ys).length = n + 1 + (m + 1) := by rw [List.length_append, hz2, hy2]
        show World.ownsRow _ _ _ _ _ (zs ++ ys).length _
        rw [this]
        exact hrowk
      · rw [List.flatMap_append]; exact relL_append ho2 hn2
      · intro z _; exact EE.len k hk z

theorem s_len (C : X.Ok P) (D : Den f s η H a w) (t : TypeId) (x : Operand) (ho : o.op = .call { callee := .builtin .len, args := #[x], argTypes := #[t] })
    (h : (aLen X s.b t (Vc.ev s x)).K R) : Goes P f s o a w R := by
  have hx := D.ev x
  have ex : ∀ w, (execOp a.eval o).run P w = ((Builtin.len_ #[t] o.type #[a.eval x]).run P w).andThen fun v w' => .ok (.value v) w' := fun w => by
    unfold execOp
    simp [ho, resolve, invoke, builtin]
  unfold aLen at h
  split at h <;> first | exact h.elim | skip
  rename_i i hi
  have I := C.tt _ _ hi
  have hdesc := I.desc
  split at h <;> first | exact h.elim | skip
  · rename_i y hd e
    rw [hd] at hdesc
    rw [e] at hx; simp only [rel] at hx
    exact goes_pure D (v := .int .i64 (y ()).size) (fun w => by rw [ex, hx]; simp [Builtin.len_, run_underlying hdesc, goInt]) (by simp only [rel]) h
  · rename_i n e' hd
    rw [hd] at hdesc
    exact goes_pure D (v := .int .i64 n) (fun w => by rw [ex]; cases a.eval x <;> simp [Builtin.len_, run_underlying hdesc, goInt]) (by simp only [rel]) h
  · rename_i e' hd e
    rw [hd] at hdesc
    rw [e] at hx; simp only [rel] at hx
    exact goes_pure D (v := .int .i64 0) (fun w => by rw [ex, hx]; simp [Builtin.len_, run_underlying hdesc, goInt]) (by simp only [rel]) h
  · rename_i e' cs n hd e
    rw [hd] at hdesc
    rw [e] at hx; simp only [rel] at hx
    obtain ⟨ad, hx, _⟩ := hx
    exact goes_pure D (v := .int .i64 n) (fun w => by rw [ex, hx]; simp [Builtin.len_, run_underlying hdesc, goInt]) (by simp only [rel]) h
  · rename_i e' T sz c xs hd e
    rw [hd] at hdesc
    rw [e] at hx; simp only [rel] at hx
    obtain ⟨⟨ad, cap, hx, _⟩, _⟩ := hx
    exact goes_pure D (v := .int .i64 (xs ()).length) (fun w => by rw [ex, hx]; simp [Builtin.len_, run_underlying hdesc, goInt]) (by simp only [rel]) h
  · rename_i e' T sz c xs hd e
    rw [hd] at hdesc
    rw [e] at hx; simp only [rel] at hx
    obtain ⟨⟨ad, hx, _⟩, _⟩ := hx
    exact goes_pure D (v := .int .i64 (xs ()).length) (fun w => by rw [ex, hx]; simp [Builtin.len_, run_underlying hdesc, goInt]) (by simp only [rel]) h
  · rename_i e' l hd e
    split at h <;> first | exact h.elim | skip
    rename_i T e2 sz c xs hs
    rw [hd] at hdesc
    rw [e] at hx; simp only [rel, qOf_get hs, Slot.live] at hx
    have hr := rowW_own D hs
    simp only [RowW] at hr
    obtain ⟨ad, cap, hr, _⟩ := hr
    exact goes_pure D (v := .int .i64 (xs ()).length) (fun w => by rw [ex, hx.1, hr]; simp [Builtin.len_, run_underlying hdesc, goInt]) (by simp only [rel]) h
  · rename_i e' l sz m k hd e
    split at h <;> first | exact h.elim | skip
    rename_i T e2 sz' c xs hs
    rw [hd] at hdesc
    rw [e] at hx; simp only [rel, qOf_get hs, Slot.live] at hx
    obtain ⟨_, _, _, _, _, _, ad', c', hv, _⟩ := hx
    exact goes_pure D (v := .int .i64 ((k () - m () : Nat) : Int)) (fun w => by rw [ex, hv]; simp [Builtin.len_, run_underlying hdesc, goInt]) (by simp only [rel]) h

theorem s_min (D : Den f s η H a w) (ts : Array TypeId) (x y : Operand) (ho : o.op = .call { callee := .builtin .min, args := #[x, y], argTypes := ts })
    (h : (aMin (Vc.ev s x) (Vc.ev s y)).K R) : Goes P f s o a w R := by
  have hx := D.ev x
  have hy := D.ev y
  unfold aMin at h
  split at h <;> first | exact h.elim | skip
  rename_i k m k' n h1 h2
  split at h <;> first | exact h.elim | skip
  have e1 := toI_ok h1 hx
  have e2 := toI_ok h2 hy
  refine goes_pure D (v := .int k (min (m ()) (n ()))) (fun w => ?_) (by simp only [rel]) h
  unfold execOp
  simp [ho, resolve, invoke, builtin, Builtin.min_, e1, e2, Builtin.min2, Int.min_def]
  split <;> split <;> first | rfl | omega

theorem s_copy (C : X.Ok P) (D : Den f s η H a w) (t : TypeId) (x y : Operand) (ho : o.op = .call { callee := .builtin .copy, args := #[x, y], argTypes := #[t, t] })
    (h : (aCopy X s.b t (Vc.ev s x) (Vc.ev s y)).K R) : Goes P f s o a w R := by
  have hx := D.ev x
  have hy := D.ev y
  have ex : ∀ w, (execOp a.eval o).run P w = ((Builtin.copy_ #[t, t] o.type #[a.eval x, a.eval y]).run P w).andThen fun v w' => .ok (.value v) w' := fun w => by
    unfold execOp
    simp [ho, resolve, invoke, builtin]
  unfold aCopy at h
  split at h <;> first | exact h.elim | skip
  rename_i i hi
  split at h <;> first | exact h.elim | skip
  rename_i e hd
  split at h <;> first | exact h.elim | skip
  rename_i k l0 hk es
  split at h <;> first | exact h.elim | skip
  rename_i T e' sz c xs hs
  split at h <;> first | exact h.elim | skip
  rename_i hc
  obtain ⟨rfl, rfl, h1s⟩ := hc
  obtain ⟨ys, hle, hR⟩ := h
  have hle : Le (top s.b (Vc.ev s y)) (.sl k.size c fun _ => ys) := hle.out
  have I := C.tt _ _ hi
  have hdesc := I.desc
  rw [hd] at hdesc
  have Kk := C.tt _ _ hk
  obtain ⟨inf, n1, n2, n3, n4⟩ := Kk.info
  have hsz : (P.info? e').map (·.size) = some 1 := by rw [n1]; simp [n2, h1s]
  rw [es] at hx
  simp only [rel, qOf_get hs, Slot.live] at hx
  have hlv : qOf s.b l0 = .live := by rw [qOf_get hs]; rfl
  have hsrc := src_ok D hy hle
  simp only [RowW] at hsrc
  obtain ⟨ad, cap, hyv, hcap, hsrc⟩ := hsrc
  obtain ⟨vals, h3, h4, h5, h5'⟩ := D.sl l0 _ hs
  obtain ⟨ad1, cp, hsl, hcp⟩ := h3.slice
  by_cases hz : Nat.min ys.length (xs ()).length = 0
  · -- nothing is copied
    have hnew : ys.take (xs ()).length ++ (xs ()).drop ys.length = xs () := by
      have hz' : min ys.length (xs ()).length = 0 := hz
      rcases (show ys.length = 0 ∨ (xs ()).length = 0 by omega) with h0 | h0
      · rw [List.eq_nil_of_length_eq_zero h0]; simp
      · rw [List.eq_nil_of_length_eq_zero h0]; simp
    have hrun := run_copy_none (P := P) w t t o.type e' ad1 ad (xs ()).length cp ys.length cap hdesc hsz hz
    refine ⟨_, _, hR, fun K Q hkk => ?_⟩
    unfold Oper.wp
    rw [ex, hx.1, hsl, hyv, hrun]
    have D' := D.change (w' := w) (η' := η) (l := l0) (x := .dyn e' k.size c fun _ => ys.take (xs ()).length ++ (xs ()).drop ys.length) none (b' := s.b.set l0 (.dyn e' k.size c fun _ => ys.take (xs ()).length ++ (xs ()).drop ys.length)) rfl (fun _ _ => rfl)
      (.inr ⟨hlv, rfl, rfl⟩) rfl (fun _ h => by cases h) none (grownBy_refl w none) (fun k hk => by cases hk)
      (fun b hb => .inr (.inr ⟨hlv, hb⟩)) (fun T => ⟨vals, by rw [hnew]; exact h3, by rw [hnew]; exact h4, by rw [hnew]; exact h5, h5'⟩)
    refine hkk _ H _ _ (Den.put D' o.dst ?_)
    simp only [rel, goInt]
    have hz' : min ys.length (xs ()).length = 0 := hz
    rw [show min (xs ()).length ys.length = 0 by omega]; rfl
  · have hxpos : 0 < (xs ()).length := by
      rcases Nat.eq_zero_or_pos (xs ()).length with h0 | h0
      · exact absurd (by rw [h0]; exact Nat.min_zero _) hz
      · exact h0
    have hypos : 0 < ys.length := by
      rcases Nat.eq_zero_or_pos ys.length with h0 | h0
      · exact absurd (by rw [h0]; exact Nat.zero_min _) hz
      · exact h0
    have h3 := h3.pos hxpos
    rcases hsrc with h0 | ⟨a0, rfl, hsp, hrow⟩
    · rw [h0] at hypos; simp at hypos
    obtain ⟨news, g1, g2, g3, g4⟩ := row_list a0.block ys a0.off hrow
    have g2' : relHL H (ys.flatMap c) news := relL_lf _ _ (LFL_flatMap (fun z => (h5' z).1) ys) g2
    have hones := ones_ok (ones_flatMap (fun z => (h5' z).2) ys) g2
    rcases h3.2 with ⟨hn, _⟩ | ⟨g, cap', cur, hg, _, hgg, hncap, hcm, hcs, htake⟩
    · rw [hn] at hsl; simp at hsl; omega
    rw [h1s, Nat.mul_one] at g1 hcs htake
    have hvl := h3.1
    rw [h1s, Nat.mul_one] at hvl
    let m := Nat.min ys.length (xs ()).length
    have hm1 : m ≤ ys.length := Nat.min_le_left _ _
    have hm2 : m ≤ (xs ()).length := Nat.min_le_right _ _
    have hcl : (news.take m).length = Nat.min ys.length (xs ()).length := by rw [List.length_take, g1]; exact Nat.min_eq_left hm1
    have hrun := run_copy_row (P := P) w t t o.type e' g 0 (xs ()).length cap' a0 ys.length cap cur e' (news.take m) hdesc hsz hgg hcl
      (fun j u hu => by
        rw [List.getElem?_take] at hu
        split at hu
        · rw [addr_add' a0 hsp]; exact g4 j u hu
        · cases hu)
      (by rw [hcl, Nat.zero_add]; show m ≤ _; omega) (fun v hv => hones v (List.mem_of_mem_take hv))
    have hnlen : (ys.take (xs ()).length ++ (xs ()).drop ys.length).length = (xs ()).length := by simp; omega
    have hlist : ∀ {α : Type} (cs ds : List α), cs.length = ys.length → ds.length = (xs ()).length → cs.take m ++ ds.drop m = cs.take ds.length ++ ds.drop cs.length := by
      intro α cs ds hc hd
      by_cases hle : ys.length ≤ (xs ()).length
      · have : m = ys.length := Nat.min_eq_left hle
        rw [this, ← hc, List.take_of_length_le (Nat.le_refl _), List.take_of_length_le (by omega)]
      · have : m = (xs ()).length := Nat.min_eq_right (by omega)
        rw [this, ← hd, List.drop_of_length_le (Nat.le_refl _), List.drop_of_length_le (by omega)]
    refine ⟨_, _, hR, fun K Q hkk => ?_⟩
    unfold Oper.wp
    rw [ex, hx.1, hg, hyv, hrun]
    have hcl' : (news.take m).length = m := hcl
    have hones' : ∀ z, (c z).length = 1 → True := fun _ _ => trivial
    have hlenc : ∀ z ∈ ys.take (xs ()).length ++ (xs ()).drop ys.length, (c z).length = k.size := by
      intro z hz
      rcases List.mem_append.1 hz with hz | hz
      · exact g3 z (List.mem_of_mem_take hz)
      · exact h5 z (List.mem_of_mem_drop hz)
    have hfl : ∀ (zs : List T), (∀ z ∈ zs, (c z).length = k.size) → ∀ n, (zs.take n).flatMap c = (zs.flatMap c).take n ∧ (zs.drop n).flatMap c = (zs.flatMap c).drop n := by
      intro zs
      induction zs with
      | nil => intro _ n; simp
      | cons z r ih =>
        intro hz n
        cases n with
        | zero => simp
        | succ n =>
          have h1 := hz z (by simp)
          rw [h1s] at h1
          obtain ⟨y0, hy0⟩ := List.length_eq_one_iff.1 h1
          have := ih (fun y hy => hz y (by simp [hy])) n
          simp [hy0, this.1, this.2]
    have hnew1 : relHL H ((ys.take (xs ()).length ++ (xs ()).drop ys.length).flatMap c) (news.take (xs ()).length ++ vals.drop ys.length) := by
      rw [List.flatMap_append, (hfl ys g3 _).1, (hfl (xs ()) h5 _).2]
      exact relL_append (relL_take g2' _) (relL_drop h4 _)
    have hvals : news.take (xs ()).length ++ vals.drop ys.length = news.take m ++ vals.drop m := by
      have := hlist news vals g1 hvl
      rw [this, hvl, g1]
    have hcurlen : cur.toList.length = cap' := by simpa using hcs
    have D' := D.change (w' := w.setRow g (cur.toList.take 0 ++ news.take m ++ cur.toList.drop (0 + (news.take m).length)).toArray) (η' := η) (l := l0) (x := .dyn e' k.size c fun _ => ys.take (xs ()).length ++ (xs ()).drop ys.length) none (b' := s.b.set l0 (.dyn e' k.size c fun _ => ys.take (xs ()).length ++ (xs ()).drop ys.length)) rfl (fun _ _ => rfl)
      (.inr ⟨hlv, rfl, rfl⟩) rfl (fun _ h => by cases h) (some g) (setRow_grown w g _) (fun k hk => .inr ⟨hlv, by simp at hk; subst hk; rw [hg]; simp only [vblk]; rw [if_neg (by omega)]⟩)
      (fun b hb => .inr (.inr ⟨hlv, hb⟩)) (fun T => ⟨_, .of ⟨?_, .inr ⟨g, cap', _, by simpa [hnlen] using hg, Nat.zero_le _, setRow_heap w g cur _ e' _ hgg, by rw [hnlen]; exact hncap, hcm, ?_, ?_⟩⟩, hnew1, hlenc, h5'⟩)
    · refine hkk _ H _ _ (Den.put D' o.dst ?_)
      simp only [rel, goInt, hcl]
      rw [show Nat.min ys.length (xs ()).length = min (xs ()).length ys.length by rw [Nat.min_comm]]
    · rw [hnlen, h1s, Nat.mul_one, hvals, List.length_append, hcl', List.length_drop, hvl]; omega
    · rw [h1s, Nat.mul_one]
      simp only [List.take_zero, List.nil_append, List.size_toArray, List.length_append, hcl', Nat.zero_add, List.length_drop, hcurlen]
      omega
    · rw [hnlen, h1s, Nat.mul_one, hvals]
      simp only [List.take_zero, List.nil_append, hcl', Nat.zero_add]
      rw [List.take_append, hcl', List.take_of_length_le (by rw [hcl']; exact hm2)]
      congr 1
      rw [← htake, List.drop_take]
end
end Go.Vc
