/-
  From the specification of a law's function to the given statement's ending: the arguments, as symbolic values; what the call leaves as it was.
-/
import Derived.Test.YtpbechemimnikaaVcS
import Derived.Carry
import Derived.ProofKit
import Derived.OpenShut
set_option linter.unusedVariables false
set_option linter.unusedSimpArgs false
namespace Go.Vc
open Go Go.ChangeShapes Go.WideShapes Go.ChangeAt Go.RowKit

section
variable {H : Type} {enc : TypeId × Value → H} {P : Program} {W W' : World}

theorem trodAll_stays (hl : laidOutB P = true) (hb : Below W.heap.size W W') {sp : Nat → Bool} : ∀ {ts : List TypeId} {vs : List Value} {ds : List (DataW H)} {ps : List MemPlace},
    (∀ t ∈ ts, P.readableRec t = true ∧ t < P.types.size) → DataW.TrodAll enc P W 0 (fun _ => true) true ts vs ds ps → (∀ p ∈ ps, p.block < W.heap.size) → (∀ p ∈ ps, sp p.block = true) →
    DataW.TrodAll enc P W' 0 sp true ts vs ds ps
  | [], [], [], _, _, h, _, _ => h
  | t :: ts, v :: vs, d :: ds, ps, ht, ⟨p, q, h1, h2, e⟩, hlt, hs => by
    subst e
    refine ⟨p, q, ?_, ?_, rfl⟩
    · exact WideElems.Trod_stays hl (ht t (by simp)).1 (ht t (by simp)).2 h1 (fun x hx => hb.same (hlt x (by simp [hx]))) (fun x hx => hs x (by simp [hx]))
    · exact trodAll_stays hl hb (fun u hu => ht u (by simp [hu])) h2 (fun x hx => hlt x (by simp [hx])) (fun x hx => hs x (by simp [hx]))

/-- The statement's ending, of a law that gives true and leaves what was there as it was. -/
theorem law_post {f : Func} {s : ChangeSpec} {fresh handsOn again : Bool} {args : Array Value} {ds gs : List (DataW H)} {before : List MemPlace}
    (hl : laidOutB P = true) (hts : ∀ t ∈ f.params.toList, P.readableRec t = true ∧ t < P.types.size) {tb : TypeId} (hr : f.resultTypes = #[tb]) (htb : P.underlying tb = some .bool)
    (hsv : s.vars = []) (hres : (s.fn H (ds ++ gs)).results = [.lit (.bool true)]) (hargs : (s.fn H (ds ++ gs)).args = ds) (hvs : (s.fn H (ds ++ gs)).vars = [])
    (hW : DataW.Whole enc P f.params.toList s.vars false W args.toList ds gs before) (hb : Below W.heap.size W W') :
    s.post enc P f false fresh handsOn again W args (.bool true) W' := by
  obtain ⟨p, q, hA, hV, e, hfz, hnd⟩ := hW
  have hq : q = [] := by
    rw [hsv] at hV
    cases gs with
    | nil => exact hV
    | cons g gs => exact hV.elim
  subst hq
  have hp : before = p := by rw [e]; simp
  subst hp
  have hlt := DataW.Whole.lt ⟨before, [], hA, hV, by simp, hfz, hnd⟩
  have hR : ∀ (b : Nat) (sp : Nat → Bool) (hd : Bool), DataW.TrodAll enc P W' b sp hd f.resultTypes.toList ((Value.bool true).resultList f.resultTypes.size) (s.fn H (ds ++ gs)).results [] := by
    intro b sp hd
    rw [hr, hres]
    exact trodAll_cons_mk (shut_bool htb _) trodAll_mk0
  have hAr : ∀ sp : Nat → Bool, (∀ p ∈ before, sp p.block = true) → DataW.TrodAll enc P W' 0 sp true f.params.toList args.toList (s.fn H (ds ++ gs)).args before := by
    intro sp hs
    rw [hargs]
    exact trodAll_stays hl hb hts hA hlt hs
  have hVr : ∀ sp : Nat → Bool, DataW.TrodVars enc P W' sp s.vars (s.fn H (ds ++ gs)).vars [] := by
    intro sp
    rw [hsv, hvs]
    rfl
  refine ⟨ds, gs, before, [], before, [], ⟨before, [], hA, hV, by simp, hfz, hnd⟩, hR _ _ _, hAr _ (fun p hp => by simpa using hlt p hp), hVr _, hb.frame _, fun _ => ?_⟩
  refine ⟨?_, _, _, ([] ++ before) ++ [], ⟨[] ++ before, [], trodAll_append (hAr _ (fun _ _ => rfl)) (hR _ _ _), hVr _, rfl, ?_, ?_⟩, ?_⟩
  · exact ok_one hr rfl (okWide_bool_mk htb _)
  · intro b off hp
    have hp : MemPlace.cell b off ∈ before := by simpa using hp
    rw [hb.frozen (hlt _ hp)]
    exact hfz b off hp
  · intro ha; cases ha
  · intro p hp _
    simpa using hp

theorem below_of_heap {w w' : World} (h : (worldHeap w).inW w') (h1 : w'.os = w.os) (h2 : w'.tape = w.tape) (h3 : w'.output = w.output) : Below w.heap.size w w' := by
  have g := grown_of_frame h h1 h2 h3
  exact ⟨g.os, g.tape, g.output, g.size, fun k hk => g.block k hk (by simp)⟩

/-- The walk of a law, out of its function's specification. -/
theorem law_walk {S : Spec} {fid : FuncId} (h : SpecOk P fid S) (a : S.α) (ha : S.pre a) (hres : S.res a = .bc true) {w : World} {vals : List Value} (hrel : relHL (worldHeap w) (S.args a) vals) :
    Calls P fid vals.toArray w fun e w' => e = .returned (.bool true) ∧ Below w.heap.size w w' := by
  refine (h.run a ha (worldHeap w) (worldHeap w) w vals (worldHeap_in w) (worldHeap_in w) hrel).mono ?_
  rintro e w' ⟨v, H', rfl, _, _, hF, _, hv, h1, h2, h3⟩
  rw [hres] at hv
  simp only [rel] at hv
  subst hv
  exact ⟨rfl, below_of_heap hF h1 h2 h3⟩

/-! ### Arguments -/
theorem rel_arg_int {HH : Heap} (k : IntKind) (n : Int) : relH HH (.i k fun _ => n) (.int k n) := by simp only [rel]

theorem open_sl {t e : TypeId} {k : IntKind} {base b0 : Nat} {sp : Nat → Bool} {held : Bool} {r : Reach} {v : Value} {d : DataW H} {ps : List MemPlace} (ht : P.underlying t = some (.slice e)) (he : P.underlying e = some (.int k)) (hc : P.cellsOf e = 1)
    (hval : Value.okWide P W r b0 t v) (h : DataW.Trod enc P W base sp held t v d ps) :
    ∃ zs : List Int, (∀ n ∈ zs, k.min ≤ n ∧ n ≤ k.max) ∧ relH (worldHeap W) (.sl 1 (fun n : Int => [.i k fun _ => n]) (fun _ => zs)) v := by
  obtain ⟨a, len, cap, rfl⟩ := okWide_slice ht hval
  obtain ⟨fuel, hf⟩ := h
  have hLF : ∀ x : Int, LFL [SV.i k fun _ => x] := fun x => ⟨trivial, trivial⟩
  rcases open_ints ht he hc hf with ⟨h1, _⟩ | ⟨a', len', cap', zs, h1, _, h2, h3, h4, _, h5, h6⟩
  · simp [Value.cells] at h1
    obtain ⟨rfl, rfl, rfl⟩ := h1
    refine ⟨[], by simp, ?_⟩
    simp only [rel]
    exact ⟨⟨none, 0, rfl, by simp, .inl trivial⟩, hLF⟩
  · simp [Value.cells] at h1
    obtain ⟨rfl, rfl, rfl⟩ := h1
    have hlen : len ≤ zs.length := by rw [h4]; split <;> omega
    refine ⟨zs.take len, fun n hn => ?_, ?_⟩
    · have := h6 n (List.mem_of_mem_take hn)
      simpa [Lit.wf] using this
    · simp only [rel]
      have hl : (zs.take len).length = len := by simp; omega
      refine ⟨⟨some a', cap, by rw [hl], by rw [hl]; exact h2, ?_⟩, hLF⟩
      by_cases hz : len = 0
      · left; subst hz; simp
      right
      have hsp : a'.spot = none := by
        have h7 := h5 0 (by omega)
        unfold World.cell? at h7
        split at h7
        · cases a' with
          | mk b o s => cases s <;> simp_all [Addr.add]
        · cases h7
      refine ⟨a', rfl, hsp, fun j x hx => ?_⟩
      have hj : j < len := by
        have := (List.getElem?_eq_some_iff.1 hx).1
        simp at this; omega
      refine ⟨[.int k x], rfl, ?_, ?_⟩
      · simp only [relL, rel]
        exact ⟨_, [], rfl, rfl, rfl⟩
      · intro i u hu
        cases i with
        | zero =>
          simp at hu; subst hu
          have h7 := h5 j (by omega)
          have hx' : zs.getD j 0 = x := by
            rw [List.getElem?_take, if_pos hj] at hx
            rw [List.getD_eq_getElem?_getD, hx]; rfl
          rw [hx'] at h7
          rw [addr_add' _ hsp] at h7
          have := hcell_world h7
          simpa using this
        | succ i => simp at hu
end
end Go.Vc
