/-
  The transport's plain law, second part: two ends and the packets between them.
-/
import Derived.Test.YtcejljfammcflaaTranN
set_option linter.unusedVariables false
set_option linter.unusedSimpArgs false
set_option maxRecDepth 10000
namespace Go.Proofs.Tran
open Go Go.Vc

/-- From the link a to the link b: s was sent, h was taken. -/
structure Dir (n : Nat) (a b : Lk) (s h : List (List Int)) : Prop where
  all : h ++ b.ins = s.take (h ++ b.ins).length
  len : ((h ++ b.ins).length : Int) = b.got
  le : (h ++ b.ins).length ≤ s.length
  b1 : a.base ≤ b.got
  bl : a.base + (a.out.length : Int) = (s.length : Int)
  out : a.out = s.drop a.base.toNat
  sm : ∀ d ∈ s, d.length ≤ 6
  sn : s.length ≤ n
/-- A packet from the link a to the link b. -/
structure PkOk (a b : Lk) (s : List (List Int)) (p : Pk) : Prop where
  k : p.check = p.tag b.key
  s : (p.seq = -1 ∧ p.data = []) ∨ (0 ≤ p.seq ∧ s[p.seq.toNat]? = some p.data)
  a0 : 0 ≤ p.ack
  a1 : p.ack ≤ a.got
/-- Two ends, x and y, with the links a and b: s and t were sent, g and h were taken. -/
structure Sys (n : Nat) (x y : Int) (a b : Lk) (s t g h : List (List Int)) (P : List Fl) : Prop where
  ka : oth a.key = b.key
  kb : oth b.key = a.key
  oa : a.Ok
  ob : b.Ok
  da : Dir n a b s h
  db : Dir n b a t g
  pool : ∀ f ∈ P, (f.to = y ∧ PkOk a b s f.p) ∨ (f.to = x ∧ PkOk b a t f.p)
  pn : P.length ≤ n
variable {n : Nat} {x y : Int} {a b : Lk} {s t g h : List (List Int)} {P : List Fl}
theorem Sys.symm (H : Sys n x y a b s t g h P) : Sys n y x b a t s h g P :=
  ⟨H.kb, H.ka, H.ob, H.oa, H.db, H.da, fun f hf => (H.pool f hf).symm, H.pn⟩
theorem Dir.mono (H : Dir n a b s h) {m : Nat} (hm : n ≤ m) : Dir m a b s h := ⟨H.all, H.len, H.le, H.b1, H.bl, H.out, H.sm, Nat.le_trans H.sn hm⟩
theorem Sys.mono (H : Sys n x y a b s t g h P) {m : Nat} (hm : n ≤ m) : Sys m x y a b s t g h P :=
  ⟨H.ka, H.kb, H.oa, H.ob, H.da.mono hm, H.db.mono hm, H.pool, Nat.le_trans H.pn hm⟩
theorem PkOk.data {p : Pk} (hp : PkOk a b s p) (hs : ∀ d ∈ s, d.length ≤ 6) : p.data.length ≤ 6 := by
  rcases hp.s with h | h
  · rw [h.2]; simp
  · exact hs _ (List.mem_of_getElem? h.2)
theorem Sys.acc (H : Sys n x y a b s t g h P) {p : Pk} (hp : PkOk b a t p) : AccOk a p := by
  have hd := hp.data H.db.sm
  have h1 := H.da.len
  have h2 := H.da.le
  have h3 := H.da.bl
  have h4 := hp.a1
  refine ⟨?_, hp.a0, by omega, by omega, fun hs => ?_, hp.k⟩
  · rcases hp.s with h | h <;> omega
  · rcases hp.s with h | h
    · exact h.2
    · omega
theorem take_succ {s : List (List Int)} {i : Nat} {d : List Int} (h : s[i]? = some d) : s.take (i + 1) = s.take i ++ [d] := by
  rw [List.take_add_one, h]; rfl
theorem Dir.to {b' : Lk} (D : Dir n a b s h) (h1 : b'.ins = b.ins) (h2 : b'.got = b.got) : Dir n a b' s h :=
  ⟨by rw [h1]; exact D.all, by rw [h1, h2]; exact D.len, by rw [h1]; exact D.le, by rw [h2]; exact D.b1, D.bl, D.out, D.sm, D.sn⟩
theorem PkOk.a_got {a' : Lk} {p : Pk} (hp : PkOk a b s p) (h : a.got ≤ a'.got) : PkOk a' b s p := ⟨hp.k, hp.s, hp.a0, Int.le_trans hp.a1 h⟩
theorem PkOk.b_key {b' : Lk} {p : Pk} (hp : PkOk a b s p) (h : b'.key = b.key) : PkOk a b' s p := ⟨by rw [h]; exact hp.k, hp.s, hp.a0, hp.a1⟩
theorem PkOk.more {p : Pk} (hp : PkOk a b s p) (d : List Int) : PkOk a b (s ++ [d]) p := by
  refine ⟨hp.k, ?_, hp.a0, hp.a1⟩
  rcases hp.s with h | h
  · exact .inl h
  · refine .inr ⟨h.1, ?_⟩
    rw [List.getElem?_append_left (List.getElem?_eq_some_iff.1 h.2).1]; exact h.2
/-- A packet arrives. -/
theorem Sys.recv (H : Sys n x y a b s t g h P) {p : Pk} (hp : PkOk b a t p) : Sys n x y (recv a p) b s t g h P := by
  have hacc := H.acc hp
  have hD := recv_did hacc
  have hok := recv_ok H.oa hacc
  obtain ⟨r, hr⟩ : ∃ r, r = Tran.recv a p := ⟨_, rfl⟩
  rw [← hr] at hD hok ⊢
  have hbm := H.oa.b
  have h1 := hp.a1
  have hb1 : r.base ≤ b.got := by rcases hD.m with e | e <;> rw [e]; exact H.da.b1; exact h1
  have hout : r.out = s.drop r.base.toNat := by
    rw [hD.o, H.da.out, List.drop_drop]
    congr 1
    have := hD.b
    omega
  have hbl : r.base + (r.out.length : Int) = (s.length : Int) := by
    rw [hD.o, List.length_drop]
    have := hD.b
    have := hD.n
    have := H.da.bl
    omega
  have hgot : a.got ≤ r.got := by rcases hD.g with e | e <;> (rw [e.1]; omega)
  refine ⟨by rw [hD.k]; exact H.ka, by rw [hD.k]; exact H.kb, hok, H.ob, ⟨H.da.all, H.da.len, H.da.le, hb1, hbl, hout, H.da.sm, H.da.sn⟩, ?_, fun f hf => ?_, H.pn⟩
  · have D := H.db
    rcases hD.g with e | e
    · exact ⟨by rw [e.2]; exact D.all, by rw [e.1, e.2]; exact D.len, by rw [e.2]; exact D.le, by rw [e.1]; exact D.b1, D.bl, D.out, D.sm, D.sn⟩
    · have hq : t[(g ++ a.ins).length]? = some p.data := by
        have hg0 := D.len
        rcases hp.s with q | q
        · omega
        · have : p.seq.toNat = (g ++ a.ins).length := by omega
          rw [← this]; exact q.2
      have hlt := (List.getElem?_eq_some_iff.1 hq).1
      have hl1 : (g ++ r.ins).length = (g ++ a.ins).length + 1 := by rw [e.2.1, ← List.append_assoc, List.length_append]; rfl
      refine ⟨?_, ?_, ?_, by rw [e.1]; have := D.b1; omega, D.bl, D.out, D.sm, D.sn⟩
      · rw [hl1, take_succ hq, ← D.all, e.2.1, List.append_assoc]
      · rw [e.1, hl1]
        have := D.len
        omega
      · rw [hl1]; omega
  · rcases H.pool f hf with q | q
    · exact .inl ⟨q.1, q.2.a_got hgot⟩
    · exact .inr ⟨q.1, q.2.b_key hD.k⟩
/-- A message is sent. -/
theorem Sys.send (H : Sys n x y a b s t g h P) {d : List Int} (hd : d.length ≤ 6) (he : sndE a d = 0) : Sys (n + 1) x y (sndL a d) b (s ++ [d]) t g h P := by
  have hbad : sndBad a d = false := by
    cases e : sndBad a d with
    | false => rfl
    | true => simp [sndE, e] at he
  have hok := sndL_ok H.oa (d := d)
  rw [(snd_good hbad).1] at hok ⊢
  have D := H.da
  have hb := H.oa.b
  refine ⟨H.ka, H.kb, hok, H.ob, ⟨?_, D.len, ?_, D.b1, ?_, ?_, ?_, ?_⟩, (H.db.mono (Nat.le_succ n)).to rfl rfl, fun f hf => ?_, Nat.le_succ_of_le H.pn⟩
  · rw [List.take_append_of_le_length D.le]; exact D.all
  · simp only [List.length_append] at *; have := D.le; simp only [List.length_append] at this; omega
  · have := D.bl; simp only [List.length_append, List.length_cons, List.length_nil]; omega
  · have hle : a.base.toNat ≤ s.length := by have := D.bl; omega
    simp only
    rw [List.drop_append_of_le_length hle, ← D.out]
  · intro c hc
    rcases List.mem_append.1 hc with hc | hc
    · exact D.sm c hc
    · simp at hc; subst hc; exact hd
  · have := D.sn; simp only [List.length_append, List.length_cons, List.length_nil]; omega
  · rcases H.pool f hf with q | q
    · exact .inl ⟨q.1, (q.2.more d).a_got (Int.le_refl _)⟩
    · exact .inr ⟨q.1, q.2.b_key rfl⟩
/-- A message is taken. -/
theorem Sys.take (H : Sys n x y a b s t g h P) (he : takE a = 0) : Sys n x y (takL a) b s t (g ++ [takD a]) h P := by
  have hne : a.ins ≠ [] := fun e => by simp [takE, e] at he
  have hok := takL_ok H.oa
  obtain ⟨c, r, hcr⟩ := List.exists_cons_of_ne_nil hne
  have hL : takL a = { a with ins := a.ins.tail } := by simp [takL, hne]
  have hD : takD a = c := by simp [takD, hcr]
  rw [hL] at hok ⊢
  rw [hD]
  have D := H.db
  have hi : g ++ [c] ++ a.ins.tail = g ++ a.ins := by rw [hcr]; simp
  exact ⟨H.ka, H.kb, hok, H.ob, ⟨H.da.all, H.da.len, H.da.le, H.da.b1, H.da.bl, H.da.out, H.da.sm, H.da.sn⟩,
    ⟨by simp only [hi]; exact D.all, by simp only [hi]; exact D.len, by simp only [hi]; exact D.le, D.b1, D.bl, D.out, D.sm, D.sn⟩,
    fun f hf => (H.pool f hf).imp (fun q => ⟨q.1, q.2.a_got (Int.le_refl _)⟩) (fun q => ⟨q.1, q.2.b_key rfl⟩), H.pn⟩
/-- A packet is put to the others. -/
theorem Sys.put (H : Sys n x y a b s t g h P) {p : Pk} (hp : PkOk a b s p) : Sys (n + 1) x y a b s t g h (P ++ [⟨y, p⟩]) := by
  refine ⟨H.ka, H.kb, H.oa, H.ob, H.da.mono (Nat.le_succ n), H.db.mono (Nat.le_succ n), fun f hf => ?_, ?_⟩
  · rcases List.mem_append.1 hf with hf | hf
    · exact H.pool f hf
    · simp at hf; subst hf; exact .inl ⟨rfl, hp⟩
  · have := H.pn
    simp only [List.length_append, List.length_cons, List.length_nil]; omega
theorem Sys.ack (H : Sys n x y a b s t g h P) : PkOk a b s (sig a (-1) []) := by
  refine ⟨?_, .inl ⟨rfl, rfl⟩, ?_, Int.le_refl _⟩
  · show tagW (oth a.key) _ = tagW b.key _
    rw [H.ka]; rfl
  · show 0 ≤ a.got
    have := H.oa.g; omega
theorem Sys.packet (H : Sys n x y a b s t g h P) {i : Int} (he : pktE a i = 0) : PkOk a b s (pktP a i) := by
  have hi : 0 ≤ i ∧ i < (a.out.length : Int) := by
    unfold pktE at he
    split at he
    · assumption
    · omega
  obtain ⟨v, hv⟩ : ∃ v, a.out[i.toNat]? = some v := ⟨_, List.getElem?_eq_getElem (by omega)⟩
  rw [pktP_yes hi.1 hi.2 hv]
  have hw : IntKind.i64.wrap (a.base + i) = a.base + i := w64 (by have := H.oa.b; omega) (by have := H.oa.b1; omega)
  have hb := H.oa.b
  refine ⟨?_, .inr ⟨?_, ?_⟩, ?_, Int.le_refl _⟩
  · show tagW (oth a.key) _ = tagW b.key _
    rw [H.ka]; rfl
  · show 0 ≤ IntKind.i64.wrap (a.base + i)
    rw [hw]; omega
  · show s[(IntKind.i64.wrap (a.base + i)).toNat]? = some v
    rw [hw]
    have h1 := H.da.out
    rw [h1, List.getElem?_drop] at hv
    rw [show (a.base + i).toNat = a.base.toNat + i.toNat by omega]
    exact hv
  · show 0 ≤ a.got
    have := H.oa.g; omega
/-- A packet is lost. -/
theorem Sys.lose (H : Sys n x y a b s t g h P) (k : Nat) : Sys n x y a b s t g h (P.eraseIdx k) :=
  ⟨H.ka, H.kb, H.oa, H.ob, H.da, H.db, fun f hf => H.pool f (List.mem_of_mem_eraseIdx hf), Nat.le_trans (List.length_eraseIdx_le _ _) H.pn⟩
/-- The world of a script. -/
structure Wd where
  l0 : Lk
  l1 : Lk
  pool : List Fl
  s0 : List (List Int)
  s1 : List (List Int)
  g0 : List (List Int)
  g1 : List (List Int)
def Wd.cells (w : Unit → Wd) : List SV := Lk.cells (fun _ => (w ()).l0) ++ Lk.cells (fun _ => (w ()).l1) ++
  [.sl 5 cFl (fun _ => (w ()).pool), .sl 1 cB (fun _ => (w ()).s0), .sl 1 cB (fun _ => (w ()).s1), .sl 1 cB (fun _ => (w ()).g0), .sl 1 cB (fun _ => (w ()).g1)]
theorem Wd.lf (w : Unit → Wd) : LFL (Wd.cells w) :=
  ⟨trivial, fun y => (cB_ok y).1, trivial, fun y => (cB_ok y).1, trivial, trivial, fun y => (cB_ok y).1, trivial, fun y => (cB_ok y).1, trivial,
    fun y => (cFl_ok y).1, fun y => (cB_ok y).1, fun y => (cB_ok y).1, fun y => (cB_ok y).1, fun y => (cB_ok y).1, trivial⟩
abbrev Wd.Inv (n : Nat) (w : Wd) : Prop := Sys n 0 1 w.l0 w.l1 w.s0 w.s1 w.g0 w.g1 w.pool


def Wd.sw (w : Wd) : Wd := ⟨w.l1, w.l0, w.pool, w.s1, w.s0, w.g1, w.g0⟩
/-- An act of the first end, that is not about the packets on their way. -/
noncomputable def act0 (y : Int) (a : Ac) (w : Wd) : Wd :=
  if a.kind % 6 = 0 then (if sndE w.l0 (a.d.take 6) = 0 then { w with l0 := sndL w.l0 (a.d.take 6), s0 := w.s0 ++ [a.d.take 6] } else w)
  else if a.kind % 6 = 1 then (if pktE w.l0 (a.n / 2 % 4) = 0 then { w with pool := w.pool ++ [⟨y, pktP w.l0 (a.n / 2 % 4)⟩] } else w)
  else if a.kind % 6 = 2 then { w with pool := w.pool ++ [⟨y, sig w.l0 (-1) []⟩] }
  else if takE w.l0 = 0 then { w with l0 := takL w.l0, g0 := w.g0 ++ [takD w.l0] } else w
noncomputable def arrive (f : Fl) (w : Wd) : Wd :=
  if f.to = 0 then (if recE w.l0 f.p = 0 then { w with l0 := recL w.l0 f.p } else w)
  else (if recE w.l1 f.p = 0 then { w with l1 := recL w.l1 f.p } else w)
noncomputable def stepM (a : Ac) (w : Wd) : Wd :=
  if a.kind % 6 = 3 then
    match w.pool[(a.n % (w.pool.length : Int)).toNat]? with
    | some f => arrive f w
    | none => w
  else if a.kind % 6 = 5 then { w with pool := w.pool.eraseIdx (a.n % (w.pool.length : Int)).toNat }
  else if a.n % 2 = 0 then act0 1 a w else (act0 0 a w.sw).sw
theorem rec_zero {l : Lk} {p : Pk} (h : recE l p = 0) : accB l p = true := by
  cases e : accB l p with
  | true => rfl
  | false => rw [(rec_bad e).2] at h; omega
theorem act0_inv {w : Wd} {a : Ac} (H : Sys n x y w.l0 w.l1 w.s0 w.s1 w.g0 w.g1 w.pool) :
    Sys (n + 1) x y (act0 y a w).l0 (act0 y a w).l1 (act0 y a w).s0 (act0 y a w).s1 (act0 y a w).g0 (act0 y a w).g1 (act0 y a w).pool := by
  have H' := H.mono (Nat.le_succ n)
  unfold act0
  split
  · split
    · rename_i h; exact H.send (by simp; omega) h
    · exact H'
  · split
    · split
      · rename_i h; exact H.put (H.packet h)
      · exact H'
    · split
      · exact H.put H.ack
      · split
        · rename_i h; exact H'.take h
        · exact H'
theorem arrive_inv {w : Wd} {f : Fl} (H : w.Inv n) (hf : f ∈ w.pool) : (arrive f w).Inv n := by
  unfold arrive
  rcases H.pool f hf with q | q
  · rw [if_neg (by rw [q.1]; decide)]
    split
    · rename_i h
      have := H.symm.recv q.2
      rw [(rec_good (rec_zero h)).1]
      exact this.symm
    · exact H
  · rw [if_pos q.1]
    split
    · rename_i h
      have := H.recv q.2
      rw [(rec_good (rec_zero h)).1]
      exact this
    · exact H
theorem step_inv {w : Wd} {a : Ac} (H : w.Inv n) : (stepM a w).Inv (n + 1) := by
  have H' := H.mono (Nat.le_succ n)
  unfold stepM
  split
  · split
    · rename_i f hf; exact arrive_inv H' (List.mem_of_getElem? hf)
    · exact H'
  · split
    · exact H'.lose _
    · split
      · exact act0_inv H
      · have : Sys n 1 0 w.sw.l0 w.sw.l1 w.sw.s0 w.sw.s1 w.sw.g0 w.sw.g1 w.sw.pool := H.symm
        exact (act0_inv (a := a) this).symm
section
variable {w : Wd} {a : Ac}
theorem step_0a (hk : a.kind % 6 = 0) (hn : a.n % 2 = 0) (he : sndE w.l0 (a.d.take 6) = 0) : stepM a w = { w with l0 := sndL w.l0 (a.d.take 6), s0 := w.s0 ++ [a.d.take 6] } := by simp [stepM, act0, hk, hn, he]
theorem step_0b (hk : a.kind % 6 = 0) (hn : a.n % 2 = 0) (he : ¬ sndE w.l0 (a.d.take 6) = 0) : stepM a w = w := by simp [stepM, act0, hk, hn, he]
theorem step_0c (hk : a.kind % 6 = 0) (hn : a.n % 2 = 1) (he : sndE w.l1 (a.d.take 6) = 0) : stepM a w = { w with l1 := sndL w.l1 (a.d.take 6), s1 := w.s1 ++ [a.d.take 6] } := by simp [stepM, act0, hk, hn, he, Wd.sw]
theorem step_0d (hk : a.kind % 6 = 0) (hn : a.n % 2 = 1) (he : ¬ sndE w.l1 (a.d.take 6) = 0) : stepM a w = w := by simp [stepM, act0, hk, hn, he, Wd.sw]
theorem step_1a (hk : a.kind % 6 = 1) (hn : a.n % 2 = 0) (he : pktE w.l0 (a.n / 2 % 4) = 0) : stepM a w = { w with pool := w.pool ++ [⟨1, pktP w.l0 (a.n / 2 % 4)⟩] } := by simp [stepM, act0, hk, hn, he]
theorem step_1b (hk : a.kind % 6 = 1) (hn : a.n % 2 = 0) (he : ¬ pktE w.l0 (a.n / 2 % 4) = 0) : stepM a w = w := by simp [stepM, act0, hk, hn, he]
theorem step_1c (hk : a.kind % 6 = 1) (hn : a.n % 2 = 1) (he : pktE w.l1 (a.n / 2 % 4) = 0) : stepM a w = { w with pool := w.pool ++ [⟨0, pktP w.l1 (a.n / 2 % 4)⟩] } := by simp [stepM, act0, hk, hn, he, Wd.sw]
theorem step_1d (hk : a.kind % 6 = 1) (hn : a.n % 2 = 1) (he : ¬ pktE w.l1 (a.n / 2 % 4) = 0) : stepM a w = w := by simp [stepM, act0, hk, hn, he, Wd.sw]
theorem step_2a (hk : a.kind % 6 = 2) (hn : a.n % 2 = 0) : stepM a w = { w with pool := w.pool ++ [⟨1, sig w.l0 (-1) []⟩] } := by simp [stepM, act0, hk, hn]
theorem step_2c (hk : a.kind % 6 = 2) (hn : a.n % 2 = 1) : stepM a w = { w with pool := w.pool ++ [⟨0, sig w.l1 (-1) []⟩] } := by simp [stepM, act0, hk, hn, Wd.sw]
theorem step_3n (hk : a.kind % 6 = 3) (hp : w.pool = []) : stepM a w = w := by simp [stepM, hk, hp]
theorem step_3a (hk : a.kind % 6 = 3) {f : Fl} {i : Int} (hi : a.n % (w.pool.length : Int) = i) (hf : w.pool[i.toNat]? = some f) (ht : f.to = 0) (he : recE w.l0 f.p = 0) : stepM a w = { w with l0 := recL w.l0 f.p } := by
  simp [stepM, hk, hi, hf, arrive, ht, he]
theorem step_3b (hk : a.kind % 6 = 3) {f : Fl} {i : Int} (hi : a.n % (w.pool.length : Int) = i) (hf : w.pool[i.toNat]? = some f) (ht : f.to = 0) (he : ¬ recE w.l0 f.p = 0) : stepM a w = w := by
  simp [stepM, hk, hi, hf, arrive, ht, he]
theorem step_3c (hk : a.kind % 6 = 3) {f : Fl} {i : Int} (hi : a.n % (w.pool.length : Int) = i) (hf : w.pool[i.toNat]? = some f) (ht : f.to = 1) (he : recE w.l1 f.p = 0) : stepM a w = { w with l1 := recL w.l1 f.p } := by
  simp [stepM, hk, hi, hf, arrive, ht, he]
theorem step_3d (hk : a.kind % 6 = 3) {f : Fl} {i : Int} (hi : a.n % (w.pool.length : Int) = i) (hf : w.pool[i.toNat]? = some f) (ht : f.to = 1) (he : ¬ recE w.l1 f.p = 0) : stepM a w = w := by
  simp [stepM, hk, hi, hf, arrive, ht, he]
theorem step_4a (hk : a.kind % 6 = 4) (hn : a.n % 2 = 0) (he : takE w.l0 = 0) : stepM a w = { w with l0 := takL w.l0, g0 := w.g0 ++ [takD w.l0] } := by simp [stepM, act0, hk, hn, he]
theorem step_4b (hk : a.kind % 6 = 4) (hn : a.n % 2 = 0) (he : ¬ takE w.l0 = 0) : stepM a w = w := by simp [stepM, act0, hk, hn, he]
theorem step_4c (hk : a.kind % 6 = 4) (hn : a.n % 2 = 1) (he : takE w.l1 = 0) : stepM a w = { w with l1 := takL w.l1, g1 := w.g1 ++ [takD w.l1] } := by simp [stepM, act0, hk, hn, he, Wd.sw]
theorem step_4d (hk : a.kind % 6 = 4) (hn : a.n % 2 = 1) (he : ¬ takE w.l1 = 0) : stepM a w = w := by simp [stepM, act0, hk, hn, he, Wd.sw]
theorem step_5n (hk : a.kind % 6 = 5) (hp : w.pool = []) : stepM a w = w := by
  have h : stepM a w = { w with pool := w.pool.eraseIdx (a.n % (w.pool.length : Int)).toNat } := by simp [stepM, hk]
  rw [h, hp]; cases w; simp at hp; subst hp; rfl
theorem step_5a (hk : a.kind % 6 = 5) : stepM a w = { w with pool := w.pool.eraseIdx (a.n % (w.pool.length : Int)).toNat } := by simp [stepM, hk]
end
end Go.Proofs.Tran
