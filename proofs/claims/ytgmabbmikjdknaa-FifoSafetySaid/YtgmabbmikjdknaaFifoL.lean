/-
  The plain law of the queues: what a tick of either side keeps, and what it does to the words.
-/
import Derived.Test.YtgmabbmikjdknaaFifoD
set_option linter.unusedVariables false
set_option linter.unusedSimpArgs false
namespace Go.Proofs.Fifo
open Go Go.Vc

theorem mn_cases (c a b : Int) (h1 : 0 ≤ a) (h2 : a < 2 * c) (h3 : 0 ≤ b) (h4 : b < 2 * c) :
    (mn c a b = a - b ∧ b ≤ a) ∨ (mn c a b = a - b + 2 * c ∧ a < b) := by
  unfold mn
  by_cases h : b ≤ a
  · left
    exact ⟨Int.emod_eq_of_lt (by omega) (by omega), h⟩
  · right
    refine ⟨?_, by omega⟩
    rw [← Int.add_emod_right, Int.emod_eq_of_lt (by omega) (by omega)]
theorem nx_cases (c p : Int) (h1 : 0 ≤ p) (h2 : p < 2 * c) : (nx c p = p + 1 ∧ p + 1 < 2 * c) ∨ (nx c p = 0 ∧ p + 1 = 2 * c) := by
  unfold nx
  by_cases h : p + 1 < 2 * c
  · exact .inl ⟨Int.emod_eq_of_lt (by omega) h, h⟩
  · have : p + 1 = 2 * c := by omega
    exact .inr ⟨by rw [this, Int.emod_self], this⟩

theorem room_iff (q : Q) : q.room = true ↔ mn q.cap q.wr q.r1 ≠ q.cap := by simp [Q.room, eqB]
theorem has_iff (q : Q) : q.has = true ↔ q.w1 ≠ q.rd := by simp [Q.has, eqB]

theorem Q.Inv.nn {q : Q} (h : q.Inv) : (q.n : Int) = mn q.cap q.wr q.rd := by
  have := (mn_range q.cap q.wr q.rd h.p.c1).1
  simp [Q.n]; omega
theorem Q.Inv.room_lt {q : Q} (h : q.Inv) (hr : q.room = true) : mn q.cap q.wr q.rd + mn q.cap q.rd q.r0 + mn q.cap q.r0 q.r1 < q.cap := by
  obtain ⟨⟨c1, c8, wr0, wr2, rd0, rd2, w00, w02, w10, w12, r00, r02, r10, r12⟩, hl, hb, hu⟩ := h
  rw [room_iff] at hr
  have a1 := mn_cases q.cap q.wr q.rd wr0 wr2 rd0 rd2
  have a2 := mn_cases q.cap q.rd q.r0 rd0 rd2 r00 r02
  have a3 := mn_cases q.cap q.r0 q.r1 r00 r02 r10 r12
  have a4 := mn_cases q.cap q.wr q.r1 wr0 wr2 r10 r12
  omega
theorem Q.Inv.has_pos {q : Q} (h : q.Inv) (hr : q.has = true) : mn q.cap q.wr q.w0 < mn q.cap q.wr q.rd := by
  obtain ⟨⟨c1, c8, wr0, wr2, rd0, rd2, w00, w02, w10, w12, r00, r02, r10, r12⟩, hl, hb, hu⟩ := h
  rw [has_iff] at hr
  have a1 := mn_cases q.cap q.wr q.rd wr0 wr2 rd0 rd2
  have a2 := mn_cases q.cap q.wr q.w0 wr0 wr2 w00 w02
  have a3 := mn_cases q.cap q.w0 q.w1 w00 w02 w10 w12
  omega

theorem write_inv {q : Q} (h : q.Inv) (has : Bool) (w : Int) : (q.write has w).Inv := by
  have hp := h.p
  obtain ⟨⟨c1, c8, wr0, wr2, rd0, rd2, w00, w02, w10, w12, r00, r02, r10, r12⟩, hl, hb, hu⟩ := h
  have a1 := mn_cases q.cap q.wr q.rd wr0 wr2 rd0 rd2
  have a2 := mn_cases q.cap q.rd q.r0 rd0 rd2 r00 r02
  have a3 := mn_cases q.cap q.r0 q.r1 r00 r02 r10 r12
  have a5 := mn_cases q.cap q.rd q.rd rd0 rd2 rd0 rd2
  have a6 := mn_cases q.cap q.wr q.w0 wr0 wr2 w00 w02
  have a7 := mn_cases q.cap q.w0 q.w1 w00 w02 w10 w12
  by_cases hr : (has && q.room) = true
  · simp only [Bool.and_eq_true] at hr
    have hlt := Q.Inv.room_lt ⟨hp, hl, hb, hu⟩ hr.2
    rw [write_yes hr.1 hr.2]
    have hn := nx_cases q.cap q.wr wr0 wr2
    have n0 : 0 ≤ nx q.cap q.wr := by omega
    have n2 : nx q.cap q.wr < 2 * q.cap := by omega
    have b1 := mn_cases q.cap (nx q.cap q.wr) q.rd n0 n2 rd0 rd2
    have b2 := mn_cases q.cap (nx q.cap q.wr) q.w0 n0 n2 w00 w02
    refine ⟨⟨c1, c8, n0, n2, rd0, rd2, w00, w02, w10, w12, rd0, rd2, r00, r02⟩, by simpa using hl, ?_, ?_⟩
    · simp only; omega
    · simp only; omega
  · rw [write_no (by simpa using hr)]
    refine ⟨⟨c1, c8, wr0, wr2, rd0, rd2, w00, w02, w10, w12, rd0, rd2, r00, r02⟩, hl, ?_, hu⟩
    simp only; omega
theorem read_inv {q : Q} (h : q.Inv) (t : Bool) : (q.read t).Inv := by
  have hI := h
  obtain ⟨⟨c1, c8, wr0, wr2, rd0, rd2, w00, w02, w10, w12, r00, r02, r10, r12⟩, hl, hb, hu⟩ := h
  have a1 := mn_cases q.cap q.wr q.rd wr0 wr2 rd0 rd2
  have a2 := mn_cases q.cap q.rd q.r0 rd0 rd2 r00 r02
  have a3 := mn_cases q.cap q.r0 q.r1 r00 r02 r10 r12
  have a5 := mn_cases q.cap q.wr q.wr wr0 wr2 wr0 wr2
  have a6 := mn_cases q.cap q.wr q.w0 wr0 wr2 w00 w02
  have a7 := mn_cases q.cap q.w0 q.w1 w00 w02 w10 w12
  by_cases hr : (t && q.has) = true
  · simp only [Bool.and_eq_true] at hr
    have hlt := hI.has_pos hr.2
    rw [read_yes hr.1 hr.2]
    have hn := nx_cases q.cap q.rd rd0 rd2
    have n0 : 0 ≤ nx q.cap q.rd := by omega
    have n2 : nx q.cap q.rd < 2 * q.cap := by omega
    have b1 := mn_cases q.cap q.wr (nx q.cap q.rd) wr0 wr2 n0 n2
    have b2 := mn_cases q.cap (nx q.cap q.rd) q.r0 n0 n2 r00 r02
    refine ⟨⟨c1, c8, wr0, wr2, n0, n2, wr0, wr2, w00, w02, r00, r02, r10, r12⟩, hl, ?_, ?_⟩
    · simp only; omega
    · simp only; omega
  · rw [read_no (by simpa using hr)]
    refine ⟨⟨c1, c8, wr0, wr2, rd0, rd2, wr0, wr2, w00, w02, r00, r02, r10, r12⟩, hl, hb, ?_⟩
    simp only; omega

/-! ### The words -/
theorem list_len (q : Q) : q.list.length = q.n := by simp [Q.list, Q.pre]
theorem emod_ne {c a b : Int} (h1 : a < b) (h2 : b - a < c) : a % c ≠ b % c := by
  intro h
  have h3 : (b - a) % c = 0 := by rw [Int.sub_emod, h]; simp
  rw [Int.emod_eq_of_lt (by omega) h2] at h3
  omega
theorem wrap_emod {c p k q : Int} (h : p + k = q ∨ p + k = q + 2 * c) : (p + k) % c = q % c := by
  rcases h with h | h
  · rw [h]
  · rw [h, show q + 2 * c = q + c * 2 by omega, Int.add_mul_emod_self_left]
theorem Q.Inv.wr_at {q : Q} (h : q.Inv) : (q.rd + (q.n : Int)) % q.cap = q.wr % q.cap := by
  have hn := h.nn
  obtain ⟨⟨c1, c8, wr0, wr2, rd0, rd2, w00, w02, w10, w12, r00, r02, r10, r12⟩, hl, hb, hu⟩ := h
  have a1 := mn_cases q.cap q.wr q.rd wr0 wr2 rd0 rd2
  exact wrap_emod (by omega)
theorem emod_lt_len {q : Q} (h : q.Inv) (p : Int) : (p % q.cap).toNat < q.words.length := by
  have := Int.emod_lt_of_pos p (show 0 < q.cap by have := h.p.c1; omega)
  have := Int.emod_nonneg p (show q.cap ≠ 0 by have := h.p.c1; omega)
  have := h.len
  omega

theorem list_write {q : Q} (h : q.Inv) {has : Bool} (w : Int) : (q.write has w).list = q.list ++ (if has && q.room then [w] else []) := by
  by_cases hr : (has && q.room) = true
  · rw [hr]
    have hr' := hr
    simp only [Bool.and_eq_true] at hr'
    have hI' := write_inv h has w
    have hn' := hI'.nn
    have hn := h.nn
    have hw := h.wr_at
    have hlt := h.room_lt hr'.2
    have e := write_yes (w := w) hr'.1 hr'.2
    have hp := h.p
    obtain ⟨c1, c8, wr0, wr2, rd0, rd2, w00, w02, w10, w12, r00, r02, r10, r12⟩ := h.p
    have a1 := mn_cases q.cap q.wr q.rd hp.wr0 hp.wr2 hp.rd0 hp.rd2
    have a2 := (mn_range q.cap q.rd q.r0 hp.c1).1
    have a3 := (mn_range q.cap q.r0 q.r1 hp.c1).1
    have hnx := nx_cases q.cap q.wr hp.wr0 hp.wr2
    rw [e] at hn'
    simp only at hn'
    have b1 := mn_cases q.cap (nx q.cap q.wr) q.rd (by omega) (by omega) hp.rd0 hp.rd2
    have hn1 : (q.write has w).n = q.n + 1 := by rw [e]; omega
    unfold Q.list
    rw [hn1]
    simp only [Q.pre, List.range_succ, List.map_append, List.map_cons, List.map_nil, if_true]
    congr 1
    · apply List.map_congr_left
      intro i hi
      have hi : i < q.n := by simpa using hi
      rw [e]
      simp only [Q.at]
      have hne : ((q.rd + (i : Int)) % q.cap) ≠ q.wr % q.cap := by rw [← hw]; exact emod_ne (by omega) (by omega)
      have p1 := Int.emod_nonneg (q.rd + (i : Int)) (show q.cap ≠ 0 by omega)
      have p2 := Int.emod_nonneg q.wr (show q.cap ≠ 0 by omega)
      rw [List.getD_eq_getElem?_getD, List.getD_eq_getElem?_getD, List.getElem?_set_ne (by omega)]
    · rw [e]
      simp only [Q.at, hw]
      rw [List.getD_eq_getElem?_getD, List.getElem?_set_self (emod_lt_len h _)]
      rfl
  · have hr : (has && q.room) = false := by simpa using hr
    rw [hr, write_no hr]
    simp [Q.list, Q.pre, Q.n, Q.at]
theorem list_read {q : Q} (h : q.Inv) {t : Bool} : q.list = (if t && q.has then [headV q t] else []) ++ (q.read t).list := by
  by_cases hr : (t && q.has) = true
  · rw [hr]
    have hr' := hr
    simp only [Bool.and_eq_true] at hr'
    have hI' := read_inv h t
    have hn' := hI'.nn
    have hn := h.nn
    have hlt := h.has_pos hr'.2
    have e := read_yes hr'.1 hr'.2
    have hp := h.p
    obtain ⟨c1, c8, wr0, wr2, rd0, rd2, w00, w02, w10, w12, r00, r02, r10, r12⟩ := h.p
    have a1 := mn_cases q.cap q.wr q.rd hp.wr0 hp.wr2 hp.rd0 hp.rd2
    have a2 := (mn_range q.cap q.wr q.w0 hp.c1).1
    have hnx := nx_cases q.cap q.rd hp.rd0 hp.rd2
    rw [e] at hn'
    simp only at hn'
    have b1 := mn_cases q.cap q.wr (nx q.cap q.rd) hp.wr0 hp.wr2 (by omega) (by omega)
    have hn1 : q.n = (q.read t).n + 1 := by rw [e]; omega
    unfold Q.list
    rw [hn1]
    simp only [Q.pre, List.range_succ_eq_map, List.map_cons, List.map_map, if_true, List.singleton_append]
    congr 1
    · simp [headV, hr, Q.at]
    · apply List.map_congr_left
      intro i hi
      rw [e]
      simp only [Q.at, Function.comp]
      have : (q.rd + ((i + 1 : Nat) : Int)) % q.cap = (nx q.cap q.rd + (i : Int)) % q.cap := by
        rcases hnx with ⟨h1, _⟩ | ⟨h1, h2⟩
        · rw [h1]; congr 1; omega
        · rw [h1, show q.rd + ((i + 1 : Nat) : Int) = 0 + (i : Int) + q.cap * 2 by omega, Int.add_mul_emod_self_left]
      rw [this]
  · have hr : (t && q.has) = false := by simpa using hr
    rw [hr, read_no hr]
    simp [Q.list, Q.pre, Q.n, Q.at]
theorem new_inv {c : Int} (h : 1 ≤ c ∧ c ≤ 8) : (newQ c).Inv := by
  simp only [newQ, if_pos h]
  refine ⟨⟨h.1, h.2, ?_, ?_, ?_, ?_, ?_, ?_, ?_, ?_, ?_, ?_, ?_, ?_⟩, ?_, ?_, ?_⟩ <;> simp [mn] <;> omega
end Go.Proofs.Fifo
