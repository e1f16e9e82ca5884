/-
  The transport's plain law, third part: how a script is completed, and which packets are refused.
-/
import Derived.Test.YtcejljfammcflaaTranU
set_option linter.unusedVariables false
set_option linter.unusedSimpArgs false
set_option maxRecDepth 10000
namespace Go.Proofs.Tran
open Go Go.Vc

section
variable {n : Nat} {x y : Int} {a b : Lk} {s t g h : List (List Int)} {P : List Fl}
theorem act0_take {w : Wd} {c : Ac} (H : Sys n x y w.l0 w.l1 w.s0 w.s1 w.g0 w.g1 w.pool) (hk : c.kind % 6 = 4) :
    Sys n x y (act0 y c w).l0 (act0 y c w).l1 (act0 y c w).s0 (act0 y c w).s1 (act0 y c w).g0 (act0 y c w).g1 (act0 y c w).pool := by
  unfold act0
  rw [if_neg (by omega), if_neg (by omega), if_neg (by omega)]
  split
  · rename_i h; exact H.take h
  · exact H
theorem take_inv {w : Wd} {c : Ac} (H : w.Inv n) (hk : c.kind % 6 = 4) : (stepM c w).Inv n := by
  unfold stepM
  rw [if_neg (by omega), if_neg (by omega)]
  split
  · exact act0_take H hk
  · have : Sys n 1 0 w.sw.l0 w.sw.l1 w.sw.s0 w.sw.s1 w.sw.g0 w.sw.g1 w.sw.pool := H.symm
    exact (act0_take (c := c) this hk).symm
theorem tak_len (l : Lk) (h : takE l = 0) : (takL l).ins.length = l.ins.length - 1 := by
  have hne : l.ins ≠ [] := fun e => by simp [takE, e] at h
  simp [takL, hne]
theorem tak_none {l : Lk} (h : ¬ takE l = 0) : l.ins = [] := by
  by_cases e : l.ins = []
  · exact e
  · simp [takE, e] at h
theorem take_0 (w : Wd) : (stepM ⟨4, 0, []⟩ w).l1 = w.l1 ∧ (stepM ⟨4, 0, []⟩ w).l0.ins.length ≤ w.l0.ins.length - 1 := by
  by_cases h : takE w.l0 = 0
  · rw [step_4a (by decide) (by decide) h]; exact ⟨rfl, Nat.le_of_eq (tak_len _ h)⟩
  · rw [step_4b (by decide) (by decide) h]; exact ⟨rfl, by rw [tak_none h]; simp⟩
theorem take_1 (w : Wd) : (stepM ⟨4, 1, []⟩ w).l0 = w.l0 ∧ (stepM ⟨4, 1, []⟩ w).l1.ins.length ≤ w.l1.ins.length - 1 := by
  by_cases h : takE w.l1 = 0
  · rw [step_4c (by decide) (by decide) h]; exact ⟨rfl, Nat.le_of_eq (tak_len _ h)⟩
  · rw [step_4d (by decide) (by decide) h]; exact ⟨rfl, by rw [tak_none h]; simp⟩
theorem Sys.done (H : Sys n x y a b s t g h P) (hi : b.ins = []) (ho : a.out = []) : h = s := by
  have D := H.da
  have h1 := D.all
  have h2 := D.len
  have h3 := D.le
  have h4 := D.b1
  have h5 := D.bl
  rw [hi, List.append_nil] at h1 h2 h3
  rw [ho] at h5
  simp at h5
  rw [h1, List.take_of_length_le (by omega)]
/-- The oldest message arrives, and its acknowledgement. -/
theorem Sys.oldest (H : Sys n x y a b s t g h P) (hn : n ≤ 100000) (hi : b.ins = []) (ho : 0 < a.out.length) :
    ∃ p q, p = pktP a 0 ∧ pktE a 0 = 0 ∧ p.data.length ≤ 6 ∧ p.ack ≤ 9223372036854775807 ∧ accB b p = true ∧ q = sig (Tran.recv b p) (-1) [] ∧ q.ack ≤ 9223372036854775807 ∧ q.data = [] ∧ accB a q = true ∧
      (Tran.recv a q).out.length < a.out.length ∧ Sys n x y (Tran.recv a q) (Tran.recv b p) s t g h P := by
  have he : pktE a 0 = 0 := pktE_yes (Int.le_refl _) (by omega)
  have hpk := H.packet he
  have H1 := H.symm.recv hpk
  have H2 := H1.symm
  have hq := H1.ack
  have H3 := H2.recv hq
  have hg1 := H2.ob.g1
  have hpa := hpk.a1
  have hog1 := H.oa.g1
  refine ⟨_, _, rfl, he, hpk.data H.da.sm, by omega, accB_of (H.symm.acc hpk), rfl, ?_, rfl, accB_of (H2.acc hq), ?_, H3⟩
  · show (Tran.recv b (pktP a 0)).got ≤ _
    omega
  · obtain ⟨v, hv⟩ : ∃ v, a.out[(0 : Int).toNat]? = some v := ⟨_, List.getElem?_eq_getElem (by simpa using ho)⟩
    have hP := pktP_yes (Int.le_refl 0) (by omega) hv
    have hb0 := H.oa.b
    have hb1 := H.oa.b1
    have hD := H.da.b1
    have hle := H.da.le
    have hlen := H.da.len
    have hsn := H.da.sn
    have hw : IntKind.i64.wrap (a.base + 0) = a.base := by rw [w64 (by omega) (by omega)]; omega
    have hgot : a.base < (Tran.recv b (pktP a 0)).got := by
      by_cases hc : (pktP a 0).seq = b.got ∧ b.ins.length < 64 ∧ b.got < 1000000000
      · rw [recv_yes rfl hc]
        show a.base < b.got + 1
        omega
      · rw [recv_no rfl hc, (recA_got _ _).1]
        rw [hP] at hc
        have hs : (sig a (IntKind.i64.wrap (a.base + 0)) v).seq = a.base := hw
        rw [hs, hi] at hc
        simp at hc
        have h64 : b.got < 1000000000 := by omega
        by_cases hx : a.base = b.got
        · have := hc hx; omega
        · omega
    have hag := H.oa.g
    have hno : ¬ ((sig (Tran.recv b (pktP a 0)) (-1) []).seq = a.got ∧ a.ins.length < 64 ∧ a.got < 1000000000) := by
      rintro ⟨h1, _⟩
      have h1 : (-1 : Int) = a.got := h1
      omega
    have hA : a.base < (sig (Tran.recv b (pktP a 0)) (-1) []).ack := hgot
    rw [recv_no (recA_yes hA) hno]
    simp only [List.length_drop]
    omega
end

/-! ### Packets that are refused -/
theorem acc_chk {l : Lk} {p : Pk} (h : p.check ≠ p.tag l.key) : accB l p = false := by
  cases e : accB l p with
  | false => rfl
  | true => exact absurd (accB_ok e).c h
theorem ofInt_eq {a b : Int} (h : a % 18446744073709551616 = b % 18446744073709551616) : BitVec.ofInt 64 a = BitVec.ofInt 64 b := by
  apply BitVec.eq_of_toNat_eq
  rw [BitVec.toNat_ofInt, BitVec.toNat_ofInt]
  omega
theorem ofInt_mod {a b : Int} (h : BitVec.ofInt 64 a = BitVec.ofInt 64 b) : a % 18446744073709551616 = b % 18446744073709551616 := by
  have := congrArg BitVec.toNat h
  rw [BitVec.toNat_ofInt, BitVec.toNat_ofInt] at this
  omega
theorem wrap_u64_mod (n : Int) : IntKind.u64.wrap n = n % 18446744073709551616 := by
  simp [IntKind.wrap, IntKind.bits, IntKind.signed]
theorem wrap_i64_mod (n : Int) : IntKind.i64.wrap n % 18446744073709551616 = n % 18446744073709551616 := by
  rw [IntKind.wrap_i64]; omega
theorem wrap_i64_range (n : Int) : -9223372036854775808 ≤ IntKind.i64.wrap n ∧ IntKind.i64.wrap n ≤ 9223372036854775807 := by
  rw [IntKind.wrap_i64]; omega
theorem xor_zero {m : Nat} {x y : BitVec m} (h : x ^^^ y = x) : y = 0#m := by
  have := congrArg (x ^^^ ·) h
  simpa [← BitVec.xor_assoc] using this
theorem xor_i64 (a z : Int) : BitVec.ofInt 64 (bitF .xor .i64 a z) = BitVec.ofInt 64 a ^^^ BitVec.ofInt 64 z := by
  have h : bitF .xor .i64 a z = IntKind.i64.wrap ((BitVec.ofInt 64 a ^^^ BitVec.ofInt 64 z).toNat : Int) := rfl
  rw [h, ofInt_eq (wrap_i64_mod _), ofInt_toNat]
theorem zero_i64 {z : Int} (h0 : -9223372036854775808 ≤ z) (h1 : z ≤ 9223372036854775807) (h : BitVec.ofInt 64 z = 0#64) : z = 0 := by
  have : BitVec.ofInt 64 z = BitVec.ofInt 64 0 := h
  have := ofInt_mod this
  omega
/-- A number, and the same one with some bits turned, are not the same number modulo 2 ^ 64. -/
theorem xor_ne {a z : Int} (h0 : -9223372036854775808 ≤ z) (h1 : z ≤ 9223372036854775807) (hz : z ≠ 0) : IntKind.u64.wrap (bitF .xor .i64 a z) ≠ IntKind.u64.wrap a := by
  intro e
  rw [wrap_u64_mod, wrap_u64_mod] at e
  have h := ofInt_eq e
  rw [xor_i64] at h
  exact hz (zero_i64 h0 h1 (xor_zero h))
section
variable {l : Lk} {p : Pk} {z : Int}
theorem no_seq (hc : p.check = p.tag l.key) (h0 : -9223372036854775808 ≤ z) (h1 : z ≤ 9223372036854775807) (hz : z ≠ 0) : accB l { p with seq := bitF .xor .i64 p.seq z } = false := by
  refine acc_chk fun e => ?_
  have e : p.check = tagW l.key ([] ++ bitF .xor .i64 p.seq z :: ([p.ack, (p.data.length : Int)] ++ p.data.map wI)) := e
  rw [hc] at e
  have e : tagW l.key ([] ++ p.seq :: ([p.ack, (p.data.length : Int)] ++ p.data.map wI)) = tagW l.key ([] ++ bitF .xor .i64 p.seq z :: ([p.ack, (p.data.length : Int)] ++ p.data.map wI)) := e
  exact xor_ne h0 h1 hz (tagW_one e).symm
theorem no_ack (hc : p.check = p.tag l.key) (h0 : -9223372036854775808 ≤ z) (h1 : z ≤ 9223372036854775807) (hz : z ≠ 0) : accB l { p with ack := bitF .xor .i64 p.ack z } = false := by
  refine acc_chk fun e => ?_
  have e : p.check = tagW l.key ([p.seq] ++ bitF .xor .i64 p.ack z :: ([(p.data.length : Int)] ++ p.data.map wI)) := e
  rw [hc] at e
  have e : tagW l.key ([p.seq] ++ p.ack :: ([(p.data.length : Int)] ++ p.data.map wI)) = tagW l.key ([p.seq] ++ bitF .xor .i64 p.ack z :: ([(p.data.length : Int)] ++ p.data.map wI)) := e
  exact xor_ne h0 h1 hz (tagW_one e).symm
theorem no_check (hc : p.check = p.tag l.key) (h0 : -9223372036854775808 ≤ z) (h1 : z ≤ 9223372036854775807) (hz : z ≠ 0) : accB l { p with check := bitF .xor .u64 p.check (IntKind.u64.wrap z) } = false := by
  refine acc_chk fun e => ?_
  have e : bitF .xor .u64 p.check (IntKind.u64.wrap z) = p.tag l.key := e
  rw [← hc, xor_eq] at e
  have h := congrArg (BitVec.ofInt 64) e
  rw [ofInt_toNat] at h
  have h := xor_zero h
  rw [ofInt_eq (show IntKind.u64.wrap z % 18446744073709551616 = z % 18446744073709551616 by rw [wrap_u64_mod]; omega)] at h
  exact hz (zero_i64 h0 h1 h)
theorem and_255 (z : Int) : 0 ≤ bitF .and .i64 z 255 ∧ bitF .and .i64 z 255 ≤ 255 := by
  have h : bitF .and .i64 z 255 = IntKind.i64.wrap ((BitVec.ofInt 64 z &&& BitVec.ofInt 64 255).toNat : Int) := rfl
  have h1 : (BitVec.ofInt 64 z &&& BitVec.ofInt 64 255).toNat ≤ 255 := by
    rw [BitVec.toNat_and]
    exact Nat.le_trans Nat.and_le_right (by decide)
  rw [h, w64 (by omega) (by omega)]
  omega
theorem and_1 (z : Int) : bitF .and .i64 z 1 = 0 ∨ bitF .and .i64 z 1 = 1 := by
  have h : bitF .and .i64 z 1 = IntKind.i64.wrap ((BitVec.ofInt 64 z &&& BitVec.ofInt 64 1).toNat : Int) := rfl
  have h1 : (BitVec.ofInt 64 z &&& BitVec.ofInt 64 1).toNat ≤ 1 := by
    rw [BitVec.toNat_and]
    exact Nat.le_trans Nat.and_le_right (by decide)
  rw [h, w64 (by omega) (by omega)]
  omega
theorem ofInt8_eq {a b : Int} (h : a % 256 = b % 256) : BitVec.ofInt 8 a = BitVec.ofInt 8 b := by
  apply BitVec.eq_of_toNat_eq
  rw [BitVec.toNat_ofInt, BitVec.toNat_ofInt]
  omega
theorem ofInt8_mod {a b : Int} (h : BitVec.ofInt 8 a = BitVec.ofInt 8 b) : a % 256 = b % 256 := by
  have := congrArg BitVec.toNat h
  rw [BitVec.toNat_ofInt, BitVec.toNat_ofInt] at this
  omega
theorem ofInt8_toNat (x : BitVec 8) : BitVec.ofInt 8 (x.toNat : Int) = x := by
  apply BitVec.eq_of_toNat_eq
  simp
theorem xor_u8 (a m : Int) : BitVec.ofInt 8 (bitF .xor .u8 a m) = BitVec.ofInt 8 a ^^^ BitVec.ofInt 8 m := by
  have h : bitF .xor .u8 a m = IntKind.u8.wrap ((BitVec.ofInt 8 a ^^^ BitVec.ofInt 8 m).toNat : Int) := rfl
  have hl := (BitVec.ofInt 8 a ^^^ BitVec.ofInt 8 m).isLt
  rw [h, wrap_u8 (by omega) (by omega), ofInt8_toNat]
theorem no_data (hc : p.check = p.tag l.key) (hz : bitF .and .i64 z 255 ≠ 0) {i : Nat} {v : Int} (hv : p.data[i]? = some v) :
    accB l { p with data := p.data.set i (bitF .xor .u8 v (IntKind.u8.wrap (bitF .and .i64 z 255))) } = false := by
  refine acc_chk fun e => ?_
  obtain ⟨v', hv'⟩ : ∃ v', v' = bitF .xor .u8 v (IntKind.u8.wrap (bitF .and .i64 z 255)) := ⟨_, rfl⟩
  have hlt := (List.getElem?_eq_some_iff.1 hv).1
  have hvv := (List.getElem?_eq_some_iff.1 hv).2
  have hs : p.data.set i v' = p.data.take i ++ v' :: p.data.drop (i + 1) := List.set_eq_take_append_cons_drop.trans (by rw [if_pos hlt])
  have hd : p.data = p.data.take i ++ v :: p.data.drop (i + 1) := by
    conv => lhs; rw [← List.take_append_drop i p.data, List.drop_eq_getElem_cons hlt, hvv]
  have e : p.check = tagW l.key (told p.seq p.ack ((p.data.set i v').length : Int) (p.data.set i v')) := by rw [hv']; exact e
  rw [hc] at e
  have e : tagW l.key (told p.seq p.ack (p.data.length : Int) p.data) = tagW l.key (told p.seq p.ack ((p.data.set i v').length : Int) (p.data.set i v')) := e
  rw [List.length_set, hs] at e
  have e : tagW l.key ([p.seq, p.ack, (p.data.length : Int)] ++ p.data.map wI) = tagW l.key ([p.seq, p.ack, (p.data.length : Int)] ++ (p.data.take i ++ v' :: p.data.drop (i + 1)).map wI) := e
  have h1 : p.data.map wI = (p.data.take i).map wI ++ wI v :: (p.data.drop (i + 1)).map wI := by
    conv => lhs; rw [hd]
    rw [List.map_append, List.map_cons]
  rw [h1, List.map_append, List.map_cons, ← List.append_assoc, ← List.append_assoc] at e
  have h2 := tagW_one e
  rw [wrap_u64_mod, wrap_u64_mod] at h2
  have h3 : ∀ c, wI c % 18446744073709551616 = c % 18446744073709551616 := fun c => wrap_i64_mod c
  rw [h3, h3] at h2
  have h4 : BitVec.ofInt 8 v' = BitVec.ofInt 8 v := ofInt8_eq (by omega)
  rw [hv', xor_u8] at h4
  have h5 := ofInt8_mod (show BitVec.ofInt 8 _ = BitVec.ofInt 8 0 from xor_zero h4)
  have hm := and_255 z
  rw [wrap_u8 (by omega) (by omega)] at h5
  omega
end
theorem Sys.back {n : Nat} {x y : Int} {a b : Lk} {s t g h : List (List Int)} {P : List Fl} (H : Sys n x y a b s t g h P) {p : Pk} (hp : PkOk a b s p) : accB a p = false := by
  refine acc_chk fun e => ?_
  have ha : U64 a.key := by rw [← H.kb]; exact oth_u64 _
  have hb : U64 b.key := by rw [← H.ka]; exact oth_u64 _
  have := tagW_key ha hb (e.symm.trans hp.k)
  have h1 := H.ka
  rw [← this] at h1
  exact oth_ne ha h1
end Go.Proofs.Tran
