import Derived.Test.YthnhbemmlfaihaaGreatA13
import Derived.Test.YthnhbemmlfaihaaGreatA14
import Derived.Test.YthnhbemmlfaihaaGreatProg
set_option linter.unusedVariables false
set_option linter.unusedSimpArgs false
set_option maxRecDepth 10000
set_option maxHeartbeats 64000000
namespace Go.Proofs.Pk
open Go Go.Vc
structure ma where
 ins:Int->Option Unit
 rch:Int->Option Unit
def xY (f:Int->Option Unit) (v:Int):Int->Option Unit:=λj=>if j=v then some () else f j
theorem zb {f:Int->Option Unit} {v u:Int}:(xY f v u).isSome=true↔u=v\/(f u).isSome=true:=by
 unfold xY
 by_cases h:u=v
 ·simp [h]
 ·simp [h]
def z7 (S:List Int) (st:ma) (x:Int):Prop:=(x∈S/\(st.rch x).isSome=true)\/(x∉S/\(x < 2\/(st.ins x).isSome=true))
theorem z7.mono {S:List Int} {st cT:ma} (h1:∀u,(st.ins u).isSome=true->(cT.ins u).isSome=true) (h2:∀u,(st.rch u).isSome=true->(cT.rch u).isSome=true) {x:Int} (h:z7 S st x):z7 S cT x:=by
 rcases h with ⟨a,b⟩|⟨a,b|b⟩
 ·exact .inl ⟨a,h2 _ b⟩
 ·exact .inr ⟨a,.inl b⟩
 ·exact .inr ⟨a,.inr (h1 _ b)⟩
structure BY (I:Nat) (gs:List Gate) (S:List Int) (st:ma) (u:Int):Prop where
 gate:∃g,gI I gs u.toNat=some g/\g.op≠7
 ch:∀x∈sD I gs S u.toNat,z7 S st x
theorem BY.mono {I:Nat} {gs:List Gate} {S:List Int} {st cT:ma} (h1:∀u,(st.ins u).isSome=true->(cT.ins u).isSome=true) (h2:∀u,(st.rch u).isSome=true->(cT.rch u).isSome=true) {u:Int} (h:BY I gs S st u):BY I gs S cT u :=
 ⟨h.gate,λx hx=>(h.ch x hx).mono h1 h2⟩
structure mC (I:Nat) (gs:List Gate) (S:List Int) (st:ma) (v:Int) (res:Bool) (cT:ma):Prop where
 mI:∀u,(st.ins u).isSome=true->(cT.ins u).isSome=true
 mR:∀u,(st.rch u).isSome=true->(cT.rch u).isSome=true
 nI:∀u,(cT.ins u).isSome=true->(st.ins u).isSome=true\/∃w:Nat,u=w/\gF I gs S v.toNat w/\u∉S/\2<=u
 nR:∀u,(cT.rch u).isSome=true->(st.rch u).isSome=true\/∃w:Nat,u=w/\gF I gs S v.toNat w/\u∈S
 yes:res=true->z7 S cT v/\∀u,(cT.ins u).isSome=true->(st.ins u).isSome=true\/BY I gs S cT u
 no:res=false->∃w:Nat,gF I gs S v.toNat w/\tl I gs S w=false
structure qR (I:Nat) (gs:List Gate) (S:List Int) (st:ma) (v:Int) (ops:List Int) (j:Nat) (cT:ma):Prop where
 le:j<=ops.length
 mI:∀u,(st.ins u).isSome=true->(cT.ins u).isSome=true
 mR:∀u,(st.rch u).isSome=true->(cT.rch u).isSome=true
 nI:∀u,(cT.ins u).isSome=true->(st.ins u).isSome=true\/∃w:Nat,u=w/\gF I gs S v.toNat w/\u∉S/\2<=u
 nR:∀u,(cT.rch u).isSome=true->(st.rch u).isSome=true\/∃w:Nat,u=w/\gF I gs S v.toNat w/\u∈S
 vi:(cT.ins v).isSome=true
 ch:∀i x,i < j->ops[i]?=some x->z7 S cT x
 nw:∀u,(cT.ins u).isSome=true->(st.ins u).isSome=true\/u=v\/BY I gs S cT u
section
variable {I:Nat} {gs:List Gate} {S:List Int} {st cT:ma} {v:Int}
theorem mC.leaf (hv:0<=v) (hm:v∈S):mC I gs S st v true ⟨st.ins,xY st.rch v⟩ where
 mI _ h:=h
 mR _ h:=zb.2 (.inr h)
 nI _ h:=.inl h
 nR u h:=by
  rcases zb.1 h with rfl|h
  ·exact .inr ⟨u.toNat,by omega,.base rfl,hm⟩
  ·exact .inl h
 yes _:=⟨.inl ⟨hm,zb.2 (.inl rfl)⟩,λu h=>.inl h⟩
 no h:=by cases h
theorem mC.known (hm:v∉S) (h:v < 2\/(st.ins v).isSome=true):mC I gs S st v true st where
 mI _ h:=h
 mR _ h:=h
 nI _ h:=.inl h
 nR _ h:=.inl h
 yes _:=⟨.inr ⟨hm,h⟩,λu h=>.inl h⟩
 no h:=by cases h
theorem adv {w:Nat} (h1:(w:Int)∉S) (h2:2<=w) (h3:∀g,gI I gs w=some g->g.op=7):tl I gs S w=false:=by
 cases h:tl I gs S w with
 | false=>rfl
 | true =>
  rcases yZ.1 h with h|h|⟨g,hg,h7⟩
  ·exact absurd h h1
  ·omega
  ·exact absurd (h3 g hg) h7
theorem mC.bad (hv:2<=v) (hm:v∉S) (h:∀g,gI I gs v.toNat=some g->g.op=7):mC I gs S st v false st where
 mI _ h:=h
 mR _ h:=h
 nI _ h:=.inl h
 nR _ h:=.inl h
 yes h:=by cases h
 no _:=⟨v.toNat,.base rfl,adv (by rw [Int.toNat_of_nonneg (by omega)];exact hm) (by omega) h⟩
theorem qR.start (hv:2<=v) (hm:v∉S) (ops:List Int):qR I gs S st v ops 0 ⟨xY st.ins v,st.rch⟩ where
 le:=cI _
 mI _ h:=zb.2 (.inr h)
 mR _ h:=h
 nI u h:=by
  rcases zb.1 h with rfl|h
  ·exact .inr ⟨u.toNat,by omega,.base rfl,hm,hv⟩
  ·exact .inl h
 nR _ h:=.inl h
 vi:=zb.2 (.inl rfl)
 ch i x h:=by omega
 nw u h:=by
  rcases zb.1 h with rfl|h
  ·exact .inr (.inl rfl)
  ·exact .inl h
theorem El {x:Int} (hx:x∈sD I gs S v.toNat) {w:Nat} (h:gF I gs S x.toNat w):gF I gs S v.toNat w :=
 h.mono λu hu=>by subst hu;exact .step (.base rfl) hx
theorem qR.step {ops:List Int} {j:Nat} {x:Int} {tQ:ma} (h:qR I gs S st v ops j cT) (hj:ops[j]?=some x) (hx:x∈sD I gs S v.toNat) (k:mC I gs S cT x true tQ):qR I gs S st v ops (j+1) tQ where
 le:=(bf.1 hj).1
 mI u hu:=k.mI u (h.mI u hu)
 mR u hu:=k.mR u (h.mR u hu)
 nI u hu:=by
  rcases k.nI u hu with hu|⟨w,a,b,c⟩
  ·exact h.nI u hu
  ·exact .inr ⟨w,a,El hx b,c⟩
 nR u hu:=by
  rcases k.nR u hu with hu|⟨w,a,b,c⟩
  ·exact h.nR u hu
  ·exact .inr ⟨w,a,El hx b,c⟩
 vi:=k.mI v h.vi
 ch i y hi hy:=by
  by_cases e:i=j
  ·subst e;rw [hj] at hy;cases hy;exact (k.yes rfl).1
  ·exact (h.ch i y (by omega) hy).mono k.mI k.mR
 nw u hu:=by
  rcases (k.yes rfl).2 u hu with hu|hu
  ·rcases h.nw u hu with hu|hu|hu
   ·exact .inl hu
   ·exact .inr (.inl hu)
   ·exact .inr (.inr (hu.mono k.mI k.mR))
  ·exact .inr (.inr hu)
theorem qR.fail {ops:List Int} {j:Nat} {x:Int} {tQ:ma} (h:qR I gs S st v ops j cT) (hx:x∈sD I gs S v.toNat) (k:mC I gs S cT x false tQ):mC I gs S st v false tQ where
 mI u hu:=k.mI u (h.mI u hu)
 mR u hu:=k.mR u (h.mR u hu)
 nI u hu:=by
  rcases k.nI u hu with hu|⟨w,a,b,c⟩
  ·exact h.nI u hu
  ·exact .inr ⟨w,a,El hx b,c⟩
 nR u hu:=by
  rcases k.nR u hu with hu|⟨w,a,b,c⟩
  ·exact h.nR u hu
  ·exact .inr ⟨w,a,El hx b,c⟩
 yes h:=by cases h
 no _:=by
  obtain ⟨w,a,b⟩:=k.no rfl
  exact ⟨w,El hx a,b⟩
theorem qR.fin {ops:List Int} {j:Nat} (h:qR I gs S st v ops j cT) (hj:ops.length<=j) (hm:v∉S) {g:Gate} (hg:gI I gs v.toNat=some g) (h7:g.op≠7) (ho:ops=cH g):mC I gs S st v true cT where
 mI:=h.mI
 mR:=h.mR
 nI:=h.nI
 nR:=h.nR
 yes _:=⟨.inr ⟨hm,.inr h.vi⟩,λu hu=>by
  rcases h.nw u hu with hu|rfl|hu
  ·exact .inl hu
  ·refine .inr ⟨⟨g,hg,h7⟩,λx hx=>?_⟩
   obtain ⟨-,g',kI,-,hx⟩:=qL.1 hx
   rw [hg] at kI;cases kI
   obtain ⟨i,hi⟩:=qG hx
   rw [<-ho] at hi
   exact h.ch i x (by have:=(bf.1 hi).1;omega) hi
  ·exact .inr hu⟩
 no h:=by cases h
end
structure IN (I:Nat) (gs:List Gate) (S:List Int) (root:Int) (st:ma):Prop where
 ins:∀u:Int,(st.ins u).isSome=true↔2<=u/\gF I gs S root.toNat u.toNat/\u∉S
 rch:∀u:Int,(st.rch u).isSome=true↔0<=u/\gF I gs S root.toNat u.toNat/\u∈S
 Xu:∀w:Nat,gF I gs S root.toNat w->tl I gs S w=true
theorem IN.of {I:Nat} {gs:List Gate} (G:cC I gs) {S:List Int} {root:Int} (hr:2<=root) {st:ma} (h:mC I gs S ⟨λ_=>none,λ_=>none⟩ root true st):IN I gs S root st:=by
 obtain ⟨hc,hn⟩:=h.yes rfl
 have hd:∀u,(st.ins u).isSome=true->BY I gs S st u:=λu hu=>(hn u hu).resolve_left (by simp)
 have Oa:∀w:Nat,gF I gs S root.toNat w->z7 S st w:=λw hw=>by
  induction hw with
  | base e=>rw [e,Int.toNat_of_nonneg (by omega)];exact hc
  | @step u x _ hx ih =>
   have jd:=Eu G hx
   have hum:=(qL.1 hx).1
   obtain ⟨-,g,hg,-⟩:=qL.1 hx
   obtain ⟨i,rfl,-⟩:=pJ.1 hg
   rcases ih with ⟨a,_⟩|⟨_,a|a⟩
   ·exact absurd a hum
   ·omega
   ·rw [Int.toNat_of_nonneg jd.1]
    exact (hd _ a).ch x (by rw [iS];exact hx)
 refine ⟨λu=>⟨λhu=>?_,λ⟨h2,hu,hm⟩=>?_⟩,λu=>⟨λhu=>?_,λ⟨h0,hu,hm⟩=>?_⟩,λw hw=>?_⟩
 ·rcases h.nI u hu with hu|⟨w,rfl,a,b,c⟩
  ·simp at hu
  ·exact ⟨c,by rw [iS];exact a,b⟩
 ·have:=Oa _ hu
  rw [Int.toNat_of_nonneg (by omega)] at this
  rcases this with ⟨a,_⟩|⟨_,a|a⟩
  ·exact absurd a hm
  ·omega
  ·exact a
 ·rcases h.nR u hu with hu|⟨w,rfl,a,b⟩
  ·simp at hu
  ·exact ⟨by omega,by rw [iS];exact a,b⟩
 ·have:=Oa _ hu
  rw [Int.toNat_of_nonneg h0] at this
  rcases this with ⟨_,a⟩|⟨a,_⟩
  ·exact a
  ·exact absurd hm a
 ·refine yZ.2 ?_
  rcases Oa w hw with ⟨a,_⟩|⟨_,a|a⟩
  ·exact .inl a
  ·exact .inr (.inl (by omega))
  ·have:=(hd _ a).gate
   rw [iS] at this
   exact .inr (.inr this)
theorem adw {I:Nat} {gs:List Gate} (G:cC I gs) {S:List Int} {root:Int} {w:Nat} (hw:gF I gs S root.toNat w) (hg:tl I gs S w=false):iD I gs root S=none:=by
 unfold iD
 split
 ·simp only
  rw [if_neg]
  simp only [b9,not_and]
  intro h
  have:=gE.1 h w (mr.2 (by have:=gF.le G hw;omega))
  rw [(sX G).2 hw,hg] at this
  cases this
 ·rfl
theorem acs {I:Nat} {gs:List Gate} (G:cC I gs) {S:List Int} {root x:Int} (hx:x∈S) (hn:¬gF I gs S root.toNat x.toNat):iD I gs root S=none:=by
 unfold iD
 split
 ·simp only
  rw [if_neg]
  simp only [b9,not_and]
  intro _ h
  exact hn ((sX G).1 (gE.1 h x hx))
 ·rfl
theorem aaW {I:Nat} {gs:List Gate} {S:List Int} {root:Int} (h:pP (2+I+gs.length) root S=false):iD I gs root S=none:=by
 unfold iD;rw [h];rfl
theorem acu {I:Nat} {gs:List Gate} (G:cC I gs) {S:List Int} {root:Int} {st:ma} (hl:pP (2+I+gs.length) root S=true) (h:IN I gs S root st) (ha:∀x∈S,gF I gs S root.toNat x.toNat):∃l,iD I gs root S=some l/\gd l/\∀u:Int,u∈l↔(st.ins u).isSome=true:=by
 have hs:∃l,iD I gs root S=some l:=by
  unfold iD
  rw [if_pos hl]
  simp only
  rw [if_pos]
  ·exact ⟨_,rfl⟩
  simp only [b9,gE]
  refine ⟨λw _=>?_,λx hx=>(sX G).2 (ha x hx)⟩
  cases hq:(zq I gs root.toNat S).getD w false with
  | false=>rfl
  | true=>rw [h.Xu w ((sX G).1 hq)];rfl
 obtain ⟨l,hl⟩:=hs
 have hm:=DT G hl
 exact ⟨l,hl,hm.1,λu=>(hm.2 u).trans (h.ins u).symm⟩
noncomputable def PP:Unit->Program:=λ_=>Tryz.prog
abbrev I0:Value:=.int .i64 0
abbrev U0:Value:=.int .u64 0
abbrev Y0:Value:=.int .u8 0
abbrev N0:Value:=.slice none 0 0
abbrev S0:Value:=.string ByteArray.empty
abbrev B0:Value:=.bool false
abbrev M0:Value:=.map none
@[reducible] def ti (d:TD) (s b:Nat) (z:Value):TI:={ d:=d,size:=s,bytes:=b,zero:=z }
@[reducible] def tF (d:TD) (s b:Nat) (z:Value) (k:Option (List IntKind)):TI:={ d:=d,size:=s,bytes:=b,zero:=z,flat:=true,kd:=k }
@[reducible] def tS (e:TypeId):TI:={ d:=.sl e,size:=1,bytes:=24,zero:=.slice none 0 0 }
def tt:TypeId->Option TI
 | 3=>some (ti (.int .i64) 1 8 I0)
 | 4=>some (ti (.bool) 1 1 B0)
 | 5=>some (ti (.int .u8) 1 1 Y0)
 | 9=>some (ti (.str) 1 16 S0)
 | 22=>some (tS 5)
 | 23=>some (ti (.st [(22,0,1)]) 1 24 (.agg #[N0]))
 | 24=>some (ti (.st [(22,0,1)]) 1 24 (.agg #[N0]))
 | 25=>some (ti (.st [(24,0,1),(22,1,1),(22,2,1),(22,3,1)]) 4 96 (.agg #[N0,N0,N0,N0]))
 | 26=>some (ti (.st [(24,0,1),(22,1,1),(22,2,1),(22,3,1)]) 4 96 (.agg #[N0,N0,N0,N0]))
 | 28=>some (tS 159)
 | 29=>some (tS 163)
 | 30=>some (tS 154)
 | 31=>some (tS 161)
 | 32=>some (ti (.st [(9,0,1),(9,1,1),(28,2,1),(29,3,1),(30,4,1),(31,5,1)]) 6 128 (.agg #[S0,S0,N0,N0,N0,N0]))
 | 33=>some (ti (.st [(9,0,1),(9,1,1),(28,2,1),(29,3,1),(30,4,1),(31,5,1)]) 6 128 (.agg #[S0,S0,N0,N0,N0,N0]))
 | 35=>some (tS 3)
 | 36=>some (tS 35)
 | 37=>some (ti (.st [(35,0,1),(36,1,1)]) 2 48 (.agg #[N0,N0]))
 | 38=>some (ti (.st [(35,0,1),(36,1,1)]) 2 48 (.agg #[N0,N0]))
 | 40=>some (tS 168)
 | 41=>some (tS 4)
 | 42=>some (ti (.st [(40,0,1),(41,1,1)]) 2 48 (.agg #[N0,N0]))
 | 43=>some (ti (.st [(40,0,1),(41,1,1)]) 2 48 (.agg #[N0,N0]))
 | 45=>some (tS 133)
 | 46=>some (tS 118)
 | 47=>some (ti (.st [(45,0,1),(46,1,1),(45,2,1),(35,3,1)]) 4 96 (.agg #[N0,N0,N0,N0]))
 | 48=>some (ti (.st [(45,0,1),(46,1,1),(45,2,1),(35,3,1)]) 4 96 (.agg #[N0,N0,N0,N0]))
 | 49=>some (tS 135)
 | 50=>some (ti (.st [(3,0,1),(49,1,1),(35,2,1)]) 3 56 (.agg #[I0,N0,N0]))
 | 51=>some (ti (.st [(3,0,1),(49,1,1),(35,2,1)]) 3 56 (.agg #[I0,N0,N0]))
 | 52=>some (ti (.st [(48,0,4),(51,4,3),(4,7,1)]) 8 160 (.agg #[N0,N0,N0,N0,I0,N0,N0,B0]))
 | 53=>some (ti (.st [(48,0,4),(51,4,3),(4,7,1)]) 8 160 (.agg #[N0,N0,N0,N0,I0,N0,N0,B0]))
 | 55=>some (tS 76)
 | 56=>some (ti (.st [(45,0,1),(55,1,1),(45,2,1),(35,3,1)]) 4 96 (.agg #[N0,N0,N0,N0]))
 | 57=>some (ti (.st [(45,0,1),(55,1,1),(45,2,1),(35,3,1)]) 4 96 (.agg #[N0,N0,N0,N0]))
 | 58=>some (ti (.int .i64) 1 8 I0)
 | 59=>some (ti (.st [(57,0,4),(58,4,1)]) 5 104 (.agg #[N0,N0,N0,N0,I0]))
 | 60=>some (ti (.st [(57,0,4),(58,4,1)]) 5 104 (.agg #[N0,N0,N0,N0,I0]))
 | 66=>some (ti (.st [(4,0,1),(38,1,2),(41,3,1),(40,4,1)]) 5 104 (.agg #[B0,N0,N0,N0,N0]))
 | 67=>some (ti (.st [(4,0,1),(38,1,2),(41,3,1),(40,4,1)]) 5 104 (.agg #[B0,N0,N0,N0,N0]))
 | 72=>some (tS 74)
 | 74=>some (ti (.int .u64) 1 8 U0)
 | 75=>some (ti (.st [(35,0,1),(3,1,1),(3,2,1),(3,3,1),(74,4,1)]) 5 56 (.agg #[N0,I0,I0,I0,U0]))
 | 76=>some (ti (.st [(35,0,1),(3,1,1),(3,2,1),(3,3,1),(74,4,1)]) 5 56 (.agg #[N0,I0,I0,I0,U0]))
 | 78=>some (ti (.arr 3 5) 3 3 (.agg #[Y0,Y0,Y0]))
 | 91=>some (ti (.st [(35,0,1),(36,1,1)]) 2 48 (.agg #[N0,N0]))
 | 92=>some (ti (.st [(35,0,1),(36,1,1)]) 2 48 (.agg #[N0,N0]))
 | 93=>some (ti (.st [(51,0,3),(92,3,2),(58,5,1)]) 6 112 (.agg #[I0,N0,N0,N0,N0,I0]))
 | 94=>some (ti (.st [(51,0,3),(92,3,2),(58,5,1)]) 6 112 (.agg #[I0,N0,N0,N0,N0,I0]))
 | 96=>some (ti (.st [(35,0,1),(36,1,1),(58,2,1)]) 3 56 (.agg #[N0,N0,I0]))
 | 97=>some (ti (.st [(35,0,1),(36,1,1),(58,2,1)]) 3 56 (.agg #[N0,N0,I0]))
 | 113=>some (tS 36)
 | 117=>some (tF (.st [(3,0,1),(3,1,1),(3,2,1),(3,3,1),(3,4,1)]) 5 40 (.agg #[I0,I0,I0,I0,I0]) none)
 | 118=>some (tF (.st [(3,0,1),(3,1,1),(3,2,1),(3,3,1),(3,4,1)]) 5 40 (.agg #[I0,I0,I0,I0,I0]) none)
 | 129=>some (ti (.arr 2 3) 2 16 (.agg #[I0,I0]))
 | 132=>some (tF (.st [(3,0,1),(3,1,1),(3,2,1)]) 3 24 (.agg #[I0,I0,I0]) (some [.i64,.i64,.i64]))
 | 133=>some (tF (.st [(3,0,1),(3,1,1),(3,2,1)]) 3 24 (.agg #[I0,I0,I0]) (some [.i64,.i64,.i64]))
 | 134=>some (ti (.st [(35,0,1),(3,1,1),(3,2,1)]) 3 40 (.agg #[N0,I0,I0]))
 | 135=>some (ti (.st [(35,0,1),(3,1,1),(3,2,1)]) 3 40 (.agg #[N0,I0,I0]))
 | 139=>some (ti (.st [(35,0,1),(35,1,1),(29,2,1),(4,3,1)]) 4 80 (.agg #[N0,N0,N0,B0]))
 | 140=>some (ti (.st [(35,0,1),(35,1,1),(29,2,1),(4,3,1)]) 4 80 (.agg #[N0,N0,N0,B0]))
 | 141=>some (ti (.st [(22,0,1),(3,1,1)]) 2 32 (.agg #[N0,I0]))
 | 142=>some (ti (.st [(22,0,1),(3,1,1)]) 2 32 (.agg #[N0,I0]))
 | 145=>some (ti (.st [(3,0,1),(9,1,1)]) 2 24 (.agg #[I0,S0]))
 | 146=>some (ti (.st [(3,0,1),(9,1,1)]) 2 24 (.agg #[I0,S0]))
 | 147=>some (tS 149)
 | 148=>some (ti (.st [(3,0,1),(9,1,1),(146,2,2),(146,4,2),(147,6,1)]) 7 96 (.agg #[I0,S0,I0,S0,I0,S0,N0]))
 | 149=>some (ti (.st [(3,0,1),(9,1,1),(146,2,2),(146,4,2),(147,6,1)]) 7 96 (.agg #[I0,S0,I0,S0,I0,S0,N0]))
 | 150=>some (ti (.st [(149,0,7),(142,7,2)]) 9 128 (.agg #[I0,S0,I0,S0,I0,S0,N0,N0,I0]))
 | 151=>some (ti (.st [(149,0,7),(142,7,2)]) 9 128 (.agg #[I0,S0,I0,S0,I0,S0,N0,N0,I0]))
 | 153=>some (ti (.st [(3,0,1),(3,1,1),(149,2,7)]) 9 112 (.agg #[I0,I0,I0,S0,I0,S0,I0,S0,N0]))
 | 154=>some (ti (.st [(3,0,1),(3,1,1),(149,2,7)]) 9 112 (.agg #[I0,I0,I0,S0,I0,S0,I0,S0,N0]))
 | 156=>some (ti (.st [(3,0,1),(9,1,1),(3,2,1)]) 3 32 (.agg #[I0,S0,I0]))
 | 157=>some (ti (.st [(3,0,1),(9,1,1),(3,2,1)]) 3 32 (.agg #[I0,S0,I0]))
 | 158=>some (ti (.st [(9,0,1),(3,1,1),(3,2,1),(149,3,7),(157,10,3)]) 13 160 (.agg #[S0,I0,I0,I0,S0,I0,S0,I0,S0,N0,I0,S0,I0]))
 | 159=>some (ti (.st [(9,0,1),(3,1,1),(3,2,1),(149,3,7),(157,10,3)]) 13 160 (.agg #[S0,I0,I0,I0,S0,I0,S0,I0,S0,N0,I0,S0,I0]))
 | 160=>some (ti (.st [(3,0,1),(3,1,1),(149,2,7),(149,9,7)]) 16 208 (.agg #[I0,I0,I0,S0,I0,S0,I0,S0,N0,I0,S0,I0,S0,I0,S0,N0]))
 | 161=>some (ti (.st [(3,0,1),(3,1,1),(149,2,7),(149,9,7)]) 16 208 (.agg #[I0,I0,I0,S0,I0,S0,I0,S0,N0,I0,S0,I0,S0,I0,S0,N0]))
 | 162=>some (ti (.st [(9,0,1),(3,1,1),(3,2,1),(149,3,7),(149,10,7),(149,17,7),(157,24,3)]) 27 352 (.agg #[S0,I0,I0,I0,S0,I0,S0,I0,S0,N0,I0,S0,I0,S0,I0,S0,N0,I0,S0,I0,S0,I0,S0,N0,I0,S0,I0]))
 | 163=>some (ti (.st [(9,0,1),(3,1,1),(3,2,1),(149,3,7),(149,10,7),(149,17,7),(157,24,3)]) 27 352 (.agg #[S0,I0,I0,I0,S0,I0,S0,I0,S0,N0,I0,S0,I0,S0,I0,S0,N0,I0,S0,I0,S0,I0,S0,N0,I0,S0,I0]))
 | 165=>some (ti (.int .u64) 1 8 U0)
 | 167=>some (ti (.st [(4,0,1),(3,1,1)]) 2 16 (.agg #[B0,I0]))
 | 168=>some (ti (.st [(4,0,1),(3,1,1)]) 2 16 (.agg #[B0,I0]))
 | 169=>some (ti (.st [(48,0,4),(58,4,1)]) 5 104 (.agg #[N0,N0,N0,N0,I0]))
 | 170=>some (ti (.st [(48,0,4),(58,4,1)]) 5 104 (.agg #[N0,N0,N0,N0,I0]))
 | 178=>some (ti (.st [(57,0,4)]) 4 96 (.agg #[N0,N0,N0,N0]))
 | 179=>some (ti (.st [(57,0,4)]) 4 96 (.agg #[N0,N0,N0,N0]))
 | 184=>some (ti (.map 3 4) 1 8 M0)
 | 191=>some (ti (.map 74 3) 1 8 M0)
 | 192=>some (ti (.map 74 4) 1 8 M0)
 | 199=>some (ti (.int .u64) 1 8 U0)
 | 213=>some (ti (.st [(3,0,1),(35,1,1)]) 2 32 (.agg #[I0,N0]))
 | 214=>some (ti (.st [(3,0,1),(35,1,1)]) 2 32 (.agg #[I0,N0]))
 | 216=>some (ti (.map 3 3) 1 8 M0)
 | 244=>some (ti (.map 133 3) 1 8 M0)
 | 252=>some (ti (.arr 3 3) 3 24 (.agg #[I0,I0,I0]))
 | 256=>some (ti (.map 259 4) 1 8 M0)
 | 257=>some (ti (.map 259 3) 1 8 M0)
 | 258=>some (tF (.st [(3,0,1),(3,1,1)]) 2 16 (.agg #[I0,I0]) (some [.i64,.i64]))
 | 259=>some (tF (.st [(3,0,1),(3,1,1)]) 2 16 (.agg #[I0,I0]) (some [.i64,.i64]))
 | 274=>some (ti (.st [(3,0,1),(46,1,1)]) 2 32 (.agg #[I0,N0]))
 | 275=>some (ti (.st [(3,0,1),(46,1,1)]) 2 32 (.agg #[I0,N0]))
 | 276=>some (ti (.st [(275,0,2),(35,2,1),(35,3,1),(36,4,1),(3,5,1)]) 6 112 (.agg #[I0,N0,N0,N0,N0,I0]))
 | 277=>some (ti (.st [(275,0,2),(35,2,1),(35,3,1),(36,4,1),(3,5,1)]) 6 112 (.agg #[I0,N0,N0,N0,N0,I0]))
 | 279=>some (ti (.st [(33,0,6),(45,6,1),(36,7,1)]) 8 176 (.agg #[S0,S0,N0,N0,N0,N0,N0,N0]))
 | 280=>some (ti (.st [(33,0,6),(45,6,1),(36,7,1)]) 8 176 (.agg #[S0,S0,N0,N0,N0,N0,N0,N0]))
 | 281=>some (ti (.st [(275,0,2),(45,2,1),(35,3,1)]) 4 80 (.agg #[I0,N0,N0,N0]))
 | 282=>some (ti (.st [(275,0,2),(45,2,1),(35,3,1)]) 4 80 (.agg #[I0,N0,N0,N0]))
 | 284=>some (ti (.st [(275,0,2),(3,2,1)]) 3 40 (.agg #[I0,N0,I0]))
 | 285=>some (ti (.st [(275,0,2),(3,2,1)]) 3 40 (.agg #[I0,N0,I0]))
 | 288=>some (ti (.st [(275,0,2),(35,2,1)]) 3 56 (.agg #[I0,N0,N0]))
 | 289=>some (ti (.st [(275,0,2),(35,2,1)]) 3 56 (.agg #[I0,N0,N0]))
 | 294=>some (tS 307)
 | 295=>some (tS 302)
 | 296=>some (ti (.arr 2 4) 2 2 (.agg #[B0,B0]))
 | 297=>some (ti (.st [(48,0,4),(244,4,1),(294,5,1),(295,6,1),(296,7,2),(216,9,1)]) 10 168 (.agg #[N0,N0,N0,N0,M0,N0,N0,B0,B0,M0]))
 | 298=>some (ti (.st [(48,0,4),(244,4,1),(294,5,1),(295,6,1),(296,7,2),(216,9,1)]) 10 168 (.agg #[N0,N0,N0,N0,M0,N0,N0,B0,B0,M0]))
 | 301=>some (tF (.st [(3,0,1),(3,1,1)]) 2 16 (.agg #[I0,I0]) (some [.i64,.i64]))
 | 302=>some (tF (.st [(3,0,1),(3,1,1)]) 2 16 (.agg #[I0,I0]) (some [.i64,.i64]))
 | 304=>some (ti (.arr 2 302) 4 32 (.agg #[I0,I0,I0,I0]))
 | 306=>some (ti (.st [(295,0,1),(3,1,1),(3,2,1),(3,3,1)]) 4 48 (.agg #[N0,I0,I0,I0]))
 | 307=>some (ti (.st [(295,0,1),(3,1,1),(3,2,1),(3,3,1)]) 4 48 (.agg #[N0,I0,I0,I0]))
 | 308=>some (ti (.map 302 302) 1 8 M0)
 | 325=>some (ti (.st [(3,0,1),(58,1,1)]) 2 16 (.agg #[I0,I0]))
 | 326=>some (ti (.st [(3,0,1),(58,1,1)]) 2 16 (.agg #[I0,I0]))
 | 345=>some (tS 9)
 | 356=>some (ti (.map 133 4) 1 8 M0)
 | 361=>some (ti (.st [(35,0,1),(58,1,1)]) 2 32 (.agg #[N0,I0]))
 | 362=>some (ti (.st [(35,0,1),(58,1,1)]) 2 32 (.agg #[N0,I0]))
 | 365=>some (ti (.arr 3 4) 3 3 (.agg #[B0,B0,B0]))
 | _=>none
theorem PB {t:TypeId} {i:TI} (h1:i.flat=false) (h2:i.kd=none) (hz:(Tryz.prog.info? t).map (·.zero)=some (some i.zero)) (hb:Pt Tryz.prog t i=true):kV Tryz.prog t i :=
 UD hz hb (λh=>by rw [h1] at h;cases h) (λ_ h=>by rw [h2] at h;cases h)
theorem WA:∀t i,tt t=some i->kV Tryz.prog t i:=by
 intro t i h
 unfold tt at h
 split at h
 all_goals cases h
 all_goals first|exact PB rfl rfl (by kernel_rfl) (by kernel_rfl)|skip
 all_goals refine UD (by kernel_rfl) (by kernel_rfl) (λ_=>⟨rfl,λvs us w _ _ h1 h2 op x y fg=>abt (by kernel_rfl) (by kernel_rfl) (by kernel_rfl) (by kernel_rfl) vs us w h1 h2 op x y fg⟩) (λks h=>?_)
 all_goals cases h
 all_goals exact abP (by kernel_rfl) (by kernel_rfl) (by kernel_rfl)
def bJ (x:Int):List SV:=[.i .i64 λ_=>x]
theorem dq (x:Int):cj (bJ x)/\(bJ x).all SV.one=true:=⟨⟨trivial,trivial⟩,rfl⟩
def zr:gx:=⟨Int,bJ,0⟩
def sE (x:Int):List SV:=[.i .u8 λ_=>x]
theorem Ih (x:Int):cj (sE x)/\(sE x).all SV.one=true:=⟨⟨trivial,trivial⟩,rfl⟩
def WB:gx:=⟨Int,sE,0⟩
def pe (x:Bool):List SV:=[.b λ_=>x]
theorem HI (x:Bool):cj (pe x)/\(pe x).all SV.one=true:=⟨⟨trivial,trivial⟩,rfl⟩
def UI:gx:=⟨Bool,pe,false⟩
def Jj (x:Int):List SV:=[.i .u64 λ_=>x]
theorem aeE (x:Int):cj (Jj x)/\(Jj x).all SV.one=true:=⟨⟨trivial,trivial⟩,rfl⟩
def Vp:gx:=⟨Int,Jj,0⟩
def fT (x:List Int):List SV:=[.sl 1 bJ (λ_=>x)]
theorem qJ (x:List Int):cj (fT x)/\(fT x).all SV.one=true:=⟨⟨λy=>(dq y).1,trivial⟩,rfl⟩
def MJ:gx:=⟨List Int,fT,[]⟩
def zt (x:List (List Int)):List SV:=[.sl 1 fT (λ_=>x)]
theorem SR (x:List (List Int)):cj (zt x)/\(zt x).all SV.one=true:=⟨⟨λy=>(qJ y).1,trivial⟩,rfl⟩
def adz:gx:=⟨List (List Int),zt,[]⟩
def jT (x:eb):List SV:=[.i .i64 (λ_=>x.kind),.i .i64 (λ_=>x.i),.i .i64 (λ_=>x.bit)]
theorem rN (x:eb):cj (jT x)/\(jT x).all SV.one=true:=⟨⟨trivial,trivial,trivial,trivial⟩,rfl⟩
def MK:gx:=⟨eb,jT,⟨0,0,0⟩⟩
def lY (x:Gate):List SV:=[.i .i64 (λ_=>x.op),.i .i64 (λ_=>x.a),.i .i64 (λ_=>x.b),.i .i64 (λ_=>x.c),.i .i64 (λ_=>x.n)]
theorem uu (x:Gate):cj (lY x)/\(lY x).all SV.one=true:=⟨⟨trivial,trivial,trivial,trivial,trivial,trivial⟩,rfl⟩
def ML:gx:=⟨Gate,lY,⟨0,0,0,0,0⟩⟩
def mF (x:Cell):List SV:=[.sl 1 bJ (λ_=>x.ins),.i .i64 (λ_=>x.table),.i .i64 (λ_=>x.ej)]
theorem Bz (x:Cell):cj (mF x)/\(mF x).all SV.one=true:=⟨⟨λy=>(dq y).1,trivial,trivial,trivial⟩,rfl⟩
def UJ:gx:=⟨Cell,mF,⟨[],0,0⟩⟩
def Ik (x:Block):List SV:=[.sl 1 bJ (λ_=>x.ins),.i .i64 (λ_=>x.table),.i .i64 (λ_=>x.ej),.i .i64 (λ_=>x.cJ),.i .u64 (λ_=>x.key)]
theorem acv (x:Block):cj (Ik x)/\(Ik x).all SV.one=true:=⟨⟨λy=>(dq y).1,trivial,trivial,trivial,trivial,trivial⟩,rfl⟩
def adA:gx:=⟨Block,Ik,⟨[],0,0,0,0⟩⟩
def IP (x:Head):List SV:=[.b (λ_=>x.has),.i .i64 (λ_=>x.v)]
theorem adB (x:Head):cj (IP x)/\(IP x).all SV.one=true:=⟨⟨trivial,trivial,trivial⟩,rfl⟩
def UK:gx:=⟨Head,IP,⟨false,0⟩⟩
def Jk (x:ByteArray):List SV:=[.str (λ_=>x)]
theorem aeF (x:ByteArray):cj (Jk x)/\(Jk x).all SV.one=true:=⟨⟨trivial,trivial⟩,rfl⟩
def Vq:gx:=⟨ByteArray,Jk,ByteArray.empty⟩
def Em (x:Source):List SV:=[.i .i64 (λ_=>x.kind),.i .i64 (λ_=>x.n)]
theorem K8 (x:Source):cj (Em x)/\(Em x).all SV.one=true:=⟨⟨trivial,trivial,trivial⟩,rfl⟩
def SU:gx:=⟨Source,Em,⟨0,0⟩⟩
def IQ (x:Part):List SV:=[.sl 2 Em (λ_=>x.ins),.i .i64 (λ_=>x.table),.i .i64 (λ_=>x.ej),.i .i64 (λ_=>x.cJ)]
theorem adC (x:Part):cj (IQ x)/\(IQ x).all SV.one=true:=⟨⟨λy=>(K8 y).1,trivial,trivial,trivial,trivial⟩,rfl⟩
def aeG:gx:=⟨Part,IQ,⟨[],0,0,0⟩⟩
def es:ByteArray:=ByteArray.empty
def cA:Nat->Expr->SV
 | 0,_=>.cG
 | n+1,x=>.sl 7 (λy=>[.i .i64 (λ_=>y.op),.str (λ_=>es),.i .i64 (λ_=>y.k),.str (λ_=>es),.i .i64 (λ_=>y.w),.str (λ_=>es),cA n y]) (λ_=>x.args)
def cE (n:Nat) (x:Expr):List SV:=[.i .i64 (λ_=>x.op),.str (λ_=>es),.i .i64 (λ_=>x.k),.str (λ_=>es),.i .i64 (λ_=>x.w),.str (λ_=>es),cA n x]
theorem BZ:∀(n:Nat) (x:Expr),LF (cA n x)
 | 0,x=>trivial
 | n+1,x=>λy=>⟨trivial,trivial,trivial,trivial,trivial,trivial,BZ n y,trivial⟩
theorem Ew (n:Nat) (x:Expr):(cA n x).one=true:=by cases n<;>rfl
theorem WC (n:Nat) (x:Expr):cj (cE n x)/\(cE n x).all SV.one=true :=
 ⟨⟨trivial,trivial,trivial,trivial,trivial,trivial,BZ n x,trivial⟩,by simp only [cE,yV,DM,Ew];rfl⟩
def Ob (n:Nat):gx:=⟨Expr,cE n,.mk 0 0 0 []⟩
def rZ (x:N8):List SV:=[.i .i64 (λ_=>x.kind),.str (λ_=>x.src),.i .i64 (λ_=>x.n)]
def Fb (n:Nat) (x:Py):List SV:=[.str (λ_=>x.name),.i .i64 (λ_=>x.w),.i .i64 (λ_=>x.init)]++cE n x.next++rZ x.N9
def Fc (n:Nat) (x:Mem):List SV:=[.str (λ_=>x.name),.i .i64 (λ_=>x.w),.i .i64 (λ_=>x.words)]++cE n x.en++cE n x.ad++cE n x.da++rZ x.N9
def ED (n:Nat) (x:Take):List SV:=[.i .i64 (λ_=>x.chan),.i .i64 (λ_=>x.w)]++cE n x.cond
def Fe (n:Nat) (x:Pz):List SV:=[.i .i64 (λ_=>x.chan),.i .i64 (λ_=>x.w)]++cE n x.cond++cE n x.data
theorem aeH (n:Nat) (x:Py):cj (Fb n x)/\(Fb n x).all SV.one=true:=by
 refine ⟨by simp [Fb,rZ,cE,cj,LF,BZ],?_⟩
 simp only [Fb,rZ,cE,y7,uq,yV,DM,Ew];rfl
theorem aeI (n:Nat) (x:Mem):cj (Fc n x)/\(Fc n x).all SV.one=true:=by
 refine ⟨by simp [Fc,rZ,cE,cj,LF,BZ],?_⟩
 simp only [Fc,rZ,cE,y7,uq,yV,DM,Ew];rfl
theorem adD (n:Nat) (x:Take):cj (ED n x)/\(ED n x).all SV.one=true:=by
 refine ⟨by simp [ED,rZ,cE,cj,LF,BZ],?_⟩
 simp only [ED,rZ,cE,y7,uq,yV,DM,Ew];rfl
theorem aeJ (n:Nat) (x:Pz):cj (Fe n x)/\(Fe n x).all SV.one=true:=by
 refine ⟨by simp [Fe,rZ,cE,cj,LF,BZ],?_⟩
 simp only [Fe,rZ,cE,y7,uq,yV,DM,Ew];rfl
def Il (n:Nat):gx:=⟨Py,Fb n,⟨es,0,0,.mk 0 0 0 [],⟨0,es,0⟩⟩⟩
def Im (n:Nat):gx:=⟨Mem,Fc n,⟨es,0,0,.mk 0 0 0 [],.mk 0 0 0 [],.mk 0 0 0 [],⟨0,es,0⟩⟩⟩
def HS (n:Nat):gx:=⟨Take,ED n,⟨0,0,.mk 0 0 0 []⟩⟩
def Io (n:Nat):gx:=⟨Pz,Fe n,⟨0,0,.mk 0 0 0 [],.mk 0 0 0 []⟩⟩
def el (n m:Nat):TypeId->Option gx
 | 3=>some zr
 | 5=>some WB
 | 4=>some UI
 | 74=>some Vp
 | 35=>some MJ
 | 36=>some adz
 | 133=>some MK
 | 118=>some ML
 | 135=>some UJ
 | 76=>some adA
 | 168=>some UK
 | 9=>some Vq
 | 302=>some SU
 | 307=>some aeG
 | 149=>some (Ob n)
 | 159=>some (Il m)
 | 163=>some (Im m)
 | 154=>some (HS m)
 | 161=>some (Io m)
 | _=>none
theorem rO {η:Nat->Value} {q:Nat->Live} {H:aZ} {x:SV} {r:List SV} {v:Value} {vs:List Value} (h:rel η q H x v) (h':aL η q H r vs):aL η q H (x :: r) (v :: vs):=by
 simp only [aL];exact ⟨_,_,rfl,h,h'⟩
theorem Ms {η:Nat->Value} {q:Nat->Live} {H:aZ}:aL η q H [] []:=by simp [aL]
theorem Bl {η:Nat->Value} {q:Nat->Live} {H:aZ} {T:Type} {sz:Nat} {c:T->List SV} (h:∀x,cj (c x)):rel η q H (.sl sz c (λ_=>[])) (N0):=by
 simp only [rel];exact ⟨⟨none,0,rfl,fN _,.inl (by simp)⟩,h⟩
theorem acw {H:aZ} (n:Nat):rel (λ_=>.nilIface) (λ_=>.un) H (cA n (.mk 0 0 0 [])) (N0):=by
 cases n with
 | zero=>simp [cA,rel]
 | succ n=>exact Bl λy=>(WC n y).1
theorem xb (H:aZ) (n:Nat):dg H (cE n (.mk 0 0 0 [])) [I0,S0,I0,S0,I0,S0,N0]:=by
 refine rO (by simp [rel,Expr.op]) (rO (by simp [rel,es]) (rO (by simp [rel,Expr.k]) (rO (by simp [rel,es]) (rO (by simp [rel,Expr.w]) (rO (by simp [rel,es]) (rO ?_ Ms))))))
 exact acw n
theorem ag8 (H:aZ):dg H (fT []) [N0]:=rO (Bl λy=>(dq y).1) Ms
theorem afC (H:aZ):dg H (zt []) [N0]:=rO (Bl λy=>(qJ y).1) Ms
theorem ag9 (H:aZ):dg H (mF ⟨[],0,0⟩) [N0,I0,I0]:=rO (Bl λy=>(dq y).1) (by simp [aL,rel])
theorem afD (H:aZ):dg H (Ik ⟨[],0,0,0,0⟩) [N0,I0,I0,I0,U0]:=rO (Bl λy=>(dq y).1) (by simp [aL,rel])
theorem aha (H:aZ):dg H (IQ ⟨[],0,0,0⟩) [N0,I0,I0,I0]:=rO (Bl λy=>(K8 y).1) (by simp [aL,rel])
theorem Re (H:aZ):dg H (rZ ⟨0,es,0⟩) [I0,S0,I0]:=by simp [rZ,aL,rel,es]
theorem zE (H:aZ) (n:Nat):dg H ((Ob n).c (Ob n).z) [I0,S0,I0,S0,I0,S0,N0]:=xb H n
theorem aiv (H:aZ) (n:Nat):dg H ((Il n).c (Il n).z) [S0,I0,I0,I0,S0,I0,S0,I0,S0,N0,I0,S0,I0] :=
 gV (gV (s:=[_,_,_]) (v:=[_,_,_]) (by simp [aL,rel,Il,es]) (xb H n)) (Re H)
theorem aiw (H:aZ) (n:Nat):dg H ((Im n).c (Im n).z) [S0,I0,I0,I0,S0,I0,S0,I0,S0,N0,
  I0,S0,I0,S0,I0,S0,N0,I0,S0,I0,S0,I0,S0,N0,I0,S0,I0] :=
 gV (gV (gV (gV (s:=[_,_,_]) (v:=[_,_,_]) (by simp [aL,rel,Im,es]) (xb H n)) (xb H n)) (xb H n)) (Re H)
theorem ahb (H:aZ) (n:Nat):dg H ((HS n).c (HS n).z) [I0,I0,I0,S0,I0,S0,I0,S0,N0] :=
 gV (s:=[_,_]) (v:=[_,_]) (by simp [aL,rel,HS]) (xb H n)
theorem aix (H:aZ) (n:Nat):dg H ((Io n).c (Io n).z) [I0,I0,I0,S0,I0,S0,I0,S0,N0,I0,S0,I0,S0,I0,S0,N0] :=
 gV (gV (s:=[_,_]) (v:=[_,_]) (by simp [aL,rel,Io]) (xb H n)) (xb H n)
theorem M1 {T:TypeId->Option TI} (hT:∀t i,tt t=some i->T t=some i) (n m:Nat) (X:Ctx) (h:X.tt=T) (t:TypeId) (E:gx) (he:el n m t=some E):BS Tryz.prog X t E:=by
 have h1:∀{t i j},tt t=some j->X.tt t=some i->i=j:=λh2 h3=>by rw [h,hT _ _ h2] at h3;cases h3;rfl
 unfold el at he
 split at he
 all_goals cases he
 all_goals
  refine ⟨⟨_,by rw [h];exact hT _ _ rfl⟩,λi hi x=>?_,?_,λi hi H=>?_⟩
  ·cases h1 rfl hi;first|rfl|(cases n<;>rfl)|(cases m<;>rfl)
  ·first|exact dq|exact Ih|exact HI|exact aeE|exact qJ|exact SR|exact rN|exact uu|exact Bz|exact acv|exact adB|exact aeF|exact K8|exact adC|exact WC n|exact aeH m|exact aeI m|exact adD m|exact aeJ m
  ·cases h1 rfl hi;first|exact ag8 H|exact afC H|exact ag9 H|exact afD H|exact aha H|exact zE H n|exact aiv H m|exact aiw H m|exact ahb H m|exact aix H m|(simp [zr,bJ,WB,sE,UI,pe,Vp,Jj,MK,jT,ML,lY,UK,IP,Vq,Jk,SU,Em,aL,rel,Value.cells])
theorem ahc (n m:Nat) (X:Ctx) (h:X.tt=tt) (t:TypeId) (E:gx) (he:el n m t=some E):BS Tryz.prog X t E:=M1 (λ_ _ h=>h) n m X h t E he
theorem mixed:Tryz.prog.follows .mixedOrders=true:=by kernel_rfl
@[reducible] def nA (n m:Nat) (fs:List (Nat × Func)) (sp:List (Nat × Vc.Spec)) (io lp cut row emp:List Nat:=[]):Ctx:=JZ tt (el n m) fs sp io lp cut row emp
theorem n8 (n m:Nat) {fs:List (Nat × Func)} {sp:List (Nat × Vc.Spec)} {io lp cut row emp:List Nat} (hf:u6 (λf fn=>kF (PP ()) f fn/\lV fn=true) fs) (hs:u6 (λf S=>cY (PP ()) f S) sp):CB PP (nA n m fs sp io lp cut row emp):=Ns WA (ahc n m) mixed hf hs
def tf:TypeId->Option TI
 | 180=>some (ti .other 1 8 .nilFunc)
 | 183=>some (ti .other 1 8 .nilFunc)
 | 187=>some (ti .other 1 8 .nilFunc)
 | 194=>some (ti .other 1 8 .nilFunc)
 | 195=>some (ti .other 1 8 .nilFunc)
 | 200=>some (ti .other 1 8 .nilFunc)
 | 268=>some (ti .other 1 8 .nilFunc)
 | 293=>some (ti (.ptr 298) 1 8 (.pointer none))
 | 299=>some (ti .other 1 8 .nilFunc)
 | 303=>some (ti .other 1 8 .nilFunc)
 | 305=>some (ti .other 1 8 .nilFunc)
 | 310=>some (ti .other 1 8 .nilFunc)
 | 313=>some (ti .other 1 8 .nilFunc)
 | 319=>some (ti (.ptr 199) 1 8 (.pointer none))
 | 360=>some (ti .other 1 8 .nilFunc)
 | 406=>some (ti .other 1 8 .nilFunc)
 | 414=>some (ti .other 1 8 .nilFunc)
 | _=>none
theorem ahd:∀t i,tf t=some i->kV Tryz.prog t i:=by
 intro t i h
 unfold tf at h
 split at h
 all_goals cases h
 all_goals exact PB rfl rfl (by kernel_rfl) (by kernel_rfl)
def t2 (t:TypeId):Option TI:=match tt t with
 | some i=>some i
 | none=>tf t
theorem WD:∀t i,t2 t=some i->kV Tryz.prog t i:=by
 intro t i h
 unfold t2 at h
 split at h
 ·rename_i j hj
  cases h
  exact WA t _ hj
 ·exact ahd t i h
theorem afE (n m:Nat) (X:Ctx) (h:X.tt=t2) (t:TypeId) (E:gx) (he:el n m t=some E):BS Tryz.prog X t E:=M1 (λt i h=>by unfold t2;rw [h]) n m X h t E he
@[reducible] def fm (n m:Nat) (fs:List (Nat × Func)) (sp:List (Nat × Vc.Spec)) (io lp cut row emp:List Nat:=[]):Ctx:=JZ t2 (el n m) fs sp io lp cut row emp
theorem fu (n m:Nat) {fs:List (Nat × Func)} {sp:List (Nat × Vc.Spec)} {io lp cut row emp:List Nat} (hf:u6 (λf fn=>kF (PP ()) f fn/\lV fn=true) fs) (hs:u6 (λf S=>cY (PP ()) f S) sp):CB PP (fm n m fs sp io lp cut row emp):=Ns WD (afE n m) mixed hf hs
def tm:TypeId->Option TI
 | 320=>some (ti (.ptr 324) 1 8 (.pointer none))
 | 324=>some (ti (.st [(48,0,4),(35,4,1),(113,5,1),(36,6,1)]) 7 168 (.agg #[N0,N0,N0,N0,N0,N0,N0]))
 | 383=>some (ti (.arr 4 3) 4 32 (.agg #[I0,I0,I0,I0]))
 | 203=>some (ti (.arr 5 5) 5 5 (.agg #[Y0,Y0,Y0,Y0,Y0]))
 | 204=>some (ti (.arr 4 5) 4 4 (.agg #[Y0,Y0,Y0,Y0]))
 | 82=>some (tS 203)
 | 83=>some (tS 204)
 | 85=>some (ti (.st [(22,0,1),(82,1,1),(83,2,1)]) 3 72 (.agg #[N0,N0,N0]))
 | _=>none
theorem ahe:∀t i,tm t=some i->kV Tryz.prog t i:=by
 intro t i h
 unfold tm at h
 split at h
 all_goals cases h
 all_goals exact PB rfl rfl (by kernel_rfl) (by kernel_rfl)
def t3 (t:TypeId):Option TI:=match t2 t with
 | some i=>some i
 | none=>tm t
theorem ahf:∀t i,t3 t=some i->kV Tryz.prog t i:=by
 intro t i h
 unfold t3 at h
 split at h
 ·rename_i j hj
  cases h
  exact WD t _ hj
 ·exact ahe t i h
structure B5 where
 a:Int
 b:Int
 c:Int
 d:Int
 e:Int
structure B4 where
 a:Int
 b:Int
 c:Int
 d:Int
def vd (x:B5):List SV:=[.i .u8 λ_=>x.a,.i .u8 λ_=>x.b,.i .u8 λ_=>x.c,.i .u8 λ_=>x.d,.i .u8 λ_=>x.e]
def ve (x:B4):List SV:=[.i .u8 λ_=>x.a,.i .u8 λ_=>x.b,.i .u8 λ_=>x.c,.i .u8 λ_=>x.d]
theorem Ip (x:B5):cj (vd x)/\(vd x).all SV.one=true:=⟨⟨trivial,trivial,trivial,trivial,trivial,trivial⟩,rfl⟩
theorem Iq (x:B4):cj (ve x)/\(ve x).all SV.one=true:=⟨⟨trivial,trivial,trivial,trivial,trivial⟩,rfl⟩
def WE:gx:=⟨B5,vd,⟨0,0,0,0,0⟩⟩
def WG:gx:=⟨B4,ve,⟨0,0,0,0⟩⟩
def PC (n m:Nat):TypeId->Option gx
 | 203=>some WE
 | 204=>some WG
 | t=>el n m t
theorem afF (n m:Nat) (X:Ctx) (h:X.tt=t3) (t:TypeId) (E:gx) (he:PC n m t=some E):BS Tryz.prog X t E:=by
 unfold PC at he
 split at he
 ·cases he
  exact ⟨⟨_,by rw [h];rfl⟩,λi hi x=>by rw [h] at hi;cases hi;rfl,Ip,λi hi H=>by rw [h] at hi;cases hi;simp [WE,vd,aL,rel,Value.cells]⟩
 ·cases he
  exact ⟨⟨_,by rw [h];rfl⟩,λi hi x=>by rw [h] at hi;cases hi;rfl,Iq,λi hi H=>by rw [h] at hi;cases hi;simp [WG,ve,aL,rel,Value.cells]⟩
 ·exact M1 (λt i h=>by unfold t3 t2;rw [h]) n m X h t E he
@[reducible] def cW (n m:Nat) (fs:List (Nat × Func)) (sp:List (Nat × Vc.Spec)) (io lp cut row emp:List Nat:=[]):Ctx:=JZ t3 (PC n m) fs sp io lp cut row emp
theorem cZ (n m:Nat) {fs:List (Nat × Func)} {sp:List (Nat × Vc.Spec)} {io lp cut row emp:List Nat} (hf:u6 (λf fn=>kF (PP ()) f fn/\lV fn=true) fs) (hs:u6 (λf S=>cY (PP ()) f S) sp):CB PP (cW n m fs sp io lp cut row emp):=Ns ahf (afF n m) mixed hf hs
theorem eh {i:Nat} (h:i < 4611686018427387904):IntKind.i64.wrap ((i:Int)+1)=((i+1:Nat):Int):=by rw [dV (by omega) (by omega)];rfl
theorem n0 (i:Nat):(0:Int)<=(i:Int):=Lt _
theorem cg {α:Type} {l:List α} {i:Nat} (h:i < l.length):∃x,l[i]?=some x:=⟨_,eG h⟩
def oj (n:Net):List SV:=[.sl 3 jT (λ_=>n.ins),.sl 5 lY (λ_=>n.cq),.sl 3 jT (λ_=>n.outs),.sl 1 bJ (λ_=>n.bA)]
theorem rQ (n:Net):cj (oj n):=⟨λx=>(rN x).1,λx=>(uu x).1,λx=>(rN x).1,λx=>(dq x).1,trivial⟩
def vN (n:Net):Int:=2+n.ins.length+n.cq.length
@[reducible] noncomputable def Xv:Vc.Spec where
 α:=Net
 args n:=[.agg (oj n)]
 pre n:=n.ins.length<=1000/\n.cq.length<=1000
 res n:=.i .i64 (λ_=>vN n)
noncomputable def cM0 (n m:Nat):Ctx:=cW n m [] []
theorem pf (n m:Nat):CB PP (cM0 n m):=cZ n m trivial trivial
theorem afG:cY (PP ()) 261 Xv:=by
 refine e6 (pf 0 0) (fo Tryz.func261) (λn=>⟨rQ n,trivial⟩) (λn=>trivial) ?_
 rintro ⟨ins,gs,outs,dr⟩ ⟨h1,h2⟩
 have h1:ins.length<=1000:=h1
 have h2:gs.length<=1000:=h2
 have hw:IntKind.i64.wrap (2+(ins.length:Int))=2+ins.length:=dV (by omega) (by omega)
 have hv:IntKind.i64.wrap (IntKind.i64.wrap (2+(ins.length:Int))+gs.length)=vN ⟨ins,gs,outs,dr⟩:=by rw [hw,dV (by omega) (by omega)];rfl
 refine ⟨?_⟩
 cbv
 exact ⟨by have bK:=hv;exact bM⟩
def pT (n:Net) (v:Int):Gate × Bool:=match gI n.ins.length n.cq v.toNat with
 | some g=>if g.op=7 then (⟨0,0,0,0,0⟩,false) else (g,true)
 | none=>(⟨0,0,0,0,0⟩,false)
structure ahg where
 n:Net
 v:Int
 g:Gate
 b:Bool
@[reducible] noncomputable def Oc:Vc.Spec where
 α:=ahg
 args x:=[.agg (oj x.n),.i .i64 (λ_=>x.v)]
 pre x:=x.n.ins.length<=1000/\x.n.cq.length<=1000/\0<=x.v/\x.v < vN x.n/\pT x.n x.v=(x.g,x.b)
 res x:=.cd [.agg (lY x.g),.b (λ_=>x.b)]
theorem Vr:cY (PP ()) 243 Oc:=by
 refine e6 (pf 0 0) (fo Tryz.func243) (λx=>⟨rQ x.n,trivial,trivial⟩) (λx=>⟨(uu _).1,trivial,trivial⟩) ?_
 rintro ⟨⟨ins,gs,outs,dr⟩,v,⟨o,a,b,c,d⟩,B⟩ ⟨h1,h2,h3,h4,h5⟩
 have h1:ins.length<=1000:=h1
 have h2:gs.length<=1000:=h2
 have h3:0<=v:=h3
 have h4:v < 2+(ins.length:Int)+gs.length:=h4
 have hw:IntKind.i64.wrap (IntKind.i64.wrap (v - 2) - ins.length)=v - 2 - ins.length:=by rw [dV (n:=v - 2) (by omega) (by omega),dV (by omega) (by omega)]
 have dC:v < 2+(ins.length:Int)->(⟨o,a,b,c,d⟩:Gate)=⟨0,0,0,0,0⟩/\B=false:=λh=>by
  have h5:pT ⟨ins,gs,outs,dr⟩ v=(⟨o,a,b,c,d⟩,B):=h5
  unfold pT gI at h5;rw [if_pos (by show v.toNat < 2+ins.length;omega)] at h5;cases h5;exact ⟨rfl,rfl⟩
 have bV:∀g,2+(ins.length:Int)<=v->gs[(IntKind.i64.wrap (IntKind.i64.wrap (v - 2) - ins.length)).toNat]?=some g->(if g.op=7 then ((⟨0,0,0,0,0⟩,false):Gate × Bool) else (g,true))=(⟨o,a,b,c,d⟩,B):=λg h hg=>by
  have h5:pT ⟨ins,gs,outs,dr⟩ v=(⟨o,a,b,c,d⟩,B):=h5
  unfold pT gI at h5
  rw [if_neg (by show ¬v.toNat < 2+ins.length;omega)] at h5
  rw [hw,show (v - 2 - (ins.length:Int)).toNat=v.toNat - 2 - ins.length by omega] at hg
  simp only [hg] at h5
  exact h5
 clear h5
 have x8:0<=IntKind.i64.wrap (IntKind.i64.wrap (v - 2) - ins.length)->2+(ins.length:Int)<=v/\(IntKind.i64.wrap (IntKind.i64.wrap (v - 2) - ins.length)).toNat < gs.length:=λh=>by rw [hw] at h ⊢;omega
 refine ⟨?_⟩
 cbv
 refine ⟨λh=>?_,λh=>?_⟩
 ·have aP:IntKind.i64.wrap (IntKind.i64.wrap (v - 2) - ins.length) < 0:=aG
  rw [hw] at aP
  obtain ⟨e,rfl⟩:=dC (by omega)
  cases e
  cbv
  exact ⟨by exact a8⟩
 ·have aP:0<=IntKind.i64.wrap (IntKind.i64.wrap (v - 2) - ins.length):=aG
  refine (cg (x8 aP).2).elim λg hg=>?_
  have kH:=bV g (x8 aP).1 hg
  cbv
  refine ⟨g,⟨aP,hg⟩,?_⟩
  cbv
  refine ⟨λh=>?_,λh=>?_⟩
  ·have h7:g.op=7:=aG
   rw [if_pos h7] at kH
   cases kH
   cbv
   exact ⟨by exact a8⟩
  ·have h7:¬g.op=7:=aG
   rw [if_neg h7] at kH
   cases kH
   cbv
   refine ⟨_,⟨aP,hg⟩,?_⟩
   cbv
   exact ⟨by exact a8⟩
structure aiy where
 g:Gate
 l:List Int
@[reducible] noncomputable def Xw:Vc.Spec where
 α:=aiy
 args x:=[.agg (lY x.g)]
 pre x:=cH x.g=x.l
 res x:=.sl 1 bJ (λ_=>x.l)
theorem aeK {o a b c d:Int}:(o=1->cH ⟨o,a,b,c,d⟩=[a])/\(¬o=1->o=2\/o=3\/o=4->cH ⟨o,a,b,c,d⟩=[a,b])/\(¬o=1->¬o=2->¬o=3->¬o=4->cH ⟨o,a,b,c,d⟩=[a,b,c]):=by
 refine ⟨λh=>?_,λh k=>?_,λh k1 k2 k3=>?_⟩<;>simp [cH,kq, *]
theorem afH:cY (PP ()) 264 Xw:=by
 refine e6 (pf 0 0) (fo Tryz.func264) (λx=>⟨(uu _).1,trivial⟩) (λx=>(λy=>(dq y).1)) ?_
 rintro ⟨⟨o,a,b,c,d⟩,l⟩ hx
 have hx:cH ⟨o,a,b,c,d⟩=l:=hx
 obtain ⟨q1,q2,q3⟩:=aeK (o:=o) (a:=a) (b:=b) (c:=c) (d:=d)
 rw [hx] at q1 q2 q3
 clear hx
 refine ⟨?_⟩
 cbv
 refine ⟨λh=>?_,λh=>?_⟩
 ·have h1:o=1:=aG
  have e:=q1 h1
  subst e
  cbv
  exact ⟨by exact a8⟩
 have h1:¬o=1:=aG
 clear h q1
 cbv
 refine ⟨λh=>?_,λh=>?_⟩
 ·have h2:o=2:=aG
  have e:=q2 h1 (.inl h2)
  subst e
  cbv
  exact ⟨by exact a8⟩
 have h2:¬o=2:=aG
 clear h
 cbv
 refine ⟨λh=>?_,λh=>?_⟩
 ·have h2:o=3:=aG
  have e:=q2 h1 (.inr (.inl h2))
  subst e
  cbv
  exact ⟨by exact a8⟩
 have h3:¬o=3:=aG
 clear h
 cbv
 refine ⟨λh=>?_,λh=>?_⟩
 ·have h2:o=4:=aG
  have e:=q2 h1 (.inr (.inr h2))
  subst e
  cbv
  exact ⟨by exact a8⟩
 have h4:¬o=4:=aG
 have e:=q3 h1 h2 h3 h4
 subst e
 cbv
 exact ⟨by exact a8⟩
@[reducible] noncomputable def Xx:Vc.Spec where
 α:=Int
 args x:=[.i .i64 (λ_=>x)]
 pre x:=True
 res x:=.i .i64 (λ_=>((kq x:Nat):Int))
theorem afI:cY (PP ()) 240 Xx:=by
 refine e6 (pf 0 0) (fo Tryz.func240) (λx=>⟨trivial,trivial⟩) (λx=>trivial) ?_
 intro o _
 have q1:o=1->(1:Int)=((kq o:Nat):Int):=λh=>by simp [kq,h]
 have q2:¬o=1->o=2\/o=3\/o=4->(2:Int)=((kq o:Nat):Int):=λh k=>by simp [kq,h,k]
 have q3:¬o=1->¬o=2->¬o=3->¬o=4->(3:Int)=((kq o:Nat):Int):=λh k1 k2 k3=>by simp [kq, *]
 refine ⟨?_⟩
 cbv
 refine ⟨λh=>?_,λh=>?_⟩
 ·have h1:o=1:=aG
  have e:=q1 h1
  exact ⟨by exact a8⟩
 have h1:¬o=1:=aG
 clear h q1
 cbv
 refine ⟨λh=>?_,λh=>?_⟩
 ·have h2:o=2:=aG
  have e:=q2 h1 (.inl h2)
  cbv
  exact ⟨by exact a8⟩
 have h2:¬o=2:=aG
 clear h
 cbv
 refine ⟨λh=>?_,λh=>?_⟩
 ·have h2:o=3:=aG
  have e:=q2 h1 (.inr (.inl h2))
  cbv
  exact ⟨by exact a8⟩
 have h3:¬o=3:=aG
 clear h
 cbv
 refine ⟨λh=>?_,λh=>?_⟩
 ·have h2:o=4:=aG
  have e:=q2 h1 (.inr (.inr h2))
  cbv
  exact ⟨by exact a8⟩
 have h4:¬o=4:=aG
 have e:=q3 h1 h2 h3 h4
 cbv
 exact ⟨by exact a8⟩
theorem acx (o:Int):kq o<=3:=by
 unfold kq
 split
 ·omega
 ·split<;>omega
@[reducible] noncomputable def Jl:Vc.Spec where
 α:=Gate
 args g:=[.agg (lY g)]
 pre g:=True
 res g:=.sl 1 bJ (λ_=>cH g)
noncomputable def cM1 (n m:Nat):Ctx:=cW n m [] [(240,Xx)]
theorem ahh (n m:Nat):CB PP (cM1 n m):=cZ n m trivial ⟨afI,trivial⟩
theorem M3:cY (PP ()) 186 Jl:=by
 refine e6 (ahh 0 0) (fo Tryz.func186) (λx=>⟨(uu _).1,trivial⟩) (λx=>(λy=>(dq y).1)) ?_
 rintro ⟨o,a,b,c,d⟩ _
 have hk:=acx o
 have hn:(0:Int)<=0/\(0:Int)<=((kq o:Nat):Int)/\((kq o:Nat):Int)<=3:=by omega
 have hl:(([a,b,c]:List Int).take (((kq o:Nat):Int)).toNat).drop (0:Int).toNat=cH ⟨o,a,b,c,d⟩:=by rw [iS];rfl
 refine ⟨?_⟩
 cbv
 refine ⟨o,⟨by exact a8,trivial⟩,?_⟩
 cbv
 refine ⟨[a,b,c],⟨⟨rfl,by exact e9,hn⟩,?_⟩⟩
 cbv
 exact ⟨by have iJ:=hl;exact bM⟩
theorem lt4 {j:Nat} (h:j < 4):j=0\/j=1\/j=2\/j=3:=by omega
@[reducible] noncomputable def Xy:Vc.Spec where
 α:=Nat
 args j:=[.i .i64 (λ_=>(j:Int))]
 pre j:=j < 4
 res j:=.i .i64 (λ_=>ux j)
theorem afJ:cY (PP ()) 242 Xy:=by
 refine e6 (pf 0 0) (fo Tryz.func242) (λx=>⟨trivial,trivial⟩) (λx=>trivial) ?_
 intro j hj
 have hj:(j:Nat) < 4:=hj
 rcases lt4 hj with rfl|rfl|rfl|rfl
 ·have e:(43690:Int)=ux 0:=rfl
  refine ⟨?_⟩
  cbv
  refine ⟨0,⟨rfl,by decide,rfl⟩,?_⟩
  cbv
  exact ⟨by exact a8⟩
 ·have e:(52428:Int)=ux 1:=rfl
  refine ⟨?_⟩
  cbv
  refine ⟨1,⟨rfl,by decide,rfl⟩,?_⟩
  cbv
  exact ⟨by exact a8⟩
 ·have e:(61680:Int)=ux 2:=rfl
  refine ⟨?_⟩
  cbv
  refine ⟨2,⟨rfl,by decide,rfl⟩,?_⟩
  cbv
  exact ⟨by exact a8⟩
 ·have e:(65280:Int)=ux 3:=rfl
  refine ⟨?_⟩
  cbv
  refine ⟨3,⟨rfl,by decide,rfl⟩,?_⟩
  cbv
  exact ⟨by exact a8⟩
structure aiz where
 op:Int
 a:Int
 b:Int
 c:Int
 r:Int
@[reducible] noncomputable def Xz:Vc.Spec where
 α:=aiz
 args x:=[.i .i64 (λ_=>x.op),.i .i64 (λ_=>x.a),.i .i64 (λ_=>x.b),.i .i64 (λ_=>x.c)]
 pre x:=combineM x.op x.a x.b x.c=x.r
 res x:=.i .i64 (λ_=>x.r)
theorem afK:cY (PP ()) 244 Xz:=by
 refine e6 (pf 0 0) (fo Tryz.func244) (λx=>⟨trivial,trivial,trivial,trivial,trivial⟩) (λx=>trivial) ?_
 rintro ⟨o,a,b,c,R⟩ hx
 have hx:combineM o a b c=R:=hx
 have q1:o=1->fH .xor .i64 (-1) a=R:=λh=>by rw [<-hx];simp [combineM,h,Cm]
 have q2:o=2->fH .and .i64 a b=R:=λh=>by rw [<-hx];simp [combineM,h,tC]
 have q3:o=3->fH .or .i64 a b=R:=λh=>by rw [<-hx];simp [combineM,h,Ax]
 have q4:o=4->fH .xor .i64 a b=R:=λh=>by rw [<-hx];simp [combineM,h,Cm]
 have q5:o=5->fH .or .i64 (fH .and .i64 a b) (fH .and .i64 (fH .xor .i64 (-1) a) c)=R:=λh=>by rw [<-hx];simp [combineM,h,Ax,tC,Cm]
 have q6:¬o=1->¬o=2->¬o=3->¬o=4->¬o=5->fH .or .i64 (fH .or .i64 (fH .and .i64 a b) (fH .and .i64 a c)) (fH .and .i64 b c)=R:=λk1 k2 k3 k4 k5=>by rw [<-hx];simp [combineM, *,Ax,tC]
 clear hx
 refine ⟨?_⟩
 cbv
 refine ⟨λh=>?_,λh=>?_⟩
 ·have e:=q1 aG
  cbv
  exact ⟨by exact a8⟩
 have n1:¬o=1:=aG
 clear h q1
 cbv
 refine ⟨λh=>?_,λh=>?_⟩
 ·have e:=q2 aG
  cbv
  exact ⟨by exact a8⟩
 have n2:¬o=2:=aG
 clear h q2
 cbv
 refine ⟨λh=>?_,λh=>?_⟩
 ·have e:=q3 aG
  cbv
  exact ⟨by exact a8⟩
 have n3:¬o=3:=aG
 clear h q3
 cbv
 refine ⟨λh=>?_,λh=>?_⟩
 ·have e:=q4 aG
  cbv
  exact ⟨by exact a8⟩
 have n4:¬o=4:=aG
 clear h q4
 cbv
 refine ⟨λh=>?_,λh=>?_⟩
 ·have e:=q5 aG
  cbv
  exact ⟨by exact a8⟩
 have n5:¬o=5:=aG
 clear h q5
 have e:=q6 n1 n2 n3 n4 n5
 cbv
 exact ⟨by exact a8⟩
structure LV where
 l:List Int
 v:Int
def z8 (l:List Int) (v:Int):Int:=match l.findIdx? (λx=>decide (x=v)) with
 | some i=>i
 | none=>-1
theorem aeL {l:List Int} {v:Int} {i:Nat} (h:∀j,j < i->∀x,l[j]?=some x->¬v=x) (hi:l[i]?=some v):(i:Int)=z8 l v:=by
 unfold z8
 obtain ⟨hl,e⟩:=bf.1 hi
 have:l.findIdx? (λx=>decide (x=v))=some i:=by
  rw [DU]
  refine ⟨hl,by simpa using e,λj hj=>?_⟩
  have:=h j hj _ (eG (by omega))
  simp;exact λe=>this e.symm
 rw [this]
theorem aeM {l:List Int} {v:Int} (h:∀j,j < l.length->∀x,l[j]?=some x->¬v=x):(-1:Int)=z8 l v:=by
 unfold z8
 have:l.findIdx? (λx=>decide (x=v))=none:=by
  rw [Bp]
  intro x hx
  obtain ⟨j,hj⟩:=qG hx
  have:=h j (bf.1 hj).1 x hj
  simp;exact λe=>this e.symm
 rw [this]
theorem aaX (l:List Int) (v:Int):iG 0 (z8 l v)=l.contains v:=by
 unfold z8 iG
 cases h:l.findIdx? (λx=>decide (x=v)) with
 | none =>
  rw [Bp] at h
  have:v∉l:=λhm=>by have:=h v hm;simp at this
  simp [this]
 | some i =>
  rw [DU] at h
  obtain ⟨hl,hp,_⟩:=h
  simp at hp
  have:v∈l:=hp ▸ Lz hl
  simp [this]
@[reducible] noncomputable def WH:Vc.Spec where
 α:=LV
 args x:=[.sl 1 bJ (λ_=>x.l),.i .i64 (λ_=>x.v)]
 pre x:=x.l.length<=1000000000000
 res x:=.i .i64 (λ_=>z8 x.l x.v)
theorem aeN:cY (PP ()) 276 WH:=by
 refine e6 (pf 0 0) (fo Tryz.func276) (λa=>⟨λx=>(dq x).1,trivial,trivial⟩) (λa=>trivial) ?_
 rintro ⟨l,v⟩ hx
 have hl:l.length<=1000000000000:=hx
 refine ⟨?_⟩
 cbv
 refine Sat.dP (pf 0 0) 0 5 [] (λi:Nat=>[(6,.sl 1 bJ (λ_=>l)),(7,.i .i64 (λ_=>(l.length:Int))),(8,.i .i64 λ_=>(i:Int))]) (λ_=>[]) (λi=>i<=l.length/\∀j,j < i->∀x,l[j]?=some x->¬v=x) (λi=>l.length - i) 0 (by exact aW) (by exact aW) ⟨cI _,λj h=>absurd h (s5 _)⟩ ?_
 rintro i ⟨hi,dC⟩
 have hi:i<=l.length:=hi
 have h0:=n0 i
 have h1:=eh (i:=i) (by omega)
 cbv
 refine ⟨λh=>?_,λh=>?_⟩
 ·have bO:i < l.length:=aG
  have cf:l.length - (i+1) < l.length - i:=by omega
  refine (cg bO).elim λx hx=>?_
  cbv
  refine ⟨x,⟨h0,hx⟩,?_⟩
  cbv
  refine ⟨λh=>?_,λh=>?_⟩
  ·have e:v=x:=aG
   have hr:=aeL dC (e ▸ hx)
   cbv
   exact ⟨by have bK:=hr;exact bM⟩
  ·have bR:¬v=x:=aG
   have cb:i+1<=l.length/\∀j,j < i+1->∀x,l[j]?=some x->¬v=x:=⟨bO,λj hj y hy=>by
    by_cases ra:j=i
    ·subst ra;rw [hx] at hy;cases hy;exact bR
    ·exact dC j (by omega) y hy⟩
   cbv
   exact ⟨i+1,by exact aW,by exact aW,⟨⟨cb,cf⟩⟩⟩
 ·have bV:¬i < l.length:=by have h:l.length<=i:=aG;omega
  have hr:=aeM (l:=l) (v:=v) λj hj=>dC j (by omega)
  cbv
  exact ⟨by have fW:=hr;exact bM⟩
@[reducible] noncomputable def IS:Vc.Spec where
 α:=LV
 args x:=[.sl 1 bJ (λ_=>x.l),.i .i64 (λ_=>x.v)]
 pre x:=x.l.length<=1000000000000
 res x:=.b (λ_=>x.l.contains x.v)
noncomputable def cMc (n m:Nat):Ctx:=cW n m [] [(276,WH)]
theorem ahi (n m:Nat):CB PP (cMc n m):=cZ n m trivial ⟨aeN,trivial⟩
theorem MM:cY (PP ()) 263 IS:=by
 refine e6 (ahi 0 0) (fo Tryz.func263) (λa=>⟨λx=>(dq x).1,trivial,trivial⟩) (λa=>trivial) ?_
 rintro ⟨l,v⟩ hx
 have hl:l.length<=1000000000000:=hx
 have hr:=aaX l v
 refine ⟨?_⟩
 cbv
 refine ⟨⟨l,v⟩,⟨by exact a8,hl⟩,?_⟩
 cbv
 exact ⟨by have ny:=hr;exact bM⟩
structure L2 where
 a:List Int
 b:List Int
@[reducible] noncomputable def Od:Vc.Spec where
 α:=L2
 args x:=[.sl 1 bJ (λ_=>x.a),.sl 1 bJ (λ_=>x.b)]
 pre x:=x.a.length<=1000000000000/\x.b.length<=1000000000000
 res x:=.b (λ_=>decide (x.a=x.b))
theorem Vs:cY (PP ()) 96 Od:=by
 refine e6 (pf 0 0) (fo Tryz.func96) (λa=>⟨λx=>(dq x).1,λx=>(dq x).1,trivial⟩) (λa=>trivial) ?_
 rintro ⟨a,b⟩ hx
 obtain ⟨ha,hb⟩:a.length<=1000000000000/\b.length<=1000000000000:=hx
 refine ⟨?_⟩
 cbv
 refine ⟨λh=>?_,λh=>?_⟩
 ·have bR:¬(a.length:Int)=b.length:=aG
  have hr:false=decide (a=b):=by rw [eq_comm,decide_eq_false_iff_not];rintro rfl;exact bR rfl
  cbv
  exact ⟨by have eV:=hr;exact bM⟩
 have gy:(a.length:Int)=b.length:=aG
 have gy:a.length=b.length:=by omega
 clear h
 cbv
 refine Sat.dP (pf 0 0) 0 5 [] (λi:Nat=>[(12,.i .i64 (λ_=>(a.length:Int))),(13,.i .i64 λ_=>(i:Int))]) (λ_=>[]) (λi=>i<=a.length/\a.take i=b.take i) (λi=>a.length - i) 0 (by exact aW) (by exact aW) ⟨cI _,by simp⟩ ?_
 rintro i ⟨hi,he⟩
 have hi:i<=a.length:=hi
 have he:a.take i=b.take i:=he
 have h0:=n0 i
 have h1:=eh (i:=i) (by omega)
 cbv
 refine ⟨λh=>?_,λh=>?_⟩
 ·have bO:i < a.length:=aG
  have cf:a.length - (i+1) < a.length - i:=by omega
  refine (cg bO).elim λx hx=>?_
  refine (cg (show i < b.length by omega)).elim λy hy=>?_
  cbv
  refine ⟨x,⟨h0,hx⟩,?_⟩
  cbv
  refine ⟨y,⟨h0,hy⟩,?_⟩
  cbv
  refine ⟨λh=>?_,λh=>?_⟩
  ·have bR:¬x=y:=aG
   have hr:false=decide (a=b):=by rw [eq_comm,decide_eq_false_iff_not];rintro rfl;rw [hx] at hy;cases hy;exact bR rfl
   cbv
   exact ⟨by have eV:=hr;exact bM⟩
  ·have e:x=y:=aG
   have cb:i+1<=a.length/\a.take (i+1)=b.take (i+1):=⟨bO,by rw [iT,iT,hx,hy,he,e]⟩
   cbv
   exact ⟨i+1,by exact aW,by exact aW,⟨⟨cb,cf⟩⟩⟩
 ·have bV:a.length<=i:=aG
  have hr:true=decide (a=b):=by
   rw [eq_comm,decide_eq_true_eq]
   rw [iM (by omega),iM (by omega)] at he
   exact he
  cbv
  exact ⟨by have eV:=hr;exact bM⟩
@[reducible] noncomputable def XA:Vc.Spec where
 α:=Int
 args x:=[.i .i64 (λ_=>x)]
 pre x:=True
 res x:=.b (λ_=>false)
theorem afM:cY (PP ()) 189 XA:=by
 refine e6 (pf 0 0) (fo Tryz.func189) (λx=>⟨trivial,trivial⟩) (λx=>trivial) ?_
 intro x _
 have e:(!ga x x)=false:=by simp [ga]
 refine ⟨?_⟩
 cbv
 exact ⟨by have ny:=e;exact bM⟩
def p9 (a b:Int):Int:=if a < b then -1 else if b < a then 1 else 0
structure AB where
 a:Int
 b:Int
@[reducible] noncomputable def Nu:Vc.Spec where
 α:=AB
 args x:=[.i .i64 (λ_=>x.a),.i .i64 (λ_=>x.b)]
 pre x:=True
 res x:=.i .i64 (λ_=>p9 x.a x.b)
noncomputable def aiF (n m:Nat):Ctx:=cW n m [] [(189,XA)]
theorem afN (n m:Nat):CB PP (aiF n m):=cZ n m trivial ⟨afM,trivial⟩
theorem UL:cY (PP ()) 130 Nu:=by
 refine e6 (afN 0 0) (fo Tryz.func130) (λx=>⟨trivial,trivial,trivial⟩) (λx=>trivial) ?_
 rintro ⟨a,b⟩ _
 have q1:a < b->(-1:Int)=p9 a b:=λh=>by simp [p9,h]
 have q2:b<=a->b < a->(1:Int)=p9 a b:=λk h=>by unfold p9;rw [if_neg (by omega),if_pos h]
 have q3:b<=a->a<=b->(0:Int)=p9 a b:=λk h=>by unfold p9;rw [if_neg (by omega),if_neg (by omega)]
 refine ⟨?_⟩
 cbv
 refine ⟨a,⟨by exact a8,trivial⟩,?_⟩
 cbv
 refine ⟨b,⟨by exact a8,trivial⟩,?_⟩
 cbv
 refine ⟨λh=>(by have:=h.out;cases this),λh=>?_⟩
 clear h
 cbv
 refine ⟨λh=>(by have:=h.out;cases this),λh=>?_⟩
 clear h
 cbv
 refine ⟨λh=>?_,λh=>?_⟩
 ·have e:=q1 aG
  cbv
  exact ⟨by have fW:=e;exact bM⟩
 have n1:b<=a:=aG
 clear h
 cbv
 refine ⟨λh=>?_,λh=>?_⟩
 ·have e:=q2 n1 aG
  cbv
  exact ⟨by have fW:=e;exact bM⟩
 have e:=q3 n1 aG
 cbv
 exact ⟨by have fW:=e;exact bM⟩
def vf:List Int->Int
 | []=>0
 | x :: r=>if x=0 then vf r else x
theorem afO {l:List Int} {x:Int} (hx:¬x=0):∀{i:Nat},l[i]?=some x->(∀j y,j < i->l[j]?=some y->y=0)->x=vf l:=by
 induction l with
 | nil=>intro i h;simp at h
 | cons y r ih =>
  intro i h k
  unfold vf
  cases i with
  | zero=>simp at h;subst h;rw [if_neg hx]
  | succ i=>rw [if_pos (k 0 y (by omega) rfl)];exact ih (by simpa using h) λj z hj hz=>k (j+1) z (by omega) (by simpa using hz)
theorem Vt:∀{l:List Int},(∀(j:Nat) (y:Int),l[j]?=some y->y=0)->(0:Int)=vf l
 | [],_=>rfl
 | x :: r,k=>by unfold vf;rw [if_pos (k 0 x rfl)];exact Vt λj y hy=>k (j+1) y (by simpa using hy)
@[reducible] noncomputable def XB:Vc.Spec where
 α:=List Int
 args l:=[.sl 1 bJ (λ_=>l)]
 pre l:=l.length<=1000000
 res l:=.i .i64 (λ_=>vf l)
theorem afP:cY (PP ()) 274 XB:=by
 refine e6 (pf 0 0) (fo Tryz.func274) (λa=>⟨λx=>(dq x).1,trivial⟩) (λa=>trivial) ?_
 intro l hx
 have hl:l.length<=1000000:=hx
 refine ⟨?_⟩
 cbv
 refine Sat.dP (pf 0 0) 0 5 [] (λi:Nat=>[(6,.sl 1 bJ (λ_=>l)),(7,.i .i64 (λ_=>(l.length:Int))),(8,.i .i64 λ_=>(i:Int))]) (λ_=>[]) (λi=>i<=l.length/\∀j y,j < i->l[j]?=some y->y=0) (λi=>l.length - i) 0 (by exact aW) (by exact aW) ⟨cI _,λj y h=>absurd h (s5 _)⟩ ?_
 rintro i ⟨hi,dC⟩
 have hi:i<=l.length:=hi
 have h0:=n0 i
 have h1:=eh (i:=i) (by omega)
 cbv
 refine ⟨λh=>?_,λh=>?_⟩
 ·have bO:i < l.length:=aG
  have cf:l.length - (i+1) < l.length - i:=by omega
  refine (cg bO).elim λx hx=>?_
  cbv
  refine ⟨x,⟨h0,hx⟩,?_⟩
  cbv
  refine ⟨λh=>?_,λh=>?_⟩
  ·have bR:¬x=0:=aG
   have hr:=afO bR hx dC
   cbv
   exact ⟨by have bK:=hr;exact bM⟩
  ·have e:x=0:=aG
   have cb:i+1<=l.length/\∀j y,j < i+1->l[j]?=some y->y=0:=⟨bO,λj y hj hy=>by
    by_cases ra:j=i
    ·subst ra;rw [hx] at hy;cases hy;exact e
    ·exact dC j y (by omega) hy⟩
   cbv
   exact ⟨i+1,by exact aW,by exact aW,⟨⟨cb,cf⟩⟩⟩
 ·have bV:l.length<=i:=aG
  have hr:=Vt (l:=l) λj y hy=>dC j y (by have:=(bf.1 hy).1;omega) hy
  cbv
  exact ⟨by have fW:=hr;exact bM⟩
@[reducible] noncomputable def XC:Vc.Spec where
 α:=L2
 args x:=[.sl 1 bJ (λ_=>x.a),.sl 1 bJ (λ_=>x.b)]
 pre x:=x.a.length<=1000000/\x.b.length<=1000000
 res x:=.i .i64 (λ_=>fG x.a x.b)
theorem acz {a b:List Int} {i:Nat} {x:Int} (hx:a[i]?=some x) (h:fG (a.drop i) (b.drop i)=fG a b):(b.length<=i->(1:Int)=fG a b)/\∀y,b[i]?=some y->(¬p9 x y=0->p9 x y=fG a b)/\(p9 x y=0->fG (a.drop (i+1)) (b.drop (i+1))=fG a b):=by
 obtain ⟨bO,hx⟩:=bf.1 hx
 rw [rH bO,hx] at h
 refine ⟨λhb=>?_,λy hy=>?_⟩
 ·rw [Hf hb] at h
  rw [<-h];rfl
 ·obtain ⟨je,hy⟩:=bf.1 hy
  rw [rH je,hy] at h
  rw [<-h]
  have e:∀A B:List Int,fG (x :: A) (y :: B)=if x < y then -1 else if y < x then 1 else fG A B:=λ_ _=>rfl
  rw [e]
  unfold p9
  by_cases h1:x < y
  ·simp [h1]
  ·by_cases h2:y < x
   ·simp [h1,h2]
   ·simp [h1,h2]
theorem adE {a b:List Int} {i:Nat} (hi:a.length<=i) (j5:i<=a.length) (h:fG (a.drop i) (b.drop i)=fG a b):((a.length:Int) < b.length->(-1:Int)=fG a b)/\((b.length:Int)<=a.length->(0:Int)=fG a b):=by
 rw [Hf hi] at h
 rw [<-h]
 refine ⟨λhb=>?_,λhb=>?_⟩
 ·rw [rH (show i < b.length by omega)];rfl
 ·rw [Hf (by omega)];rfl
noncomputable def aiG (n m:Nat):Ctx:=cW n m [] [(130,Nu)]
theorem Vu (n m:Nat):CB PP (aiG n m):=cZ n m trivial ⟨UL,trivial⟩
theorem afQ:cY (PP ()) 275 XC:=by
 refine e6 (Vu 0 0) (fo Tryz.func275) (λa=>⟨λx=>(dq x).1,λx=>(dq x).1,trivial⟩) (λa=>trivial) ?_
 rintro ⟨a,b⟩ hx
 obtain ⟨ha,hb⟩:a.length<=1000000/\b.length<=1000000:=hx
 refine ⟨?_⟩
 cbv
 refine Sat.dP (Vu 0 0) 0 5 [] (λi:Nat=>[(9,.sl 1 bJ (λ_=>a)),(10,.i .i64 (λ_=>(a.length:Int))),(11,.i .i64 λ_=>(i:Int))]) (λ_=>[]) (λi=>i<=a.length/\fG (a.drop i) (b.drop i)=fG a b) (λi=>a.length - i) 0 (by exact aW) (by exact aW) ⟨cI _,by simp⟩ ?_
 rintro i ⟨hi,he⟩
 have hi:i<=a.length:=hi
 have he:fG (a.drop i) (b.drop i)=fG a b:=he
 have h0:=n0 i
 have h1:=eh (i:=i) (by omega)
 cbv
 refine ⟨λh=>?_,λh=>?_⟩
 ·have bO:i < a.length:=aG
  have cf:a.length - (i+1) < a.length - i:=by omega
  refine (cg bO).elim λx hx=>?_
  have Ad:=acz hx he
  cbv
  refine ⟨x,⟨h0,hx⟩,?_⟩
  cbv
  refine ⟨λh=>?_,λh=>?_⟩
  ·have e:=Ad.1 aG
   cbv
   exact ⟨by have fW:=e;exact bM⟩
  have je:i < b.length:=aG
  refine (cg je).elim λy hy=>?_
  have JQ:=Ad.2 y hy
  clear h
  cbv
  refine ⟨y,⟨h0,hy⟩,?_⟩
  cbv
  refine ⟨⟨x,y⟩,⟨by exact a8,trivial⟩,?_⟩
  cbv
  refine ⟨λh=>?_,λh=>?_⟩
  ·have e:=JQ.1 aG
   cbv
   exact ⟨by have bK:=e;exact bM⟩
  ·have e:=JQ.2 aG
   have cb:i+1<=a.length/\fG (a.drop (i+1)) (b.drop (i+1))=fG a b:=⟨bO,e⟩
   cbv
   exact ⟨i+1,by exact aW,by exact aW,⟨⟨cb,cf⟩⟩⟩
 ·have bV:a.length<=i:=aG
  have q:=adE bV hi he
  cbv
  refine ⟨λh=>?_,λh=>?_⟩
  ·have e:=q.1 aG
   cbv
   exact ⟨by have fW:=e;exact bM⟩
  ·have e:=q.2 aG
   cbv
   exact ⟨by have fW:=e;exact bM⟩
@[reducible] noncomputable def Oe:Vc.Spec where
 α:=L2
 args x:=[.sl 1 bJ (λ_=>x.a),.sl 1 bJ (λ_=>x.b)]
 pre x:=x.a.length<=1000000/\x.b.length<=1000000
 res x:=.i .i64 (λ_=>iF x.a x.b)
theorem aeO (a b:List Int):vf [p9 a.length b.length,fG a b]=iF a b:=by
 unfold vf p9 iF vf
 by_cases h1:a.length < b.length
 ·rw [if_pos (by omega:(a.length:Int) < b.length),if_pos h1];rfl
 ·by_cases h2:b.length < a.length
  ·rw [if_neg (by omega:¬(a.length:Int) < b.length),if_pos (by omega:(b.length:Int) < a.length),if_neg h1,if_pos h2];rfl
  ·rw [if_neg (by omega:¬(a.length:Int) < b.length),if_neg (by omega:¬(b.length:Int) < a.length),if_neg h1,if_neg h2,if_pos rfl]
   split
   ·rename_i e;rw [e];rfl
   ·rfl
noncomputable def aiH (n m:Nat):Ctx:=cW n m [] [(130,Nu),(275,XC),(274,XB)]
theorem afR (n m:Nat):CB PP (aiH n m):=cZ n m trivial ⟨UL,afQ,afP,trivial⟩
theorem afS:cY (PP ()) 273 Oe:=by
 refine e6 (afR 0 0) (fo Tryz.func273) (λa=>⟨λx=>(dq x).1,λx=>(dq x).1,trivial⟩) (λa=>trivial) ?_
 rintro ⟨a,b⟩ hx
 have gy:a.length<=1000000/\b.length<=1000000:=hx
 obtain ⟨A,hA⟩:∃A:Int,(a.length:Int)=A:=⟨_,rfl⟩
 obtain ⟨B,hB⟩:∃B:Int,(b.length:Int)=B:=⟨_,rfl⟩
 obtain ⟨U,hU⟩:∃U:Int,p9 A B=U:=⟨_,rfl⟩
 obtain ⟨V,hV⟩:∃V:Int,fG a b=V:=⟨_,rfl⟩
 have e:vf [U,V]=iF a b:=by rw [<-hU,<-hV,<-hA,<-hB];exact aeO a b
 have h2:([U,V]:List Int).length<=1000000:=by show 2<=1000000;decide
 refine ⟨?_⟩
 cbv
 refine ⟨⟨A,B⟩,⟨by have bK:=hA;have js:=hB;exact bM,trivial⟩,?_⟩
 cbv
 refine ⟨⟨a,b⟩,⟨by exact a8,gy⟩,?_⟩
 cbv
 refine ⟨[U,V],⟨.inl ⟨by have bK:=hU;have js:=hV;exact bM,rfl⟩,h2⟩,?_⟩
 cbv
 exact ⟨by have bK:=e;exact bM⟩
def Jm (n:Net) (s:dW):List SV:=[.sl 3 jT (λ_=>n.ins),.sl 5 lY (λ_=>n.cq),.sl 3 jT (λ_=>n.outs),.sl 1 bJ (λ_=>n.bA),.sl 1 bJ (λ_=>s.labels),.sl 1 zt (λ_=>s.gv),.sl 1 fT (λ_=>s.leaves)]
theorem UM (n:Net) (s:dW):cj (Jm n s):=⟨λx=>(rN x).1,λx=>(uu x).1,λx=>(rN x).1,λx=>(dq x).1,λx=>(dq x).1,λx=>(SR x).1,λx=>(qJ x).1,trivial⟩
structure aiI where
 n:Net
 s:dW
 l:List Int
structure jZ (L l:List Int):Prop where
 len:l.length<=1000000
 mem:∀v∈l,0<=v/\v < L.length
 gK:∀x∈L,0<=x/\x<=1000000
theorem jZ.le {L l:List Int} (h:jZ L l):0<=bW L l/\bW L l<=1000000:=by
 refine ⟨xl L l,w9 (by decide) λv hv=>?_⟩
 have hb:=h.mem v hv
 rw [List.getD_eq_getElem?_getD,eG (show v.toNat < L.length by omega)]
 exact (h.gK _ (Lz _)).2
theorem KV {L l:List Int} {i:Nat} {v x:Int} (hv:l[i]?=some v) (hx:L[v.toNat]?=some x):max (bW L (l.take i)) x=bW L (l.take (i+1)):=by
 unfold bW
 rw [iT,hv,mW,List.foldl_append,lu,DJ,List.getD_eq_getElem?_getD,hx]
 rfl
@[reducible] noncomputable def Ff:Vc.Spec where
 α:=aiI
 args x:=[.db (Jm x.n x.s) 0,.sl 1 bJ (λ_=>x.l)]
 pre x:=jZ x.s.labels x.l
 res x:=.i .i64 (λ_=>bW x.s.labels x.l)
theorem Ir:cY (PP ()) 259 Ff:=by
 refine e6 (pf 0 0) (fo Tryz.func259) (λa=>⟨UM a.n a.s,λx=>(dq x).1,trivial⟩) (λa=>trivial) ?_
 rintro ⟨n,⟨L,C,F⟩,l⟩ hx
 have hx:jZ L l:=hx
 have l9:=hx.len
 have FX:bW L (l.take 0)=0:=rfl
 refine ⟨?_⟩
 cbv
 refine Sat.dP (pf 0 0) 0 5 [] (λi:Nat=>[(5,.i .i64 (λ_=>bW L (l.take i))),(8,.sl 1 bJ (λ_=>l)),(9,.i .i64 (λ_=>(l.length:Int))),(10,.i .i64 λ_=>(i:Int))]) (λ_=>[]) (λi=>i<=l.length) (λi=>l.length - i) 0 (by have fW:=FX.symm;exact bq) (by exact aW) (cI _) ?_
 intro i hi
 have hi:i<=l.length:=hi
 have h0:=n0 i
 have h1:=eh (i:=i) (by omega)
 cbv
 refine ⟨λh=>?_,λh=>?_⟩
 ·have bO:i < l.length:=aG
  have cf:l.length - (i+1) < l.length - i:=by omega
  refine (cg bO).elim λv hv=>?_
  have hb:=hx.mem v (cM hv)
  refine (cg (l:=L) (i:=v.toNat) (by omega)).elim λx j4=>?_
  have cP:=KV hv j4
  have jH:=hb.1
  cbv
  refine ⟨v,⟨h0,hv⟩,?_⟩
  cbv
  refine ⟨x,⟨jH,j4⟩,?_⟩
  cbv
  exact ⟨i+1,by have bK:=cP;have js:=h1;exact bq,by exact aW,⟨⟨bO,cf⟩⟩⟩
 ·have bV:l.length<=i:=aG
  have hr:bW L (l.take i)=bW L l:=by rw [iM bV]
  cbv
  exact ⟨by have bK:=hr;exact bM⟩
theorem L8 {f:List Int->Int} {x:List Int}:∀{r:List (List Int)} {m:List Int},iO f m (r++[x])=if f x - f (iO f m r) < 0 then x else iO f m r
 | [],m=>by
  show (if f x - f m < 0 then iO f x [] else iO f m [])=_
  rfl
 | y :: r,m=>by
  show (if f y - f m < 0 then iO f y (r++[x]) else iO f m (r++[x]))=if f x - f (if f y - f m < 0 then iO f y r else iO f m r) < 0 then x else (if f y - f m < 0 then iO f y r else iO f m r)
  by_cases hc:f y - f m < 0
  ·rw [if_pos hc,if_pos hc];exact L8
  ·rw [if_neg hc,if_neg hc];exact L8
end Go.Proofs.Pk
