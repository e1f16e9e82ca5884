import Derived.Test.YthnhbemmlfaihaaGreatO13
import Derived.Test.YthnhbemmlfaihaaGreatO35
set_option linter.unusedVariables false
set_option linter.unusedSimpArgs false
set_option maxRecDepth 10000
set_option maxHeartbeats 64000000
namespace Go.Proofs.Pk
open Go Go.Vc
structure aqY where
 n:Net
 b:List Int
structure Nk (n:Net) (N:Nat) (x:Nat × List (List Int)):Prop where
 lo:2+n.ins.length<=x.1
 hi:x.1<=N
 len:x.2.length=x.1
 ok:∀(u:Nat) (l:List Int),2+n.ins.length<=u->x.2[u]?=some l->qt n u l
theorem Nk.add {n:Net} {N v:Nat} {L:List (List Int)} (h:Nk n N (v,L)) (hv:v < N) {l:List Int} (hl:qt n v l):Nk n N (v+1,L++[l]):=by
 have hlen:L.length=v:=h.len
 refine ⟨by have:=h.lo;simp only at this ⊢;omega,hv,by simp [hlen],λu k hu hk=>?_⟩
 have hk:(L++[l])[u]?=some k:=hk
 rw [wN] at hk
 split at hk
 ·exact h.ok u k hu hk
 ·have hi:u - L.length=0:=by
   have:=(a7.1 hk).1
   simp at this;omega
  rw [hi] at hk
  simp at hk
  subst hk
  have:u=v:=by omega
  rw [this];exact hl
theorem qt.ops {n:Net} {v:Nat} {l:List Int} (h:apa n v l) (hr:mb n v=true->∃g,n.aY[((v:Int) - 2 - n.ins.length).toNat]?=some g/\g.op=7/\2+(n.ins.length:Int)<=v):qt n v l :=
 ⟨by have:=h.len;omega,h.mem,λhd=>by obtain ⟨g,h1,h2,h3⟩:=hr hd;exact h.read g h3 h1 h2⟩
theorem qt.pick {n:Net} {v:Nat} {l:List Int} (h:EO v l) (hr:mb n v=false) (bO:l≠[(v:Int)]):qt n v l :=
 ⟨h.len,(h.mem.resolve_left bO),λhd=>by rw [hr] at hd;cases hd⟩
noncomputable def UI (n:Net) (b:List Int) (v:Nat) (L:List (List Int)) (a:Int):Vc.St :=
 ⟨[.agg [.sl 3 je (λ_=>n.ins),.sl 5 kY (λ_=>n.aY),.sl 3 je (λ_=>n.outs),.sl 1 bC (λ_=>n.bj)],.sl 1 pq (λ_=>b),.ptr 0 0,.any,.ptr 1 0,.own 2,.i .i64 (λ_=>(v:Int)),.any,.i .i64 (λ_=>a)]++tk 64,
  [.fix 48 [.sl 3 je (λ_=>n.ins),.sl 5 kY (λ_=>n.aY),.sl 3 je (λ_=>n.outs),.sl 1 bC (λ_=>n.bj)],
   .fix 94 [.ic .i64 0,.cQ,.cQ,.cQ,.cQ,.ic .i64 0],.dyn 35 1 eB (λ_=>L)]⟩
end Go.Proofs.Pk
