import Derived.Test.YthnhbemmlfaihaaGreatU7
import Derived.Test.YthnhbemmlfaihaaGreatU21
set_option linter.unusedVariables false
set_option linter.unusedSimpArgs false
set_option maxRecDepth 10000
set_option maxHeartbeats 64000000
namespace Go.Proofs.Pk
open Go Go.Vc
structure IW (c:Int) (rw:List Int) (i k:Int) (n:Nat) (l:List bU):Prop where
 tz:sK c l
 wr:∀w∈l,mB w 1 4/\w.i<=31
 aM:rH rw i k l
 len:l.length<=n
theorem IW.nil (rw:List Int):IW 0 rw 0 0 0 []:=⟨sK.nil _,by simp,rH.nil rw,cR _⟩
theorem IW.up {c d:Int} {rw:List Int} {i k:Int} {n n':Nat} {l:List bU} (h:IW c rw i k n l) (hc:c<=d) (hn:n<=n'):IW d rw i k n' l:=⟨h.tz.up hc,h.wr,h.aM,by have:=h.len;omega⟩
theorem OR {A:Type} {l:List A} {x:A} {P:A->Prop} (h:∀w∈l,P w) (hx:P x):∀w∈l++[x],P w:=λw hw=>by
 rcases eP.1 hw with hw|hw
 ·exact h w hw
 ·simp at hw;rw [hw];exact hx
theorem IW.aZ {rw:List Int} {i k n:Nat} {l:List bU} (h:IW (16*i+k) rw i k n l) (hi:i<=31) (hk:k<=7):IW (16*i+(k+1:Nat)) rw i ((k+1:Nat):Int) (n+1) (l++[⟨1,i,k⟩]):=by
 refine ⟨h.tz.add (by simp [iu]) (by simp [iu];omega),OR h.wr ⟨⟨by simp,by simp,by simp,by simp,by simp;omega⟩,by simp;omega⟩,?_,by have:=h.len;simp;omega⟩
 have:=h.aM.bit (by omega) (by omega)
 simpa using this
theorem IW.next {rw:List Int} {i k n n':Nat} {l:List bU} (h:IW (16*i+k) rw i k n l) (hw:rw[i]?=some (k:Int)) (hk:k<=8) (hn:n<=n'):IW (16*(i+1:Nat)) rw ((i+1:Nat):Int) 0 n' l :=
 ⟨h.tz.up (by omega),h.wr,h.aM.next hw,by have:=h.len;omega⟩
theorem IW.add {c d:Int} {rw:List Int} {i k:Int} {n:Nat} {l:List bU} (h:IW c rw i k n l) {w:bU} (hw:w.kind≠1) (hr:mB w 1 4/\w.i<=31) (hc:c<=iu w) (hd:iu w < d):IW d rw i k (n+1) (l++[w]) :=
 ⟨h.tz.add hc hd,OR h.wr hr,h.aM.other hw,by have:=h.len;simp;omega⟩
structure Vd (rw:List Int) (y:List bU):Prop where
 ok:afN rw y
 len:y.length<=100
@[reducible] noncomputable def aur:fK where
 α:=rR
 args x:=[.agg (za 2 x)]
 pre x:=rG x
 β:=List bU
 post x y:=Vd (x.aM.map (·.w)) y
 res x y:=.sl 3 dm (λ_=>y)
theorem ahR {A:Type} {f:A->Int} {l:List A} {i:Nat} {x:A} (h:l[i]?=some x):(l.map f)[i]?=some (f x):=by rw [m7,h];rfl
noncomputable def cIn (n m:Nat):Ctx:=fB n m [] []
theorem HA (n m:Nat):CB PP (cIn n m):=fG n m trivial trivial
theorem aqy:eG PP 157 aur:=by
 refine iL (HA 2 2) (fo Tryz.func157) (λa=>⟨G4 2 a,trivial⟩) (λa y=>(λx=>(gS x).1)) ?_
 rintro p hx
 have hp:rG p:=hx
 obtain ⟨name,clock,rl,ml,tl,pl⟩:=p
 have rX:rl.length<=3:=hp.aM.1
 have w7:tl.length<=2:=hp.a8.1
 have tm:pl.length<=2:=hp.dZ.1
 have w6:∀r∈rl,1<=r.w/\r.w<=3:=λr h=>⟨(hp.aM.2 r h).1,(hp.aM.2 r h).2.1⟩
 have FW:∀r∈tl,1<=r.w/\r.w<=2:=λr h=>⟨(hp.a8.2 r h).1,(hp.a8.2 r h).2.1⟩
 clear hp hx
 obtain ⟨R,hR⟩:∃R,R=rl.map (·.w):=⟨_,rfl⟩
 have Bj:R.length=rl.length:=by rw [hR,qJ]
 refine ⟨?_⟩
 cbv
 refine Sat.cf (HA 2 2) 2 3 [(.t 3,1)] (λx:Nat × List bU=>[(3,.own 1),(4,.i .i64 λ_=>(x.1:Int))]) (λx=>[(1,.dyn 133 3 dm λ_=>x.2)])
  (λx=>x.1<=rl.length/\IW (16*x.1) R x.1 0 (3*x.1) x.2) (λx=>rl.length - x.1) (0,[]) (by exact ao) (by exact ao) ⟨cN _,IW.nil R⟩ ?_
 rintro ⟨i,l⟩ ⟨hi,hl⟩
 have hi:i<=rl.length:=hi
 have hl:IW (16*i) R i 0 (3*i) l:=hl
 have h0:=n0 i
 have h1:=cq (i:=i) (by omega)
 cbv
 refine ⟨λh=>?_,λh=>?_⟩
 ·have bt:i < rl.length:=bI
  have bh:rl.length - (i+1) < rl.length - i:=by omega
  refine (bD bt).elim λr hr=>?_
  have hw:=w6 r (cb hr)
  have YQ:R[i]?=some r.w:=by rw [hR];exact ahR hr
  cbv
  refine Sat.cf (HA 2 2) 2 5 [(.t 3,1)] (λx:Nat × List bU=>[(3,.own 1),(5,.i .i64 λ_=>(x.1:Int))]) (λx=>[(1,.dyn 133 3 dm λ_=>x.2)])
   (λx=>(x.1:Int)<=r.w/\IW (16*i+x.1) R i x.1 (3*i+x.1) x.2) (λx=>r.w.toNat - x.1) (0,l) (by exact ao) (by exact ao) ⟨by show (0:Int)<=r.w;omega,by simpa using hl⟩ ?_
  rintro ⟨k,l⟩ ⟨hk,hl⟩
  have hk:(k:Int)<=r.w:=hk
  have hl:IW (16*i+k) R i k (3*i+k) l:=hl
  have oh:l.length<=3*i+k:=hl.len
  have mQ:k<=3:=by have:=hw.2;omega
  have My:i<=2:=by omega
  have Mi:l.length<=9:=by omega
  have gA:=n0 k
  have eT:=cq (i:=k) (by omega)
  cbv
  refine ⟨r,⟨h0,hr⟩,?_⟩
  cbv
  refine ⟨λh=>?_,λh=>?_⟩
  ·have dq:(k:Int) < r.w:=bI
   have ll:r.w.toNat - (k+1) < r.w.toNat - k:=by omega
   have bB:=hl.aZ (by omega) (by omega)
   have hle:((k+1:Nat):Int)<=r.w:=by omega
   cbv
   refine ⟨[⟨1,i,k⟩],⟨by exact aK,by show (l.length+1)*24<=_;omega,by show l.length+1<=_;omega⟩,?_⟩
   cbv
   exact ⟨(k+1,l++[⟨1,i,k⟩]),by have bg:=eT;exact bJ,by exact ao,⟨⟨hle,bB⟩,ll⟩⟩
  ·have dq:¬(k:Int) < r.w:=bI
   have hk:(k:Int)<=r.w:=hk
   have Dc:(k:Int)=r.w:=by omega
   have bB:=hl.next (n':=3*(i+1)) (by rw [Dc];exact YQ) (by omega) (by have:=mQ;omega)
   cbv
   exact ⟨(i+1,l),by have bg:=h1;exact bJ,by exact ao,⟨⟨bt,bB⟩,bh⟩⟩
 ·have b9:i=rl.length:=tR h.out hi
  have Bj:R.length=rl.length:=Bj
  have hR3:R.length<=3:=by rw [Bj];exact rX
  have hl:IW (16*i) R i 0 (3*i) l:=hl
  have vk:IW 1000 R R.length 0 9 l:=by rw [b9,<-Bj] at hl;exact hl.up (by have:=hR3;omega) (by have:=hR3;omega)
  cbv
  refine Sat.cf (HA 2 2) 2 6 [(.t 3,1)] (λx:Nat × List bU=>[(3,.own 1),(6,.i .i64 λ_=>(x.1:Int))]) (λx=>[(1,.dyn 133 3 dm λ_=>x.2)])
   (λx=>x.1<=tl.length/\IW (1000+32*x.1) R R.length 0 (9+3*x.1) x.2) (λx=>tl.length - x.1) (0,l) (by exact ao) (by exact ao) ⟨cN _,by simpa using vk⟩ ?_
  rintro ⟨i,l⟩ ⟨hi,hl⟩
  have hi:i<=tl.length:=hi
  have hl:IW (1000+32*i) R R.length 0 (9+3*i) l:=hl
  have h0:=n0 i
  have h1:=cq (i:=i) (by omega)
  cbv
  refine ⟨λh=>?_,λh=>?_⟩
  ·have bt:i < tl.length:=bI
   have bh:tl.length - (i+1) < tl.length - i:=by omega
   refine (bD bt).elim λr hr=>?_
   have hw:=FW r (cb hr)
   cbv
   refine Sat.cf (HA 2 2) 2 7 [(.t 3,1)] (λx:Nat × List bU=>[(3,.own 1),(7,.i .i64 λ_=>(x.1:Int))]) (λx=>[(1,.dyn 133 3 dm λ_=>x.2)])
    (λx=>(x.1:Int)<=r.w/\IW (1000+32*i+x.1) R R.length 0 (9+3*i+x.1) x.2) (λx=>r.w.toNat - x.1) (0,l) (by exact ao) (by exact ao) ⟨by show (0:Int)<=r.w;omega,by simpa using hl⟩ ?_
   rintro ⟨k,l⟩ ⟨hk,hl⟩
   have hk:(k:Int)<=r.w:=hk
   have hl:IW (1000+32*i+k) R R.length 0 (9+3*i+k) l:=hl
   have oh:l.length<=9+3*i+k:=hl.len
   have mQ:k<=2:=by have:=hw.2;omega
   have My:i<=1:=by omega
   have Mi:l.length<=14:=by omega
   have gA:=n0 k
   have eT:=cq (i:=k) (by omega)
   cbv
   refine ⟨r,⟨h0,hr⟩,?_⟩
   cbv
   refine ⟨λh=>?_,λh=>?_⟩
   ·have dq:(k:Int) < r.w:=bI
    have ll:r.w.toNat - (k+1) < r.w.toNat - k:=by omega
    have bB:=hl.add (w:=⟨2,i,k⟩) (d:=1000+32*i+(k+1:Nat)) (by simp) ⟨⟨by simp,by simp,by simp,by simp,by simp;try omega⟩,by simp;try omega⟩ (by simp [iu];try omega) (by simp [iu];try omega)
    have hle:((k+1:Nat):Int)<=r.w:=by omega
    cbv
    refine ⟨[⟨2,i,k⟩],⟨by exact aK,by show (l.length+1)*24<=_;omega,by show l.length+1<=_;omega⟩,?_⟩
    cbv
    exact ⟨(k+1,l++[⟨2,i,k⟩]),by have bg:=eT;exact bJ,by exact ao,⟨⟨hle,bB⟩,ll⟩⟩
   ·have dq:¬(k:Int) < r.w:=bI
    have bB:IW (1000+32*(i+1:Nat)) R R.length 0 (9+3*(i+1)) (l++[⟨3,i,0⟩]):=(hl.add (w:=⟨3,i,0⟩) (d:=1000+32*(i+1:Nat)) (by simp) ⟨⟨by simp,by simp,by simp,by simp,by simp⟩,by simp;omega⟩ (by simp [iu];omega) (by simp [iu];omega)).up (j5 _) (by omega)
    cbv
    refine ⟨[⟨3,i,0⟩],⟨by exact aK,by show (l.length+1)*24<=_;omega,by show l.length+1<=_;omega⟩,?_⟩
    cbv
    exact ⟨(i+1,l++[⟨3,i,0⟩]),by have bg:=h1;exact bJ,by exact ao,⟨⟨bt,bB⟩,bh⟩⟩
  ·have b9:i=tl.length:=tR h.out hi
   have hl:IW (1000+32*i) R R.length 0 (9+3*i) l:=hl
   have vk:IW 2000 R R.length 0 15 l:=hl.up (by have:=w7;omega) (by have:=w7;omega)
   cbv
   refine Sat.cf (HA 2 2) 2 8 [(.t 3,1)] (λx:Nat × List bU=>[(3,.own 1),(8,.i .i64 λ_=>(x.1:Int))]) (λx=>[(1,.dyn 133 3 dm λ_=>x.2)])
    (λx=>x.1<=pl.length/\IW (2000+x.1) R R.length 0 (15+x.1) x.2) (λx=>pl.length - x.1) (0,l) (by exact ao) (by exact ao) ⟨cN _,by simpa using vk⟩ ?_
   rintro ⟨i,l⟩ ⟨hi,hl⟩
   have hi:i<=pl.length:=hi
   have hl:IW (2000+i) R R.length 0 (15+i) l:=hl
   have oh:l.length<=15+i:=hl.len
   have Mi:l.length<=17:=by omega
   have h0:=n0 i
   have h1:=cq (i:=i) (by omega)
   cbv
   refine ⟨λh=>?_,λh=>?_⟩
   ·have bt:i < pl.length:=bI
    have bh:pl.length - (i+1) < pl.length - i:=by omega
    have bB:IW (2000+(i+1:Nat)) R R.length 0 (15+(i+1)) (l++[⟨4,i,0⟩]):=(hl.add (w:=⟨4,i,0⟩) (d:=2000+(i+1:Nat)) (by simp) ⟨⟨by simp,by simp,by simp,by simp,by simp⟩,by simp;omega⟩ (by simp [iu]) (by simp [iu];omega)).up (j5 _) (by omega)
    cbv
    refine ⟨[⟨4,i,0⟩],⟨by exact aK,by show (l.length+1)*24<=_;omega,by show l.length+1<=_;omega⟩,?_⟩
    cbv
    exact ⟨(i+1,l++[⟨4,i,0⟩]),by have bg:=h1;exact bJ,by exact ao,⟨⟨bt,bB⟩,bh⟩⟩
   ·have bX:Vd (rl.map (·.w)) l:=by
     rw [<-hR]
     exact ⟨⟨⟨_,hl.tz⟩,hl.wr,hl.aM⟩,by omega⟩
    cbv
    exact .mk' l ⟨by exact bQ⟩ bX
end Go.Proofs.Pk
