import Derived.Test.YthnhbemmlfaihaaGreatT12
import Derived.Test.YthnhbemmlfaihaaGreatT27
set_option linter.unusedVariables false
set_option linter.unusedSimpArgs false
set_option maxRecDepth 10000
set_option maxHeartbeats 64000000
namespace Go.Proofs.Pk
open Go Go.Vc
structure IW (c:Int) (rw:List Int) (i k:Int) (n:Nat) (l:List bU):Prop where
 tH:sR c l
 wr:∀w∈l,mD w 1 4/\w.i<=31
 aN:rI rw i k l
 len:l.length<=n
theorem IW.nil (rw:List Int):IW 0 rw 0 0 0 []:=⟨sR.nil _,by simp,rI.nil rw,cR _⟩
theorem IW.up {c d:Int} {rw:List Int} {i k:Int} {n n':Nat} {l:List bU} (h:IW c rw i k n l) (hc:c<=d) (hn:n<=n'):IW d rw i k n' l:=⟨h.tH.up hc,h.wr,h.aN,by have:=h.len;omega⟩
theorem OR {A:Type} {l:List A} {x:A} {P:A->Prop} (h:∀w∈l,P w) (hx:P x):∀w∈l++[x],P w:=λw hw=>by
 rcases List.mem_append.1 hw with hw|hw
 ·exact h w hw
 ·simp at hw;rw [hw];exact hx
theorem IW.bh {rw:List Int} {i k n:Nat} {l:List bU} (h:IW (16*i+k) rw i k n l) (hi:i<=31) (hk:k<=7):IW (16*i+(k+1:Nat)) rw i ((k+1:Nat):Int) (n+1) (l++[⟨1,i,k⟩]):=by
 refine ⟨h.tH.add (by simp [iy]) (by simp [iy];omega),OR h.wr ⟨⟨by simp,by simp,by simp,by simp,by simp;omega⟩,by simp;omega⟩,?_,by have:=h.len;simp;omega⟩
 have:=h.aN.bit (by omega) (by omega)
 simpa using this
theorem IW.next {rw:List Int} {i k n n':Nat} {l:List bU} (h:IW (16*i+k) rw i k n l) (hw:rw[i]?=some (k:Int)) (hk:k<=8) (hn:n<=n'):IW (16*(i+1:Nat)) rw ((i+1:Nat):Int) 0 n' l :=
 ⟨h.tH.up (by omega),h.wr,h.aN.next hw,by have:=h.len;omega⟩
theorem IW.add {c d:Int} {rw:List Int} {i k:Int} {n:Nat} {l:List bU} (h:IW c rw i k n l) {w:bU} (hw:w.kind≠1) (hr:mD w 1 4/\w.i<=31) (hc:c<=iy w) (hd:iy w < d):IW d rw i k (n+1) (l++[w]) :=
 ⟨h.tH.add hc hd,OR h.wr hr,h.aN.other hw,by have:=h.len;simp;omega⟩
structure Vo (rw:List Int) (y:List bU):Prop where
 ok:afW rw y
 len:y.length<=100
@[reducible] noncomputable def auL:fO where
 α:=rT
 args x:=[.agg (zp 2 x)]
 pre x:=rH x
 β:=List bU
 post x y:=Vo (x.aN.map (·.w)) y
 res x y:=.sl 3 dk (λ_=>y)
theorem ah1 {A:Type} {f:A->Int} {l:List A} {i:Nat} {x:A} (h:l[i]?=some x):(l.map f)[i]?=some (f x):=by rw [m7,h];rfl
noncomputable def cIn (n m:Nat):Ctx:=fy n m [] []
theorem HR (n m:Nat):CB PP (cIn n m):=fF n m trivial trivial
theorem aqS:eM PP 157 auL:=by
 refine iQ (HR 2 2) (fo Tryz.func157) (λa=>⟨Hj 2 a,trivial⟩) (λa y=>(λx=>(gU x).1)) ?_
 rintro p hx
 have hp:rH p:=hx
 obtain ⟨name,clock,rl,ml,tl,pl⟩:=p
 have r6:rl.length<=3:=hp.aN.1
 have xb:tl.length<=2:=hp.aZ.1
 have tA:pl.length<=2:=hp.ec.1
 have xa:∀r∈rl,1<=r.w/\r.w<=3:=λr h=>⟨(hp.aN.2 r h).1,(hp.aN.2 r h).2.1⟩
 have Ge:∀r∈tl,1<=r.w/\r.w<=2:=λr h=>⟨(hp.aZ.2 r h).1,(hp.aZ.2 r h).2.1⟩
 clear hp hx
 obtain ⟨R,hR⟩:∃R,R=rl.map (·.w):=⟨_,rfl⟩
 have BD:R.length=rl.length:=by rw [hR,ph]
 refine ⟨?_⟩
 cbv
 refine Sat.cd (HR 2 2) 2 3 [(.t 3,1)] (λx:Nat × List bU=>[(3,.own 1),(4,.i .i64 λ_=>(x.1:Int))]) (λx=>[(1,.dyn 133 3 dk λ_=>x.2)])
  (λx=>x.1<=rl.length/\IW (16*x.1) R x.1 0 (3*x.1) x.2) (λx=>rl.length - x.1) (0,[]) (by exact ao) (by exact ao) ⟨cL _,IW.nil R⟩ ?_
 rintro ⟨i,l⟩ ⟨hi,hl⟩
 have hi:i<=rl.length:=hi
 have hl:IW (16*i) R i 0 (3*i) l:=hl
 have h0:=n0 i
 have h1:=cj (i:=i) (by omega)
 cbv
 refine ⟨λh=>?_,λh=>?_⟩
 ·have bq:i < rl.length:=bG
  have a7:rl.length - (i+1) < rl.length - i:=by omega
  refine (bB bq).elim λr hr=>?_
  have hw:=xa r (cb hr)
  have MJ:R[i]?=some r.w:=by rw [hR];exact ah1 hr
  cbv
  refine Sat.cd (HR 2 2) 2 5 [(.t 3,1)] (λx:Nat × List bU=>[(3,.own 1),(5,.i .i64 λ_=>(x.1:Int))]) (λx=>[(1,.dyn 133 3 dk λ_=>x.2)])
   (λx=>(x.1:Int)<=r.w/\IW (16*i+x.1) R i x.1 (3*i+x.1) x.2) (λx=>r.w.toNat - x.1) (0,l) (by exact ao) (by exact ao) ⟨by show (0:Int)<=r.w;omega,by simpa using hl⟩ ?_
  rintro ⟨k,l⟩ ⟨hk,hl⟩
  have hk:(k:Int)<=r.w:=hk
  have hl:IW (16*i+k) R i k (3*i+k) l:=hl
  have mq:l.length<=3*i+k:=hl.len
  have nU:k<=3:=by have:=hw.2;omega
  have MI:i<=2:=by omega
  have Mu:l.length<=9:=by omega
  have gS:=n0 k
  have eX:=cj (i:=k) (by omega)
  cbv
  refine ⟨r,⟨h0,hr⟩,?_⟩
  cbv
  refine ⟨λh=>?_,λh=>?_⟩
  ·have db:(k:Int) < r.w:=bG
   have lz:r.w.toNat - (k+1) < r.w.toNat - k:=by omega
   have bA:=hl.bh (by omega) (by omega)
   have hle:((k+1:Nat):Int)<=r.w:=by omega
   cbv
   refine ⟨[⟨1,i,k⟩],⟨by exact aL,by show (l.length+1)*24<=_;omega,by show l.length+1<=_;omega⟩,?_⟩
   cbv
   exact ⟨(k+1,l++[⟨1,i,k⟩]),by have bm:=eX;exact bI,by exact ao,⟨⟨hle,bA⟩,lz⟩⟩
  ·have db:¬(k:Int) < r.w:=bG
   have hk:(k:Int)<=r.w:=hk
   have Ds:(k:Int)=r.w:=by omega
   have bA:=hl.next (n':=3*(i+1)) (by rw [Ds];exact MJ) (by omega) (by have:=nU;omega)
   cbv
   exact ⟨(i+1,l),by have bm:=h1;exact bI,by exact ao,⟨⟨bq,bA⟩,a7⟩⟩
 ·have bS:i=rl.length:=ua h.out hi
  have BD:R.length=rl.length:=BD
  have hR3:R.length<=3:=by rw [BD];exact r6
  have hl:IW (16*i) R i 0 (3*i) l:=hl
  have vw:IW 1000 R R.length 0 9 l:=by rw [bS,<-BD] at hl;exact hl.up (by have:=hR3;omega) (by have:=hR3;omega)
  cbv
  refine Sat.cd (HR 2 2) 2 6 [(.t 3,1)] (λx:Nat × List bU=>[(3,.own 1),(6,.i .i64 λ_=>(x.1:Int))]) (λx=>[(1,.dyn 133 3 dk λ_=>x.2)])
   (λx=>x.1<=tl.length/\IW (1000+32*x.1) R R.length 0 (9+3*x.1) x.2) (λx=>tl.length - x.1) (0,l) (by exact ao) (by exact ao) ⟨cL _,by simpa using vw⟩ ?_
  rintro ⟨i,l⟩ ⟨hi,hl⟩
  have hi:i<=tl.length:=hi
  have hl:IW (1000+32*i) R R.length 0 (9+3*i) l:=hl
  have h0:=n0 i
  have h1:=cj (i:=i) (by omega)
  cbv
  refine ⟨λh=>?_,λh=>?_⟩
  ·have bq:i < tl.length:=bG
   have a7:tl.length - (i+1) < tl.length - i:=by omega
   refine (bB bq).elim λr hr=>?_
   have hw:=Ge r (cb hr)
   cbv
   refine Sat.cd (HR 2 2) 2 7 [(.t 3,1)] (λx:Nat × List bU=>[(3,.own 1),(7,.i .i64 λ_=>(x.1:Int))]) (λx=>[(1,.dyn 133 3 dk λ_=>x.2)])
    (λx=>(x.1:Int)<=r.w/\IW (1000+32*i+x.1) R R.length 0 (9+3*i+x.1) x.2) (λx=>r.w.toNat - x.1) (0,l) (by exact ao) (by exact ao) ⟨by show (0:Int)<=r.w;omega,by simpa using hl⟩ ?_
   rintro ⟨k,l⟩ ⟨hk,hl⟩
   have hk:(k:Int)<=r.w:=hk
   have hl:IW (1000+32*i+k) R R.length 0 (9+3*i+k) l:=hl
   have mq:l.length<=9+3*i+k:=hl.len
   have nU:k<=2:=by have:=hw.2;omega
   have MI:i<=1:=by omega
   have Mu:l.length<=14:=by omega
   have gS:=n0 k
   have eX:=cj (i:=k) (by omega)
   cbv
   refine ⟨r,⟨h0,hr⟩,?_⟩
   cbv
   refine ⟨λh=>?_,λh=>?_⟩
   ·have db:(k:Int) < r.w:=bG
    have lz:r.w.toNat - (k+1) < r.w.toNat - k:=by omega
    have bA:=hl.add (w:=⟨2,i,k⟩) (d:=1000+32*i+(k+1:Nat)) (by simp) ⟨⟨by simp,by simp,by simp,by simp,by simp;try omega⟩,by simp;try omega⟩ (by simp [iy];try omega) (by simp [iy];try omega)
    have hle:((k+1:Nat):Int)<=r.w:=by omega
    cbv
    refine ⟨[⟨2,i,k⟩],⟨by exact aL,by show (l.length+1)*24<=_;omega,by show l.length+1<=_;omega⟩,?_⟩
    cbv
    exact ⟨(k+1,l++[⟨2,i,k⟩]),by have bm:=eX;exact bI,by exact ao,⟨⟨hle,bA⟩,lz⟩⟩
   ·have db:¬(k:Int) < r.w:=bG
    have bA:IW (1000+32*(i+1:Nat)) R R.length 0 (9+3*(i+1)) (l++[⟨3,i,0⟩]):=(hl.add (w:=⟨3,i,0⟩) (d:=1000+32*(i+1:Nat)) (by simp) ⟨⟨by simp,by simp,by simp,by simp,by simp⟩,by simp;omega⟩ (by simp [iy];omega) (by simp [iy];omega)).up (jR _) (by omega)
    cbv
    refine ⟨[⟨3,i,0⟩],⟨by exact aL,by show (l.length+1)*24<=_;omega,by show l.length+1<=_;omega⟩,?_⟩
    cbv
    exact ⟨(i+1,l++[⟨3,i,0⟩]),by have bm:=h1;exact bI,by exact ao,⟨⟨bq,bA⟩,a7⟩⟩
  ·have bS:i=tl.length:=ua h.out hi
   have hl:IW (1000+32*i) R R.length 0 (9+3*i) l:=hl
   have vw:IW 2000 R R.length 0 15 l:=hl.up (by have:=xb;omega) (by have:=xb;omega)
   cbv
   refine Sat.cd (HR 2 2) 2 8 [(.t 3,1)] (λx:Nat × List bU=>[(3,.own 1),(8,.i .i64 λ_=>(x.1:Int))]) (λx=>[(1,.dyn 133 3 dk λ_=>x.2)])
    (λx=>x.1<=pl.length/\IW (2000+x.1) R R.length 0 (15+x.1) x.2) (λx=>pl.length - x.1) (0,l) (by exact ao) (by exact ao) ⟨cL _,by simpa using vw⟩ ?_
   rintro ⟨i,l⟩ ⟨hi,hl⟩
   have hi:i<=pl.length:=hi
   have hl:IW (2000+i) R R.length 0 (15+i) l:=hl
   have mq:l.length<=15+i:=hl.len
   have Mu:l.length<=17:=by omega
   have h0:=n0 i
   have h1:=cj (i:=i) (by omega)
   cbv
   refine ⟨λh=>?_,λh=>?_⟩
   ·have bq:i < pl.length:=bG
    have a7:pl.length - (i+1) < pl.length - i:=by omega
    have bA:IW (2000+(i+1:Nat)) R R.length 0 (15+(i+1)) (l++[⟨4,i,0⟩]):=(hl.add (w:=⟨4,i,0⟩) (d:=2000+(i+1:Nat)) (by simp) ⟨⟨by simp,by simp,by simp,by simp,by simp⟩,by simp;omega⟩ (by simp [iy]) (by simp [iy];omega)).up (jR _) (by omega)
    cbv
    refine ⟨[⟨4,i,0⟩],⟨by exact aL,by show (l.length+1)*24<=_;omega,by show l.length+1<=_;omega⟩,?_⟩
    cbv
    exact ⟨(i+1,l++[⟨4,i,0⟩]),by have bm:=h1;exact bI,by exact ao,⟨⟨bq,bA⟩,a7⟩⟩
   ·have bW:Vo (rl.map (·.w)) l:=by
     rw [<-hR]
     exact ⟨⟨⟨_,hl.tH⟩,hl.wr,hl.aN⟩,by omega⟩
    cbv
    exact .mk' l ⟨by exact bQ⟩ bW
end Go.Proofs.Pk
