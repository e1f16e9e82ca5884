import Derived.Test.YthnhbemmlfaihaaGreatT12
import Derived.Test.YthnhbemmlfaihaaGreatT22
set_option linter.unusedVariables false
set_option linter.unusedSimpArgs false
set_option maxRecDepth 10000
set_option maxHeartbeats 64000000
namespace Go.Proofs.Pk
open Go Go.Vc
theorem LI (a b c d:Int) {j:Int} (h:0<=j/\j < 4):∃o,([a,b,c,d]:List Int)[j.toNat]?=some o/\(o=a\/o=b\/o=c\/o=d):=by
 have:j=0\/j=1\/j=2\/j=3:=by omega
 rcases this with h|h|h|h<;>rw [h]
 ·exact ⟨a,rfl,.inl rfl⟩
 ·exact ⟨b,rfl,.inr (.inl rfl)⟩
 ·exact ⟨c,rfl,.inr (.inr (.inl rfl))⟩
 ·exact ⟨d,rfl,.inr (.inr (.inr rfl))⟩
def eZ:Expr:=.mk 0 0 0 []
def QE (r:tE):Prop:=1<=r.w/\r.w<=3/\r.next=eZ
def ahK (x:Mem):Prop:=1<=x.w/\x.w<=2/\1<=x.words/\x.words<=4/\x.en=eZ/\x.ad=eZ/\x.da=eZ
def PW (t:Take):Prop:=1<=t.w/\t.w<=2/\t.cond=eZ
def QF (t:rX):Prop:=1<=t.w/\t.w<=2/\t.cond=eZ/\t.data=eZ
structure ahL where
 aN:List tE
 bf:List Mem
 aZ:List Take
 ec:List rX
structure Xb (y:ahL):Prop where
 aN:y.aN.length<=3/\∀r∈y.aN,QE r
 bf:y.bf.length<=1/\∀r∈y.bf,ahK r
 aZ:y.aZ.length<=2/\∀r∈y.aZ,PW r
 ec:y.ec.length<=2/\∀r∈y.ec,QF r
def sp:ByteArray:=⟨#[112]⟩
def sa:ByteArray:=⟨#[97]⟩
@[reducible] noncomputable def aqN (m:Nat):na where
 α:=Cu
 args x:=[.agg [.sl 1 iN (λ_=>x.b),.i .i64 (λ_=>(x.p:Int))]]
 io x:=[.dead,.dead,.dead,.dead]
 pre x:=qN x.b/\x.p<=1000
 β:=ahL
 post x y:=Xb y
 mv:=[0,1,2,3]
 res x y:=.dH [.agg [.str (λ_=>sp),.str (λ_=>sa),.own 0,.own 1,.own 2,.own 3],.agg [.sl 1 bK (λ_=>y.aN.map (·.w)),.sl 1 bK (λ_=>y.aZ.map (·.w)),.own 1,.bc true],.agg [.sl 1 iN (λ_=>x.b),.i .i64 (λ_=>((x.p+9:Nat):Int))]]
 ko x y:=[.dyn 159 13 (zD m) (λ_=>y.aN),.dyn 163 27 (sF m) (λ_=>y.bf),.dyn 154 9 (zn m) (λ_=>y.aZ),.dyn 161 16 (zF m) (λ_=>y.ec)]
structure RW (A:Type) where
 i:Nat
 l:List A
 w:List Int
structure x7 {A:Type} (ok:A->Prop) (wd:A->Int) (n:Int) (x:RW A):Prop where
 le:(x.i:Int)<=n
 len:x.l.length=x.i
 all:∀r∈x.l,ok r
 w:x.w=x.l.map wd
theorem x7.add {A:Type} {ok:A->Prop} {wd:A->Int} {n:Int} {i:Nat} {l:List A} {w:List Int} (h:x7 ok wd n ⟨i,l,w⟩) (hi:(i:Int) < n) {r:A} (hr:ok r):x7 ok wd n ⟨i+1,l++[r],w++[wd r]⟩:=by
 obtain ⟨h1,h2,h3,h4⟩:=h
 simp only at h1 h2 h3 h4
 refine ⟨by show ((i+1:Nat):Int)<=n;omega,by show (l++[r]).length=i+1;simp [h2],λx hx=>?_,by show w++[wd r]=(l++[r]).map wd;simp [h4]⟩
 rcases List.mem_append.1 hx with hx|hx
 ·exact h3 x hx
 ·simp at hx;rw [hx];exact hr
theorem x7.nil {A:Type} {ok:A->Prop} {wd:A->Int} {n:Int} (h:0<=n):x7 ok wd n ⟨0,[],[]⟩:=⟨h,rfl,λx hx=>by simp at hx,rfl⟩
structure aut (B:Int):Prop where
 lo:0<=B
 hi:B<=255
 d2:IntKind.i64.wrap (B.tdiv 2)=B / 2
 d4:IntKind.i64.wrap (B.tdiv 4)=B / 4
 d8:IntKind.i64.wrap (B.tdiv 8)=B / 8
 d16:IntKind.i64.wrap (B.tdiv 16)=B / 16
 d64:IntKind.i64.wrap (B.tdiv 64)=B / 64
theorem LJ {b:List Int} (h:qN b) (p:Nat):aut (eu b p):=by
 have hB:=Kd h p
 exact ⟨hB.1,hB.2,xB hB.1 (by omega) (by decide),xB hB.1 (by omega) (by decide),xB hB.1 (by omega) (by decide),xB hB.1 (by omega) (by decide),xB hB.1 (by omega) (by decide)⟩
theorem aqO {S:List SV} {r:Bool} {P:Unit->Program} {c:Code} {s:Vc.St} {k:Exit->Vc.St->Prop} (n:Nat) (own:List (Vc.Place × Nat)) (s':Vc.St) (h0:ra (fit S n own s).t s'.t) (qp:nQ (fit S n own s).b s'.b)
  (h:Sat S r P c s' k) (hn:nh (Nat.ble n) S=false:=by rfl):Sat S r P c s k:=⟨λF R f η H a w hS D=>by
 obtain ⟨η',D'⟩:=D.vn hS own
 exact h.out F R f η' H a w hS ((D'.cut n (by rw [hS];exact hn)).weaken ⟨h0,qp⟩)⟩
noncomputable def YT (bs:List Int) (p:Nat) (l:List tE) (ws:List Int) (ms:List Mem):Vc.St :=
 ⟨[.any,.ptr 4 0,.ptr 5 0,.ptr 6 0,.ptr 7 0,.i .i64 (λ_=>eu bs p),.ptr 8 0,.ptr 9 0,.any,.any,.any,.any,.ic .i64 0]++x4 150,
  [.dead,.dead,.dead,.dead,.fix 142 [.sl 1 iN (λ_=>bs),.i .i64 (λ_=>(p:Int))],
   .fix 33 [.str (λ_=>es),.str (λ_=>es),.dp,.dp,.dp,.dp],.fix 140 [.dp,.dp,.dp,.bc false],.fix 142 [.dp,.ic .i64 0],
   .fix 33 [.str (λ_=>sp),.str (λ_=>sa),.own 10,.own 15,.own 11,.own 12],.fix 140 [.own 13,.own 14,.own 15,.bc true],
   .dyn 159 13 (zD 2) (λ_=>l),.dyn 154 9 (zn 2) (λ_=>[]),.dyn 161 16 (zF 2) (λ_=>[]),.dyn 3 1 bK (λ_=>ws),.dyn 3 1 bK (λ_=>[]),.dyn 163 27 (sF 2) (λ_=>ms)]⟩
noncomputable def cFr (n m:Nat):Ctx:=fy n m [] [(71,PS),(72,Ry),(152,af4),(153,af5)]
theorem PX (n m:Nat):CB PP (cFr n m):=fF n m trivial ⟨UJ,VR,apF,apG,trivial⟩
theorem aow:iK PP 68 (aqN 2):=by
 refine mP (PX 2 2) (fo Tryz.func68) (λa y=>rfl) (λa=>⟨rfl,rfl⟩) (by show ([0,1,2,3]:List Nat).Nodup;decide) ?_
 rintro ⟨bs,p⟩ hx
 obtain ⟨eQ,hp⟩:qN bs/\p<=1000:=hx
 have B0:=LJ eQ p
 have j4:p<=1000000000:=by omega
 obtain ⟨k1,eX,aA8⟩:=LI 1 1 2 3 (j:=(eu bs p).tmod 4) (by rw [kA B0.lo];omega)
 have vF:0<=(eu bs p).tmod 4:=by rw [kA B0.lo];omega
 have auu:0<=k1/\k1<=3:=by omega
 obtain ⟨k2,mO,aA9⟩:=LI 1 0 1 2 (j:=(IntKind.i64.wrap ((eu bs p).tdiv 16)).tmod 4) (by rw [B0.d16,kA (by have:=B0.lo;omega)];omega)
 have Dh:0<=(IntKind.i64.wrap ((eu bs p).tdiv 16)).tmod 4:=by rw [B0.d16,kA (by have:=B0.lo;omega)];omega
 have auv:0<=k2/\k2<=2:=by omega
 obtain ⟨k3,nU,aBa⟩:=LI 1 1 0 2 (j:=(IntKind.i64.wrap ((eu bs p).tdiv 64)).tmod 4) (by rw [B0.d64,kA (by have:=B0.lo;omega)];omega)
 have hj3:0<=(IntKind.i64.wrap ((eu bs p).tdiv 64)).tmod 4:=by rw [B0.d64,kA (by have:=B0.lo;omega)];omega
 have auw:0<=k3/\k3<=2:=by omega
 refine ⟨?_⟩
 cbv
 refine ⟨⟨bs,p⟩,⟨by exact bQ,⟨eQ,j4⟩⟩,?_⟩
 cbv
 refine Sat.iH 8 2 159 13 (KC 2) (Ht 2) rfl rfl ?_
 refine Sat.iH 8 4 154 9 (Kp 2) (Hi 2) rfl rfl ?_
 refine Sat.iH 8 5 161 16 (KF 2) (Hw 2) rfl rfl ?_
 refine Sat.iH 9 0 3 1 n8 cP rfl rfl ?_
 refine Sat.iH 9 1 3 1 n8 cP rfl rfl ?_
 refine Sat.EX 8 3 9 2 163 27 (KE 2) (Hu 2) (by decide) rfl rfl rfl rfl ?_
 refine Sat.cd (PX 2 2) 16 8 [(.c 8 2,10),(.c 9 0,13)] (λx:RW tE=>[(8,.i .i64 λ_=>(x.i:Int))]) (λx=>[(10,.dyn 159 13 (zD 2) λ_=>x.l),(13,.dyn 3 1 bK λ_=>x.w)])
  (λx=>x7 QE (·.w) k1 x) (λx=>k1.toNat - x.i) ⟨0,[],[]⟩ (by exact ao) (by exact ao) (.nil auu.1) ?_
 rintro ⟨i,l,ws⟩ hJ
 have hJ:x7 QE (·.w) k1 ⟨i,l,ws⟩:=hJ
 have bq:(i:Int)<=k1:=hJ.le
 have FY:l.length=i:=hJ.len
 have LM:l.length<=3:=by omega
 have VT:l.length<=3/\∀r∈l,QE r:=⟨LM,hJ.all⟩
 have auy:ws=l.map (·.w):=hJ.w
 have h0:=n0 i
 have h1:=cj (i:=i) (by omega)
 cbv
 refine ⟨⟨by decide⟩,?_⟩
 cbv
 refine ⟨(k1,[1,1,2,3]),⟨by exact aL,rfl,vF,eX⟩,?_⟩
 cbv
 refine ⟨λh=>?_,λh=>?_⟩
 ·have aR:(i:Int) < k1:=bG
  have a7:k1.toNat - (i+1) < k1.toNat - i:=by omega
  refine (⟨_,rfl⟩:∃j:Nat,j=1+i).elim λj hj=>?_
  have mr:IntKind.i64.wrap (1+(i:Int))=(j:Int):=by rw [cD (by omega) (by omega)];omega
  have MF:j<=1000000000:=by omega
  refine (⟨_,rfl⟩:∃q:Nat,p+j=q).elim λq hq=>?_
  have Gg:q<=1000000000:=by omega
  have Gh:((p+j:Nat):Int)=(q:Int):=by rw [hq]
  have Bq:=LJ eQ q
  have MG:0<=(eu bs q).tmod 4/\(eu bs q).tmod 4 < 4:=by have:=Bq.lo;rw [kA this];omega
  refine (LI 1 2 1 3 MG).elim λwv qx=>?_
  have ahM:1<=wv/\wv<=3:=by have:=qx.2;omega
  have hu:0<=IntKind.u64.wrap wv:=by rw [abP (by omega) (by omega)];omega
  have hni:=UL (n:=(i:Int)) h0
  refine (⟨_,rfl⟩:∃z,z=(IntKind.i64.wrap ((eu bs q).tdiv 16)).tmod 3).elim λz hz=>?_
  have vy:0<=z:=by have:=Bq.lo;rw [hz,Bq.d16,kA (by omega)];omega
  have hnz:=UL vy
  refine (⟨_,rfl⟩:∃rb,rb=IntKind.i64.wrap ((eu bs q).tdiv 16)).elim λrb MH=>?_
  have Xc:0<=rb:=by have:=Bq.lo;rw [MH,Bq.d16];omega
  refine (⟨_,rfl⟩:∃nm,nm=(⟨#[114]⟩:ByteArray)++Bc i).elim λnm z7=>?_
  refine (⟨_,rfl⟩:∃rs,rs=(⟨#[114]⟩:ByteArray)++Bc z).elim λrs hrs=>?_
  have Mv:(⟨#[114]⟩:ByteArray).size=1:=rfl
  have tK:(⟨#[114]⟩:ByteArray).size+(Bc i).size < 9223372036854775808:=by rw [Mv];have:=hni.2.2;omega
  have hs3:(⟨#[114]⟩:ByteArray).size+(Bc z).size < 9223372036854775808:=by rw [Mv];have:=hnz.2.2;omega
  refine (⟨_,rfl⟩:∃iv,iv=kT .and .i64 (IntKind.i64.wrap ((eu bs q).tdiv 4)) (IntKind.i64.wrap (IntKind.i64.wrap (1*2^(min (IntKind.u64.wrap wv).toNat IntKind.i64.bits)) - 1))).elim λiv Mb=>?_
  refine (⟨_,rfl⟩:∃ru,ru=PV rb rs).elim λru Gi=>?_
  have bA:=hJ.add aR (r:=⟨nm,wv,iv,eZ,ru⟩) ⟨ahM.1,ahM.2,rfl⟩
  have DE:ws.length=i:=by have h1:ws=l.map (·.w):=hJ.w;rw [h1,ph,FY]
  cbv
  refine ⟨⟨bs,p,j⟩,⟨by have bm:=mr;exact cQ,⟨j4,MF⟩⟩,?_⟩
  cbv
  refine ⟨⟨bs,q⟩,⟨by have bm:=Gh;exact cQ,⟨eQ,Gg⟩⟩,?_⟩
  cbv
  refine ⟨⟨by decide⟩,?_⟩
  cbv
  refine ⟨(wv,[1,2,1,3]),⟨by exact aL,rfl,MG.1,qx.1⟩,?_⟩
  cbv
  refine ⟨i,⟨by exact bQ,h0⟩,?_⟩
  cbv
  refine ⟨⟨tK⟩,⟨by decide⟩,⟨hu⟩,⟨by decide⟩,⟨by decide⟩,⟨by decide⟩,z,⟨by have bm:=hz.symm;exact cQ,vy⟩,?_⟩
  cbv
  refine ⟨⟨hs3⟩,(rb,rs),⟨by have bm:=MH.symm;have Ms:=hrs.symm;exact cQ,Xc⟩,?_⟩
  cbv
  refine ⟨[⟨nm,wv,iv,eZ,ru⟩],⟨.eL rfl (λ_ _=>rfl) (λx=>(Ht 2 x).1) (by have Ms:=z7.symm;have bm:=Mb.symm;have lR:=congrArg nI.kind Gi.symm;have YB:=congrArg nI.src Gi.symm;have zU:=congrArg nI.n Gi.symm;exact dy),by show (l.length+1)*160<=_;omega,by show l.length+1<=_;omega⟩,?_⟩
  cbv
  refine ⟨[wv],⟨by exact aL,by show (ws.length+1)*8<=_;omega,by show ws.length+1<=_;omega⟩,?_⟩
  cbv
  exact ⟨⟨i+1,l++[⟨nm,wv,iv,eZ,ru⟩],ws++[wv]⟩,by have bm:=h1;exact bI,by exact ao,⟨⟨bA,a7⟩⟩⟩
 ·have bS:¬(i:Int) < k1:=bG
  cbv
  refine ⟨⟨by decide⟩,?_⟩
  cbv
  refine ⟨⟨by decide⟩,?_⟩
  cbv
  apply Co (λc k=>∀ms:List Mem,ms.length<=1/\(∀r∈ms,ahK r)->Sat [.any,.any,.any,.any] false PP c (YT bs p l ws ms) k)
  ·intro tail
   refine ⟨λh=>?_,λh=>?_⟩
   ·refine (⟨_,rfl⟩:∃q:Nat,p+4=q).elim λq hq=>?_
    have Gg:q<=1000000000:=by omega
    have Gh:((p+4:Nat):Int)=(q:Int):=by rw [hq]
    have h49:4<=1000000000:=by decide
    have Bq:=LJ eQ q
    have fa:=Bq.lo
    refine (⟨_,rfl⟩:∃wm,wm=IntKind.i64.wrap (1+(eu bs q).tmod 2)).elim λwm hwm=>?_
    have ahN:1<=wm/\wm<=2:=by rw [hwm,kA fa,cD (by omega) (by omega)];omega
    have MG:0<=(IntKind.i64.wrap ((eu bs q).tdiv 2)).tmod 4/\(IntKind.i64.wrap ((eu bs q).tdiv 2)).tmod 4 < 4:=by rw [Bq.d2,kA (by omega)];omega
    refine (LI 2 1 4 2 MG).elim λwo RB=>?_
    have ahO:1<=wo/\wo<=4:=by have:=RB.2;omega
    refine (⟨_,rfl⟩:∃rb,rb=IntKind.i64.wrap ((eu bs q).tdiv 8)).elim λrb MH=>?_
    have Xc:0<=rb:=by rw [MH,Bq.d8];omega
    refine (⟨_,rfl⟩:∃ru,ru=PV rb ⟨#[109,101,109,48]⟩).elim λru Gi=>?_
    cbv
    refine ⟨⟨bs,p,4⟩,⟨by exact bQ,⟨j4,h49⟩⟩,?_⟩
    cbv
    refine ⟨⟨bs,q⟩,⟨by have bm:=Gh;exact cQ,⟨eQ,Gg⟩⟩,?_⟩
    cbv
    refine ⟨⟨by decide⟩,⟨by decide⟩,⟨by decide⟩,(wo,[2,1,4,2]),⟨by exact aL,rfl,MG.1,RB.1⟩,⟨by decide⟩,(rb,⟨#[109,101,109,48]⟩),⟨by have bm:=MH.symm;exact cQ,Xc⟩,?_⟩
    cbv
    refine ⟨[⟨⟨#[109,101,109,48]⟩,wm,wo,eZ,eZ,eZ,ru⟩],⟨.eL rfl (λ_ _=>rfl) (λx=>(Hu 2 x).1) (by have bm:=hwm.symm;have lR:=congrArg nI.kind Gi.symm;have Ms:=congrArg nI.src Gi.symm;have zU:=congrArg nI.n Gi.symm;exact dy),by show (0+1)*352<=_;omega,by show 0+1<=_;omega⟩,?_⟩
    cbv
    exact aqO 16 [(.c 8 3,15)] (YT bs p l ws [⟨⟨#[109,101,109,48]⟩,wm,wo,eZ,eZ,eZ,ru⟩]) (by exact ao) (by exact ao) (tail _ ⟨by show 1<=1;decide,λr hr=>by simp at hr;rw [hr];exact ⟨ahN.1,ahN.2,ahO.1,ahO.2,rfl,rfl,rfl⟩⟩)
   ·cbv
    exact kQ 16 (YT bs p l ws []) (by exact ao) (by exact ao) (tail [] ⟨by decide,λr hr=>by simp at hr⟩)
  ·intro ms hms
   refine Sat.cd (PX 2 2) 16 12 [(.c 8 4,11),(.c 9 1,14)] (λx:RW Take=>[(12,.i .i64 λ_=>(x.i:Int))]) (λx=>[(11,.dyn 154 9 (zn 2) λ_=>x.l),(14,.dyn 3 1 bK λ_=>x.w)])
    (λx=>x7 PW (·.w) k2 x) (λx=>k2.toNat - x.i) ⟨0,[],[]⟩ (by exact ao) (by exact ao) (.nil auv.1) ?_
   rintro ⟨i,tl,tw⟩ hJ
   have hJ:x7 PW (·.w) k2 ⟨i,tl,tw⟩:=hJ
   have bq:(i:Int)<=k2:=hJ.le
   have FY:tl.length=i:=hJ.len
   have LM:tl.length<=2:=by omega
   have aqP:tl.length<=2/\∀r∈tl,PW r:=⟨LM,hJ.all⟩
   have ahP:tw=tl.map (·.w):=hJ.w
   have DE:tw.length=i:=by rw [ahP,ph,FY]
   have h0:=n0 i
   have h1:=cj (i:=i) (by omega)
   cbv
   refine ⟨⟨by decide⟩,?_⟩
   cbv
   refine ⟨⟨by decide⟩,?_⟩
   cbv
   refine ⟨(k2,[1,0,1,2]),⟨by exact aL,rfl,Dh,mO⟩,?_⟩
   cbv
   refine ⟨λh=>?_,λh=>?_⟩
   ·have aR:(i:Int) < k2:=bG
    have a7:k2.toNat - (i+1) < k2.toNat - i:=by omega
    refine (⟨_,rfl⟩:∃j:Nat,j=5+i).elim λj hj=>?_
    have mr:IntKind.i64.wrap (5+(i:Int))=(j:Int):=by rw [cD (by omega) (by omega)];omega
    have MF:j<=1000000000:=by omega
    refine (⟨_,rfl⟩:∃q:Nat,p+j=q).elim λq hq=>?_
    have Gg:q<=1000000000:=by omega
    have Gh:((p+j:Nat):Int)=(q:Int):=by rw [hq]
    have Bq:=LJ eQ q
    have fa:=Bq.lo
    refine (⟨_,rfl⟩:∃wt,wt=IntKind.i64.wrap (1+(eu bs q).tmod 2)).elim λwt z8=>?_
    have LO:1<=wt/\wt<=2:=by rw [z8,kA fa,cD (by omega) (by omega)];omega
    have bA:=hJ.add aR (r:=⟨i,wt,eZ⟩) ⟨LO.1,LO.2,rfl⟩
    have iL:(tl++[(⟨i,wt,eZ⟩:Take)])[(i:Int).toNat]?=some ⟨i,wt,eZ⟩:=by
     show (tl++[(⟨i,wt,eZ⟩:Take)])[i]?=_
     rw [u4 (by omega),FY,Tz];rfl
    have auz:0<=(i:Int)/\(i:Int).toNat < (tl++[(⟨i,wt,eZ⟩:Take)]).length:=⟨h0,by rw [gk,FY];show i < i+1;omega⟩
    cbv
    refine ⟨⟨bs,p,j⟩,⟨by have bm:=mr;exact cQ,⟨j4,MF⟩⟩,?_⟩
    cbv
    refine ⟨⟨bs,q⟩,⟨by have bm:=Gh;exact cQ,⟨eQ,Gg⟩⟩,?_⟩
    cbv
    refine ⟨⟨by decide⟩,[⟨i,wt,eZ⟩],⟨.eL rfl (λ_ _=>rfl) (λx=>(Hi 2 x).1) (by have bm:=z8.symm;exact dy),by show (tl.length+1)*112<=_;omega,by show tl.length+1<=_;omega⟩,?_⟩
    cbv
    refine ⟨⟨auz⟩,⟨i,wt,eZ⟩,⟨iL,rfl⟩,[wt],⟨by exact aL,by show (tw.length+1)*8<=_;omega,by show tw.length+1<=_;omega⟩,?_⟩
    cbv
    exact ⟨⟨i+1,tl++[⟨i,wt,eZ⟩],tw++[wt]⟩,by have bm:=h1;exact bI,by exact ao,⟨⟨bA,a7⟩⟩⟩
   ·cbv
    refine Sat.cd (PX 2 2) 16 13 [(.c 8 5,12)] (λx:RW rX=>[(13,.i .i64 λ_=>(x.i:Int))]) (λx=>[(12,.dyn 161 16 (zF 2) λ_=>x.l)])
     (λx=>x7 QF (·.w) k3 x) (λx=>k3.toNat - x.i) ⟨0,[],[]⟩ (by exact ao) (by exact ao) (.nil auw.1) ?_
    rintro ⟨i,pl,pw⟩ hJ
    have hJ:x7 QF (·.w) k3 ⟨i,pl,pw⟩:=hJ
    have bq:(i:Int)<=k3:=hJ.le
    have FY:pl.length=i:=hJ.len
    have LM:pl.length<=2:=by omega
    have K0:pl.length<=2/\∀r∈pl,QF r:=⟨LM,hJ.all⟩
    have h0:=n0 i
    have h1:=cj (i:=i) (by omega)
    cbv
    refine ⟨⟨by decide⟩,?_⟩
    cbv
    refine ⟨⟨by decide⟩,?_⟩
    cbv
    refine ⟨(k3,[1,1,0,2]),⟨by exact aL,rfl,hj3,nU⟩,?_⟩
    cbv
    refine ⟨λh=>?_,λh=>?_⟩
    ·have aR:(i:Int) < k3:=bG
     have a7:k3.toNat - (i+1) < k3.toNat - i:=by omega
     refine (⟨_,rfl⟩:∃j:Nat,j=7+i).elim λj hj=>?_
     have mr:IntKind.i64.wrap (7+(i:Int))=(j:Int):=by rw [cD (by omega) (by omega)];omega
     have MF:j<=1000000000:=by omega
     refine (⟨_,rfl⟩:∃q:Nat,p+j=q).elim λq hq=>?_
     have Gg:q<=1000000000:=by omega
     have Gh:((p+j:Nat):Int)=(q:Int):=by rw [hq]
     have Bq:=LJ eQ q
     have fa:=Bq.lo
     refine (⟨_,rfl⟩:∃wt,wt=IntKind.i64.wrap (1+(eu bs q).tmod 2)).elim λwt z8=>?_
     have LO:1<=wt/\wt<=2:=by rw [z8,kA fa,cD (by omega) (by omega)];omega
     refine (⟨_,rfl⟩:∃ch,ch=IntKind.i64.wrap ((tl.length:Int)+i)).elim λch hch=>?_
     have bA:=hJ.add aR (r:=⟨ch,wt,eZ,eZ⟩) ⟨LO.1,LO.2,rfl,rfl⟩
     cbv
     refine ⟨⟨bs,p,j⟩,⟨by have bm:=mr;exact cQ,⟨j4,MF⟩⟩,?_⟩
     cbv
     refine ⟨⟨bs,q⟩,⟨by have bm:=Gh;exact cQ,⟨eQ,Gg⟩⟩,?_⟩
     cbv
     refine ⟨⟨by decide⟩,[⟨ch,wt,eZ,eZ⟩],⟨.eL rfl (λ_ _=>rfl) (λx=>(Hw 2 x).1) (by have bm:=z8.symm;have lR:=hch.symm;exact dy),by show (pl.length+1)*208<=_;omega,by show pl.length+1<=_;omega⟩,?_⟩
     cbv
     exact ⟨⟨i+1,pl++[⟨ch,wt,eZ,eZ⟩],pw++[wt]⟩,by have bm:=h1;exact bI,by exact ao,⟨⟨bA,a7⟩⟩⟩
    ·have bW:Xb ⟨l,ms,tl,pl⟩:=⟨VT,hms,aqP,K0⟩
     have h99:9<=1000000000:=by decide
     cbv
     refine ⟨⟨bs,p,9⟩,⟨by exact bQ,⟨j4,h99⟩⟩,?_⟩
     cbv
     refine ⟨⟨l,ms,tl,pl⟩,[13,14],[(.c 5 2,0),(.c 5 3,1),(.c 5 4,2),(.c 5 5,3)],?_,by exact ao,⟨bW⟩⟩
     cbv
     exact ⟨by have dJ:=auy;have pH:=ahP;exact dy,trivial⟩
end Go.Proofs.Pk
