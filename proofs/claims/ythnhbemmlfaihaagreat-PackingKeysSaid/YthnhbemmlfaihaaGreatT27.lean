import Derived.Test.YthnhbemmlfaihaaGreatT19
import Derived.Test.YthnhbemmlfaihaaGreatT21
import Derived.Test.YthnhbemmlfaihaaGreatT26
set_option linter.unusedVariables false
set_option linter.unusedSimpArgs false
set_option maxRecDepth 10000
set_option maxHeartbeats 64000000
namespace Go.Proofs.Pk
open Go Go.Vc
theorem KW (a b c d:Int) {j:Int} (h:0<=j/\j < 4):∃o,([a,b,c,d]:List Int)[j.toNat]?=some o/\(o=a\/o=b\/o=c\/o=d):=by
 have:j=0\/j=1\/j=2\/j=3:=by omega
 rcases this with h|h|h|h<;>rw [h]
 ·exact ⟨a,rfl,.inl rfl⟩
 ·exact ⟨b,rfl,.inr (.inl rfl)⟩
 ·exact ⟨c,rfl,.inr (.inr (.inl rfl))⟩
 ·exact ⟨d,rfl,.inr (.inr (.inr rfl))⟩
def eZ:Expr:=.mk 0 0 0 []
def PQ (r:s4):Prop:=1<=r.w/\r.w<=3/\r.next=eZ
def agF (x:Mem):Prop:=1<=x.w/\x.w<=2/\1<=x.words/\x.words<=4/\x.en=eZ/\x.ad=eZ/\x.da=eZ
def O8 (t:Take):Prop:=1<=t.w/\t.w<=2/\t.cond=eZ
def PS (t:rC):Prop:=1<=t.w/\t.w<=2/\t.cond=eZ/\t.data=eZ
structure agG where
 aN:List s4
 bd:List Mem
 aZ:List Take
 dX:List rC
structure Wd (y:agG):Prop where
 aN:y.aN.length<=3/\∀r∈y.aN,PQ r
 bd:y.bd.length<=1/\∀r∈y.bd,agF r
 aZ:y.aZ.length<=2/\∀r∈y.aZ,O8 r
 dX:y.dX.length<=2/\∀r∈y.dX,PS r
def sp:ByteArray:=⟨#[112]⟩
def sa:ByteArray:=⟨#[97]⟩
@[reducible] noncomputable def apy (m:Nat):mP where
 α:=Cu
 args x:=[.agg [.sl 1 iF (λ_=>x.b),.i .i64 (λ_=>(x.p:Int))]]
 io x:=[.dead,.dead,.dead,.dead]
 pre x:=qp x.b/\x.p<=1000
 β:=agG
 post x y:=Wd y
 mv:=[0,1,2,3]
 res x y:=.dE [.agg [.str (λ_=>sp),.str (λ_=>sa),.own 0,.own 1,.own 2,.own 3],.agg [.sl 1 bJ (λ_=>y.aN.map (·.w)),.sl 1 bJ (λ_=>y.aZ.map (·.w)),.own 1,.bc true],.agg [.sl 1 iF (λ_=>x.b),.i .i64 (λ_=>((x.p+9:Nat):Int))]]
 j8 x y:=[.dyn 159 13 (y4 m) (λ_=>y.aN),.dyn 163 27 (rZ m) (λ_=>y.bd),.dyn 154 9 (yO m) (λ_=>y.aZ),.dyn 161 16 (y5 m) (λ_=>y.dX)]
structure RW (A:Type) where
 i:Nat
 l:List A
 w:List Int
structure xD {A:Type} (ok:A->Prop) (wd:A->Int) (n:Int) (x:RW A):Prop where
 le:(x.i:Int)<=n
 len:x.l.length=x.i
 all:∀r∈x.l,ok r
 w:x.w=x.l.map wd
theorem xD.add {A:Type} {ok:A->Prop} {wd:A->Int} {n:Int} {i:Nat} {l:List A} {w:List Int} (h:xD ok wd n ⟨i,l,w⟩) (hi:(i:Int) < n) {r:A} (hr:ok r):xD ok wd n ⟨i+1,l++[r],w++[wd r]⟩:=by
 obtain ⟨h1,h2,h3,h4⟩:=h
 simp only at h1 h2 h3 h4
 refine ⟨by show ((i+1:Nat):Int)<=n;omega,by show (l++[r]).length=i+1;simp [h2],λx hx=>?_,by show w++[wd r]=(l++[r]).map wd;simp [h4]⟩
 rcases List.mem_append.1 hx with hx|hx
 ·exact h3 x hx
 ·simp at hx;rw [hx];exact hr
theorem xD.nil {A:Type} {ok:A->Prop} {wd:A->Int} {n:Int} (h:0<=n):xD ok wd n ⟨0,[],[]⟩:=⟨h,rfl,λx hx=>by simp at hx,rfl⟩
structure as6 (B:Int):Prop where
 lo:0<=B
 hi:B<=255
 d2:IntKind.i64.wrap (B.tdiv 2)=B / 2
 d4:IntKind.i64.wrap (B.tdiv 4)=B / 4
 d8:IntKind.i64.wrap (B.tdiv 8)=B / 8
 d16:IntKind.i64.wrap (B.tdiv 16)=B / 16
 d64:IntKind.i64.wrap (B.tdiv 64)=B / 64
theorem KX {b:List Int} (h:qp b) (p:Nat):as6 (eo b p):=by
 have hB:=JB h p
 exact ⟨hB.1,hB.2,w6 hB.1 (by omega) (by decide),w6 hB.1 (by omega) (by decide),w6 hB.1 (by omega) (by decide),w6 hB.1 (by omega) (by decide),w6 hB.1 (by omega) (by decide)⟩
theorem apz {S:List SV} {r:Bool} {P:Unit->Program} {c:Code} {s:Vc.St} {k:Exit->Vc.St->Prop} (n:Nat) (own:List (Vc.Place × Nat)) (s':Vc.St) (h0:qH (fit S n own s).t s'.t) (pT:nA (fit S n own s).b s'.b)
  (h:Sat S r P c s' k) (hn:mS (Nat.ble n) S=false:=by rfl):Sat S r P c s k:=⟨λF R f η H a w hS D=>by
 obtain ⟨η',D'⟩:=D.uP hS own
 exact h.out F R f η' H a w hS ((D'.cut n (by rw [hS];exact hn)).weaken ⟨h0,pT⟩)⟩
noncomputable def XY (bs:List Int) (p:Nat) (l:List s4) (ws:List Int) (ms:List Mem):Vc.St :=
 ⟨[.any,.ptr 4 0,.ptr 5 0,.ptr 6 0,.ptr 7 0,.i .i64 (λ_=>eo bs p),.ptr 8 0,.ptr 9 0,.any,.any,.any,.any,.ic .i64 0]++xA 150,
  [.dead,.dead,.dead,.dead,.fix 142 [.sl 1 iF (λ_=>bs),.i .i64 (λ_=>(p:Int))],
   .fix 33 [.str (λ_=>es),.str (λ_=>es),.di,.di,.di,.di],.fix 140 [.di,.di,.di,.bc false],.fix 142 [.di,.ic .i64 0],
   .fix 33 [.str (λ_=>sp),.str (λ_=>sa),.own 10,.own 15,.own 11,.own 12],.fix 140 [.own 13,.own 14,.own 15,.bc true],
   .dyn 159 13 (y4 2) (λ_=>l),.dyn 154 9 (yO 2) (λ_=>[]),.dyn 161 16 (y5 2) (λ_=>[]),.dyn 3 1 bJ (λ_=>ws),.dyn 3 1 bJ (λ_=>[]),.dyn 163 27 (rZ 2) (λ_=>ms)]⟩
noncomputable def cFr (n m:Nat):Ctx:=fl n m [] [(71,O4),(72,QI),(152,ae1),(153,ae2)]
theorem O9 (n m:Nat):CB PP (cFr n m):=fy n m trivial ⟨TS,UZ,aoq,aor,trivial⟩
theorem ani:iC PP 68 (apy 2):=by
 refine mA (O9 2 2) (fo Tryz.func68) (λa y=>rfl) (λa=>⟨rfl,rfl⟩) (by show ([0,1,2,3]:List Nat).Nodup;decide) ?_
 rintro ⟨bs,p⟩ hx
 obtain ⟨eM,hp⟩:qp bs/\p<=1000:=hx
 have B0:=KX eM p
 have jU:p<=1000000000:=by omega
 obtain ⟨k1,eT,azL⟩:=KW 1 1 2 3 (j:=(eo bs p).tmod 4) (by rw [kg B0.lo];omega)
 have u9:0<=(eo bs p).tmod 4:=by rw [kg B0.lo];omega
 have as7:0<=k1/\k1<=3:=by omega
 obtain ⟨k2,my,azM⟩:=KW 1 0 1 2 (j:=(IntKind.i64.wrap ((eo bs p).tdiv 16)).tmod 4) (by rw [B0.d16,kg (by have:=B0.lo;omega)];omega)
 have CL:0<=(IntKind.i64.wrap ((eo bs p).tdiv 16)).tmod 4:=by rw [B0.d16,kg (by have:=B0.lo;omega)];omega
 have as8:0<=k2/\k2<=2:=by omega
 obtain ⟨k3,nE,azN⟩:=KW 1 1 0 2 (j:=(IntKind.i64.wrap ((eo bs p).tdiv 64)).tmod 4) (by rw [B0.d64,kg (by have:=B0.lo;omega)];omega)
 have hj3:0<=(IntKind.i64.wrap ((eo bs p).tdiv 64)).tmod 4:=by rw [B0.d64,kg (by have:=B0.lo;omega)];omega
 have as9:0<=k3/\k3<=2:=by omega
 refine ⟨?_⟩
 cbv
 refine ⟨⟨bs,p⟩,⟨by exact bP,⟨eM,jU⟩⟩,?_⟩
 cbv
 refine Sat.iz 8 2 159 13 (JX 2) (GP 2) rfl rfl ?_
 refine Sat.iz 8 4 154 9 (JL 2) (Gy 2) rfl rfl ?_
 refine Sat.iz 8 5 161 16 (JZ 2) (GR 2) rfl rfl ?_
 refine Sat.iz 9 0 3 1 nN cM rfl rfl ?_
 refine Sat.iz 9 1 3 1 nN cM rfl rfl ?_
 refine Sat.Em 8 3 9 2 163 27 (JY 2) (GQ 2) (by decide) rfl rfl rfl rfl ?_
 refine Sat.ca (O9 2 2) 16 8 [(.c 8 2,10),(.c 9 0,13)] (λx:RW s4=>[(8,.i .i64 λ_=>(x.i:Int))]) (λx=>[(10,.dyn 159 13 (y4 2) λ_=>x.l),(13,.dyn 3 1 bJ λ_=>x.w)])
  (λx=>xD PQ (·.w) k1 x) (λx=>k1.toNat - x.i) ⟨0,[],[]⟩ (by exact ao) (by exact ao) (.nil as7.1) ?_
 rintro ⟨i,l,ws⟩ hJ
 have hJ:xD PQ (·.w) k1 ⟨i,l,ws⟩:=hJ
 have bp:(i:Int)<=k1:=hJ.le
 have Fk:l.length=i:=hJ.len
 have KY:l.length<=3:=by omega
 have U2:l.length<=3/\∀r∈l,PQ r:=⟨KY,hJ.all⟩
 have as_:ws=l.map (·.w):=hJ.w
 have h0:=n0 i
 have h1:=cd (i:=i) (by omega)
 cbv
 refine ⟨⟨by decide⟩,?_⟩
 cbv
 refine ⟨(k1,[1,1,2,3]),⟨by exact aJ,rfl,u9,eT⟩,?_⟩
 cbv
 refine ⟨λh=>?_,λh=>?_⟩
 ·have aR:(i:Int) < k1:=bE
  have a7:k1.toNat - (i+1) < k1.toNat - i:=by omega
  refine (⟨_,rfl⟩:∃j:Nat,j=1+i).elim λj hj=>?_
  have lX:IntKind.i64.wrap (1+(i:Int))=(j:Int):=by rw [cz (by omega) (by omega)];omega
  have LZ:j<=1000000000:=by omega
  refine (⟨_,rfl⟩:∃q:Nat,p+j=q).elim λq hq=>?_
  have FF:q<=1000000000:=by omega
  have FG:((p+j:Nat):Int)=(q:Int):=by rw [hq]
  have Bq:=KX eM q
  have L0:0<=(eo bs q).tmod 4/\(eo bs q).tmod 4 < 4:=by have:=Bq.lo;rw [kg this];omega
  refine (KW 1 2 1 3 L0).elim λwv p7=>?_
  have agH:1<=wv/\wv<=3:=by have:=p7.2;omega
  have hu:0<=IntKind.u64.wrap wv:=by rw [aaQ (by omega) (by omega)];omega
  have hni:=TU (n:=(i:Int)) h0
  refine (⟨_,rfl⟩:∃z,z=(IntKind.i64.wrap ((eo bs q).tdiv 16)).tmod 3).elim λz hz=>?_
  have uX:0<=z:=by have:=Bq.lo;rw [hz,Bq.d16,kg (by omega)];omega
  have hnz:=TU uX
  refine (⟨_,rfl⟩:∃rb,rb=IntKind.i64.wrap ((eo bs q).tdiv 16)).elim λrb L3=>?_
  have We:0<=rb:=by have:=Bq.lo;rw [L3,Bq.d16];omega
  refine (⟨_,rfl⟩:∃nm,nm=(⟨#[114]⟩:ByteArray)++AF i).elim λnm zt=>?_
  refine (⟨_,rfl⟩:∃rs,rs=(⟨#[114]⟩:ByteArray)++AF z).elim λrs hrs=>?_
  have LO:(⟨#[114]⟩:ByteArray).size=1:=rfl
  have s9:(⟨#[114]⟩:ByteArray).size+(AF i).size < 9223372036854775808:=by rw [LO];have:=hni.2.2;omega
  have hs3:(⟨#[114]⟩:ByteArray).size+(AF z).size < 9223372036854775808:=by rw [LO];have:=hnz.2.2;omega
  refine (⟨_,rfl⟩:∃iv,iv=lB .and .i64 (IntKind.i64.wrap ((eo bs q).tdiv 4)) (IntKind.i64.wrap (IntKind.i64.wrap (1*2^(min (IntKind.u64.wrap wv).toNat IntKind.i64.bits)) - 1))).elim λiv Ln=>?_
  refine (⟨_,rfl⟩:∃ru,ru=O7 rb rs).elim λru FH=>?_
  have bw:=hJ.add aR (r:=⟨nm,wv,iv,eZ,ru⟩) ⟨agH.1,agH.2,rfl⟩
  have C6:ws.length=i:=by have h1:ws=l.map (·.w):=hJ.w;rw [h1,oT,Fk]
  cbv
  refine ⟨⟨bs,p,j⟩,⟨by have bj:=lX;exact cN,⟨jU,LZ⟩⟩,?_⟩
  cbv
  refine ⟨⟨bs,q⟩,⟨by have bj:=FG;exact cN,⟨eM,FF⟩⟩,?_⟩
  cbv
  refine ⟨⟨by decide⟩,?_⟩
  cbv
  refine ⟨(wv,[1,2,1,3]),⟨by exact aJ,rfl,L0.1,p7.1⟩,?_⟩
  cbv
  refine ⟨i,⟨by exact bP,h0⟩,?_⟩
  cbv
  refine ⟨⟨s9⟩,⟨by decide⟩,⟨hu⟩,⟨by decide⟩,⟨by decide⟩,⟨by decide⟩,z,⟨by have bj:=hz.symm;exact cN,uX⟩,?_⟩
  cbv
  refine ⟨⟨hs3⟩,(rb,rs),⟨by have bj:=L3.symm;have LI:=hrs.symm;exact cN,We⟩,?_⟩
  cbv
  refine ⟨[⟨nm,wv,iv,eZ,ru⟩],⟨.eH rfl (λ_ _=>rfl) (λx=>(GP 2 x).1) (by have LI:=zt.symm;have bj:=Ln.symm;have lE:=congrArg nq.kind FH.symm;have XG:=congrArg nq.src FH.symm;have zk:=congrArg nq.n FH.symm;exact dv),by show (l.length+1)*160<=_;omega,by show l.length+1<=_;omega⟩,?_⟩
  cbv
  refine ⟨[wv],⟨by exact aJ,by show (ws.length+1)*8<=_;omega,by show ws.length+1<=_;omega⟩,?_⟩
  cbv
  exact ⟨⟨i+1,l++[⟨nm,wv,iv,eZ,ru⟩],ws++[wv]⟩,by have bj:=h1;exact bH,by exact ao,⟨⟨bw,a7⟩⟩⟩
 ·have bR:¬(i:Int) < k1:=bE
  cbv
  refine ⟨⟨by decide⟩,?_⟩
  cbv
  refine ⟨⟨by decide⟩,?_⟩
  cbv
  apply BQ (λc k=>∀ms:List Mem,ms.length<=1/\(∀r∈ms,agF r)->Sat [.any,.any,.any,.any] false PP c (XY bs p l ws ms) k)
  ·intro tail
   refine ⟨λh=>?_,λh=>?_⟩
   ·refine (⟨_,rfl⟩:∃q:Nat,p+4=q).elim λq hq=>?_
    have FF:q<=1000000000:=by omega
    have FG:((p+4:Nat):Int)=(q:Int):=by rw [hq]
    have h49:4<=1000000000:=by decide
    have Bq:=KX eM q
    have eW:=Bq.lo
    refine (⟨_,rfl⟩:∃wm,wm=IntKind.i64.wrap (1+(eo bs q).tmod 2)).elim λwm hwm=>?_
    have agI:1<=wm/\wm<=2:=by rw [hwm,kg eW,cz (by omega) (by omega)];omega
    have L0:0<=(IntKind.i64.wrap ((eo bs q).tdiv 2)).tmod 4/\(IntKind.i64.wrap ((eo bs q).tdiv 2)).tmod 4 < 4:=by rw [Bq.d2,kg (by omega)];omega
    refine (KW 2 1 4 2 L0).elim λwo QL=>?_
    have agJ:1<=wo/\wo<=4:=by have:=QL.2;omega
    refine (⟨_,rfl⟩:∃rb,rb=IntKind.i64.wrap ((eo bs q).tdiv 8)).elim λrb L3=>?_
    have We:0<=rb:=by rw [L3,Bq.d8];omega
    refine (⟨_,rfl⟩:∃ru,ru=O7 rb ⟨#[109,101,109,48]⟩).elim λru FH=>?_
    cbv
    refine ⟨⟨bs,p,4⟩,⟨by exact bP,⟨jU,h49⟩⟩,?_⟩
    cbv
    refine ⟨⟨bs,q⟩,⟨by have bj:=FG;exact cN,⟨eM,FF⟩⟩,?_⟩
    cbv
    refine ⟨⟨by decide⟩,⟨by decide⟩,⟨by decide⟩,(wo,[2,1,4,2]),⟨by exact aJ,rfl,L0.1,QL.1⟩,⟨by decide⟩,(rb,⟨#[109,101,109,48]⟩),⟨by have bj:=L3.symm;exact cN,We⟩,?_⟩
    cbv
    refine ⟨[⟨⟨#[109,101,109,48]⟩,wm,wo,eZ,eZ,eZ,ru⟩],⟨.eH rfl (λ_ _=>rfl) (λx=>(GQ 2 x).1) (by have bj:=hwm.symm;have lE:=congrArg nq.kind FH.symm;have LI:=congrArg nq.src FH.symm;have zk:=congrArg nq.n FH.symm;exact dv),by show (0+1)*352<=_;omega,by show 0+1<=_;omega⟩,?_⟩
    cbv
    exact apz 16 [(.c 8 3,15)] (XY bs p l ws [⟨⟨#[109,101,109,48]⟩,wm,wo,eZ,eZ,eZ,ru⟩]) (by exact ao) (by exact ao) (tail _ ⟨by show 1<=1;decide,λr hr=>by simp at hr;rw [hr];exact ⟨agI.1,agI.2,agJ.1,agJ.2,rfl,rfl,rfl⟩⟩)
   ·cbv
    exact kD 16 (XY bs p l ws []) (by exact ao) (by exact ao) (tail [] ⟨by decide,λr hr=>by simp at hr⟩)
  ·intro ms hms
   refine Sat.ca (O9 2 2) 16 12 [(.c 8 4,11),(.c 9 1,14)] (λx:RW Take=>[(12,.i .i64 λ_=>(x.i:Int))]) (λx=>[(11,.dyn 154 9 (yO 2) λ_=>x.l),(14,.dyn 3 1 bJ λ_=>x.w)])
    (λx=>xD O8 (·.w) k2 x) (λx=>k2.toNat - x.i) ⟨0,[],[]⟩ (by exact ao) (by exact ao) (.nil as8.1) ?_
   rintro ⟨i,tl,tw⟩ hJ
   have hJ:xD O8 (·.w) k2 ⟨i,tl,tw⟩:=hJ
   have bp:(i:Int)<=k2:=hJ.le
   have Fk:tl.length=i:=hJ.len
   have KY:tl.length<=2:=by omega
   have apA:tl.length<=2/\∀r∈tl,O8 r:=⟨KY,hJ.all⟩
   have agK:tw=tl.map (·.w):=hJ.w
   have C6:tw.length=i:=by rw [agK,oT,Fk]
   have h0:=n0 i
   have h1:=cd (i:=i) (by omega)
   cbv
   refine ⟨⟨by decide⟩,?_⟩
   cbv
   refine ⟨⟨by decide⟩,?_⟩
   cbv
   refine ⟨(k2,[1,0,1,2]),⟨by exact aJ,rfl,CL,my⟩,?_⟩
   cbv
   refine ⟨λh=>?_,λh=>?_⟩
   ·have aR:(i:Int) < k2:=bE
    have a7:k2.toNat - (i+1) < k2.toNat - i:=by omega
    refine (⟨_,rfl⟩:∃j:Nat,j=5+i).elim λj hj=>?_
    have lX:IntKind.i64.wrap (5+(i:Int))=(j:Int):=by rw [cz (by omega) (by omega)];omega
    have LZ:j<=1000000000:=by omega
    refine (⟨_,rfl⟩:∃q:Nat,p+j=q).elim λq hq=>?_
    have FF:q<=1000000000:=by omega
    have FG:((p+j:Nat):Int)=(q:Int):=by rw [hq]
    have Bq:=KX eM q
    have eW:=Bq.lo
    refine (⟨_,rfl⟩:∃wt,wt=IntKind.i64.wrap (1+(eo bs q).tmod 2)).elim λwt zu=>?_
    have KZ:1<=wt/\wt<=2:=by rw [zu,kg eW,cz (by omega) (by omega)];omega
    have bw:=hJ.add aR (r:=⟨i,wt,eZ⟩) ⟨KZ.1,KZ.2,rfl⟩
    have iD:(tl++[(⟨i,wt,eZ⟩:Take)])[(i:Int).toNat]?=some ⟨i,wt,eZ⟩:=by
     show (tl++[(⟨i,wt,eZ⟩:Take)])[i]?=_
     rw [uA (by omega),Fk,SD];rfl
    have ata:0<=(i:Int)/\(i:Int).toNat < (tl++[(⟨i,wt,eZ⟩:Take)]).length:=⟨h0,by rw [fZ,Fk];show i < i+1;omega⟩
    cbv
    refine ⟨⟨bs,p,j⟩,⟨by have bj:=lX;exact cN,⟨jU,LZ⟩⟩,?_⟩
    cbv
    refine ⟨⟨bs,q⟩,⟨by have bj:=FG;exact cN,⟨eM,FF⟩⟩,?_⟩
    cbv
    refine ⟨⟨by decide⟩,[⟨i,wt,eZ⟩],⟨.eH rfl (λ_ _=>rfl) (λx=>(Gy 2 x).1) (by have bj:=zu.symm;exact dv),by show (tl.length+1)*112<=_;omega,by show tl.length+1<=_;omega⟩,?_⟩
    cbv
    refine ⟨⟨ata⟩,⟨i,wt,eZ⟩,⟨iD,rfl⟩,[wt],⟨by exact aJ,by show (tw.length+1)*8<=_;omega,by show tw.length+1<=_;omega⟩,?_⟩
    cbv
    exact ⟨⟨i+1,tl++[⟨i,wt,eZ⟩],tw++[wt]⟩,by have bj:=h1;exact bH,by exact ao,⟨⟨bw,a7⟩⟩⟩
   ·cbv
    refine Sat.ca (O9 2 2) 16 13 [(.c 8 5,12)] (λx:RW rC=>[(13,.i .i64 λ_=>(x.i:Int))]) (λx=>[(12,.dyn 161 16 (y5 2) λ_=>x.l)])
     (λx=>xD PS (·.w) k3 x) (λx=>k3.toNat - x.i) ⟨0,[],[]⟩ (by exact ao) (by exact ao) (.nil as9.1) ?_
    rintro ⟨i,pl,pw⟩ hJ
    have hJ:xD PS (·.w) k3 ⟨i,pl,pw⟩:=hJ
    have bp:(i:Int)<=k3:=hJ.le
    have Fk:pl.length=i:=hJ.len
    have KY:pl.length<=2:=by omega
    have Kh:pl.length<=2/\∀r∈pl,PS r:=⟨KY,hJ.all⟩
    have h0:=n0 i
    have h1:=cd (i:=i) (by omega)
    cbv
    refine ⟨⟨by decide⟩,?_⟩
    cbv
    refine ⟨⟨by decide⟩,?_⟩
    cbv
    refine ⟨(k3,[1,1,0,2]),⟨by exact aJ,rfl,hj3,nE⟩,?_⟩
    cbv
    refine ⟨λh=>?_,λh=>?_⟩
    ·have aR:(i:Int) < k3:=bE
     have a7:k3.toNat - (i+1) < k3.toNat - i:=by omega
     refine (⟨_,rfl⟩:∃j:Nat,j=7+i).elim λj hj=>?_
     have lX:IntKind.i64.wrap (7+(i:Int))=(j:Int):=by rw [cz (by omega) (by omega)];omega
     have LZ:j<=1000000000:=by omega
     refine (⟨_,rfl⟩:∃q:Nat,p+j=q).elim λq hq=>?_
     have FF:q<=1000000000:=by omega
     have FG:((p+j:Nat):Int)=(q:Int):=by rw [hq]
     have Bq:=KX eM q
     have eW:=Bq.lo
     refine (⟨_,rfl⟩:∃wt,wt=IntKind.i64.wrap (1+(eo bs q).tmod 2)).elim λwt zu=>?_
     have KZ:1<=wt/\wt<=2:=by rw [zu,kg eW,cz (by omega) (by omega)];omega
     refine (⟨_,rfl⟩:∃ch,ch=IntKind.i64.wrap ((tl.length:Int)+i)).elim λch hch=>?_
     have bw:=hJ.add aR (r:=⟨ch,wt,eZ,eZ⟩) ⟨KZ.1,KZ.2,rfl,rfl⟩
     cbv
     refine ⟨⟨bs,p,j⟩,⟨by have bj:=lX;exact cN,⟨jU,LZ⟩⟩,?_⟩
     cbv
     refine ⟨⟨bs,q⟩,⟨by have bj:=FG;exact cN,⟨eM,FF⟩⟩,?_⟩
     cbv
     refine ⟨⟨by decide⟩,[⟨ch,wt,eZ,eZ⟩],⟨.eH rfl (λ_ _=>rfl) (λx=>(GR 2 x).1) (by have bj:=zu.symm;have lE:=hch.symm;exact dv),by show (pl.length+1)*208<=_;omega,by show pl.length+1<=_;omega⟩,?_⟩
     cbv
     exact ⟨⟨i+1,pl++[⟨ch,wt,eZ,eZ⟩],pw++[wt]⟩,by have bj:=h1;exact bH,by exact ao,⟨⟨bw,a7⟩⟩⟩
    ·have bV:Wd ⟨l,ms,tl,pl⟩:=⟨U2,hms,apA,Kh⟩
     have h99:9<=1000000000:=by decide
     cbv
     refine ⟨⟨bs,p,9⟩,⟨by exact bP,⟨jU,h99⟩⟩,?_⟩
     cbv
     refine ⟨⟨l,ms,tl,pl⟩,[13,14],[(.c 5 2,0),(.c 5 3,1),(.c 5 4,2),(.c 5 5,3)],?_,by exact ao,⟨bV⟩⟩
     cbv
     exact ⟨by have dG:=as_;have pe:=agK;exact dv,trivial⟩
structure Ik where
 gs:List Gate
 l:List Int
structure lC (ins:Int) (gs:List Gate) (k n:Nat) (y:Ik):Prop where
 ok:kK ins y.gs
 lo:gs.length<=y.gs.length
 hi:y.gs.length<=gs.length+k
 len:y.l.length=n
 n:∀v∈y.l,cH ins y.gs v
structure BV where
 ins:Int
 gs:List Gate
 l:List Int
def fE (ins:Int) (gs:List Gate) (l:List Int):Prop:=∀v∈l,cH ins gs v
theorem fE.mono {ins:Int} {gs cu:List Gate} {l:List Int} (h:fE ins gs l) (hl:gs.length<=cu.length):fE ins cu l:=λv hv=>(h v hv).mono hl
theorem fE.at {ins:Int} {gs:List Gate} {l:List Int} (h:fE ins gs l) {i:Nat} {v:Int} (hv:l[i]?=some v):cH ins gs v:=h v (b_ hv)
theorem fE.add {ins:Int} {gs:List Gate} {l:List Int} (h:fE ins gs l) {v:Int} (hv:cH ins gs v):fE ins gs (l++[v]):=λu hu=>by
 rcases List.mem_append.1 hu with hu|hu
 ·exact h u hu
 ·simp at hu;subst hu;exact hv
theorem fE.nil (ins:Int) (gs:List Gate):fE ins gs []:=λv hv=>(by simp at hv)
structure Room (ins:Int) (gs:List Gate) (k:Nat):Prop where
 ok:kK ins gs
 ins:0<=ins/\ins<=1000
 len:gs.length+k<=1000000000
structure LG where
 i:Nat
 gs:List Gate
 l:List Int
structure mh (ins:Int) (gs:List Gate) (k n:Nat) (x:LG):Prop where
 i:x.i<=n
 ok:kK ins x.gs
 lo:gs.length<=x.gs.length
 hi:x.gs.length<=gs.length+k*x.i
 len:x.l.length=x.i
 n:fE ins x.gs x.l
@[reducible] noncomputable def apB:fJ where
 α:=BV
 args x:=[.agg [.i .i64 (λ_=>x.ins),.sl 5 dB (λ_=>x.gs),.sl 1 bJ (λ_=>x.l)]]
 pre x:=Room x.ins x.gs x.l.length/\fE x.ins x.gs x.l/\x.l.length<=1000
 β:=Ik
 post x y:=lC x.ins x.gs x.l.length x.l.length y
 res x y:=.agg [.i .i64 (λ_=>x.ins),.sl 5 dB (λ_=>y.gs),.sl 1 bJ (λ_=>y.l)]
noncomputable def cCo (n m:Nat):Ctx:=fl n m [(223,Tryz.f223)] [] [223]
theorem ae3 (n m:Nat):CB PP (cCo n m):=fy n m ⟨fo Tryz.func223,trivial⟩ trivial
theorem abS:eI PP 228 apB:=by
 refine iI (ae3 0 0) (fo Tryz.func228) (λa=>⟨⟨trivial,(λx=>(eK x).1),(λx=>(cM x).1),trivial⟩,trivial⟩) (λa y=>⟨trivial,(λx=>(eK x).1),(λx=>(cM x).1),trivial⟩) ?_
 rintro ⟨ins,gs,l⟩ hx
 obtain ⟨hb,hn,hl⟩:Room ins gs l.length/\fE ins gs l/\l.length<=1000:=hx
 have dW:=hb.len
 refine ⟨?_⟩
 cbv
 refine Sat.iz 2 2 3 1 nN cM rfl rfl ?_
 refine Sat.ca (ae3 0 0) 4 4 [(.c 2 2,3)] (λx:LG=>[(4,.i .i64 λ_=>(x.i:Int))]) (λx=>[(2,.fix 289 [.i .i64 (λ_=>ins),.sl 5 dB (λ_=>x.gs),.own 3]),(3,.dyn 3 1 bJ λ_=>x.l)])
  (λx=>mh ins gs 1 l.length x) (λx=>l.length - x.i) ⟨0,gs,[]⟩ (by exact ao) (by exact ao) ⟨cJ _,hb.ok,cP _,cP _,rfl,.nil _ _⟩ ?_
 rintro ⟨i,cu,r⟩ ⟨hi,cq,eW,gy,hlen,hr⟩
 simp only at hi cq eW gy hlen hr
 cbv
 refine ⟨λh=>?_,λh=>?_⟩
 ·(have h:=h.out;simp (disch:=exact aU) only [hS] at h)
  have aR:i < l.length:=by exact aU
  obtain ⟨v,hv⟩:=bz aR
  have h1:=cd (i:=i) (by omega)
  have h0:=n0 i
  have jf:eu ins cu:=⟨cq,hb.ins,by omega⟩
  have jM:=(hn.mono eW).at hv
  have a7:l.length - (i+1) < l.length - i:=by omega
  cbv
  refine ⟨v,⟨h0,hv⟩,?_⟩
  cbv
  refine bU.rel yH ⟨ins,cu,v⟩ (by exact aJ) ⟨jf,jM⟩ λy hy=>?_
  have hy:dR ins cu 1 y:=hy.out
  cbv
  refine ⟨[y.n],⟨by exact aJ,by show (r.length+1)*8<=_;omega,by show r.length+1<=_;omega⟩,?_⟩
  cbv
  exact ⟨⟨i+1,y.gs,r++[y.n]⟩,by have bj:=h1;exact bH,by exact ao,⟨⟨by show i+1<=l.length;omega,hy.ok,by have:=hy.lo;show gs.length<=y.gs.length;omega,by have:=hy.hi;show y.gs.length<=gs.length+1*(i+1);omega,by show (r++[y.n]).length=i+1;simp [hlen],(hr.mono hy.lo).add hy.n⟩,a7⟩⟩
 ·(have h:=h.out;simp (disch:=exact aU) only [hS] at h)
  have bR:i=l.length:=by exact aU
  cbv
  exact .mk' ⟨cu,r⟩ ⟨by exact aJ⟩ ⟨cq,eW,by show cu.length<=gs.length+l.length;omega,by show r.length=l.length;omega,hr⟩
@[reducible] noncomputable def OpS:fJ where
 α:=x4 × Int
 args x:=[.agg [.i .i64 (λ_=>x.1.ins),.sl 5 dB (λ_=>x.1.gs)],.i .i64 (λ_=>x.2),.agg [.i .i64 (λ_=>x.1.x),.i .i64 (λ_=>x.1.y)]]
 pre x:=eu x.1.ins x.1.gs/\cH x.1.ins x.1.gs x.1.x/\cH x.1.ins x.1.gs x.1.y
 β:=pU
 post x y:=dR x.1.ins x.1.gs 1 y
 res x y:=.agg [.i .i64 (λ_=>x.1.ins),.sl 5 dB (λ_=>y.gs),.i .i64 (λ_=>y.n)]
noncomputable def cOp (n m:Nat):Ctx:=fl n m [(160,Tryz.f160),(224,Tryz.f224),(254,Tryz.f254)] [] [160,224,254]
theorem aqZ (n m:Nat):CB PP (cOp n m):=fy n m ⟨fo Tryz.func160,fo Tryz.func224,fo Tryz.func254,trivial⟩ trivial
theorem U3:eI PP 229 OpS:=by
 refine iI (aqZ 0 0) (fo Tryz.func229) (λa=>⟨⟨trivial,(λx=>(eK x).1),trivial⟩,trivial,⟨trivial,trivial,trivial⟩,trivial⟩) (λa y=>⟨trivial,(λx=>(eK x).1),trivial,trivial⟩) ?_
 rintro ⟨⟨ins,gs,x,y⟩,op⟩ hx
 obtain ⟨hb,hx,hy⟩:eu ins gs/\cH ins gs x/\cH ins gs y:=hx
 refine ⟨?_⟩
 cbv
 repeat' (first
  | (refine ⟨λh=>?_,λh=>?_⟩<;>cbv)
  | (refine bU.rel B4 ⟨ins,gs,x,y⟩ (by exact aJ) ⟨hb,hx,hy,trivial⟩ λu hu=>?_;have hu:dR ins gs 1 u:=hu.out;cbv;exact .mk' u ⟨by exact aJ⟩ hu)
  | (refine bU.rel G_ ⟨ins,gs,x,y⟩ (by exact aJ) ⟨hb,hx,hy,trivial⟩ λu hu=>?_;have hu:dR ins gs 1 u:=hu.out;cbv;exact .mk' u ⟨by exact aJ⟩ hu)
  | (refine bU.rel Oy ⟨ins,gs,x,y⟩ (by exact aJ) ⟨hb,hx,hy,trivial⟩ λu hu=>?_;have hu:dR ins gs 1 u:=hu.out;cbv;exact .mk' u ⟨by exact aJ⟩ hu))
structure BVV where
 ins:Int
 gs:List Gate
 l:List Int
 y:List Int
structure LGC where
 i:Nat
 gs:List Gate
 l:List Int
 c:Int
@[reducible] noncomputable def atb:fJ where
 α:=BVV × Int
 args x:=[.agg [.i .i64 (λ_=>x.1.ins),.sl 5 dB (λ_=>x.1.gs),.sl 1 bJ (λ_=>x.1.l)],.sl 1 bJ (λ_=>x.1.y),.i .i64 (λ_=>x.2)]
 pre x:=Room x.1.ins x.1.gs (3*x.1.l.length+20)/\fE x.1.ins x.1.gs x.1.l/\x.1.l.length<=1000/\fE x.1.ins x.1.gs x.1.y/\x.1.y.length=x.1.l.length/\cH x.1.ins x.1.gs x.2
 β:=Ik
 post x y:=lC x.1.ins x.1.gs (3*x.1.l.length) x.1.l.length y
 res x y:=.agg [.i .i64 (λ_=>x.1.ins),.sl 5 dB (λ_=>y.gs),.sl 1 bJ (λ_=>y.l)]
noncomputable def cSu (n m:Nat):Ctx:=fl n m [(254,Tryz.f254),(255,Tryz.f255)] [] [254,255]
theorem ae4 (n m:Nat):CB PP (cSu n m):=fy n m ⟨fo Tryz.func254,fo Tryz.func255,trivial⟩ trivial
theorem adU:eI PP 230 atb:=by
 refine iI (ae4 0 0) (fo Tryz.func230) (λa=>⟨⟨trivial,(λx=>(eK x).1),(λx=>(cM x).1),trivial⟩,(λx=>(cM x).1),trivial,trivial⟩) (λa y=>⟨trivial,(λx=>(eK x).1),(λx=>(cM x).1),trivial⟩) ?_
 rintro ⟨⟨ins,gs,l,ys⟩,c0⟩ hx
 obtain ⟨hb,hn,hl,hm,rA,hc⟩:Room ins gs (3*l.length+20)/\fE ins gs l/\l.length<=1000/\fE ins gs ys/\ys.length=l.length/\cH ins gs c0:=hx
 have dW:=hb.len
 refine ⟨?_⟩
 cbv
 refine Sat.iz 2 2 3 1 nN cM rfl rfl ?_
 refine Sat.ca (ae4 0 0) 4 8 [(.c 2 2,3)] (λx:LGC=>[(2,.i .i64 λ_=>x.c),(8,.i .i64 λ_=>(x.i:Int))]) (λx=>[(2,.fix 289 [.i .i64 (λ_=>ins),.sl 5 dB (λ_=>x.gs),.own 3]),(3,.dyn 3 1 bJ λ_=>x.l)])
  (λx=>mh ins gs 3 l.length ⟨x.i,x.gs,x.l⟩/\cH ins x.gs x.c) (λx=>l.length - x.i) ⟨0,gs,[],c0⟩ (by exact ao) (by exact ao) ⟨⟨cJ _,hb.ok,cP _,cP _,rfl,.nil _ _⟩,hc⟩ ?_
 rintro ⟨i,cu,r,c⟩ ⟨⟨hi,cq,eW,gy,hlen,hr⟩,tW⟩
 simp only at hi cq eW gy hlen hr tW
 cbv
 refine ⟨λh=>?_,λh=>?_⟩
 ·(have h:=h.out;simp (disch:=exact aU) only [hS] at h)
  have aR:i < l.length:=by exact aU
  obtain ⟨v,hv⟩:=bz aR
  obtain ⟨u,hu⟩:=bz (l:=ys) (i:=i) (by omega)
  have h1:=cd (i:=i) (by omega)
  have h0:=n0 i
  have jf:eu ins cu:=⟨cq,hb.ins,by omega⟩
  have jM:=(hn.mono eW).at hv
  have uc:=(hm.mono eW).at hu
  cbv
  refine ⟨v,⟨h0,hv⟩,?_⟩
  cbv
  refine ⟨u,⟨h0,hu⟩,?_⟩
  cbv
  refine bU.rel Oy ⟨ins,cu,v,u⟩ (by exact aJ) ⟨jf,jM,uc,trivial⟩ λy hy=>?_
  have hy:dR ins cu 1 y:=hy.out
  have y1:=hy.hi
  have y0:=hy.lo
  have oD:=tW.mono hy.lo
  cbv
  refine bU.rel Oy ⟨ins,y.gs,y.n,c⟩ (by exact aJ) ⟨jf.next hy (by omega),hy.n,oD,trivial⟩ λz hz=>?_
  have hz:dR ins y.gs 1 z:=hz.out
  have z1:=hz.hi
  have z0:=hz.lo
  cbv
  refine ⟨[z.n],⟨by exact aJ,by show (r.length+1)*8<=_;omega,by show r.length+1<=_;omega⟩,?_⟩
  have pc:eu ins z.gs:=⟨hz.ok,hb.ins,by omega⟩
  have rF:=((hr.mono hy.lo).mono hz.lo).add hz.n
  have C7:=oD.mono hz.lo
  have Ig:=(jM.mono hy.lo).mono hz.lo
  have XZ:=(uc.mono hy.lo).mono hz.lo
  cbv
  refine ⟨λh=>?_,λh=>?_⟩
  ·cbv
   refine ⟨v,⟨h0,hv⟩,?_⟩
   cbv
   refine ⟨u,⟨h0,hu⟩,?_⟩
   cbv
   refine bU.rel adH ⟨ins,z.gs,v,u,c⟩ (by exact aJ) ⟨⟨pc,by show z.gs.length+10<=_;omega⟩,Ig,XZ,C7⟩ λm iu=>?_
   have iu:dR ins z.gs 1 m:=iu.out
   have m1:=iu.hi
   have m0:=iu.lo
   cbv
   exact ⟨⟨i+1,m.gs,r++[z.n],m.n⟩,by have bj:=h1;exact bH,by exact ao,⟨⟨⟨by show i+1<=l.length;omega,iu.ok,by show gs.length<=m.gs.length;omega,by show m.gs.length<=gs.length+3*(i+1);omega,by show (r++[z.n]).length=i+1;simp [hlen],rF.mono iu.lo⟩,iu.n⟩,by show l.length - (i+1) < l.length - i;omega⟩⟩
  ·cbv
   exact ⟨⟨i+1,z.gs,r++[z.n],c⟩,by have bj:=h1;exact bH,by exact ao,⟨⟨⟨by show i+1<=l.length;omega,hz.ok,by show gs.length<=z.gs.length;omega,by show z.gs.length<=gs.length+3*(i+1);omega,by show (r++[z.n]).length=i+1;simp [hlen],rF⟩,C7⟩,by show l.length - (i+1) < l.length - i;omega⟩⟩
 ·(have h:=h.out;simp (disch:=exact aU) only [hS] at h)
  have bR:i=l.length:=by exact aU
  cbv
  exact .mk' ⟨cu,r⟩ ⟨by exact aJ⟩ ⟨cq,eW,by show cu.length<=gs.length+3*l.length;omega,by show r.length=l.length;omega,hr⟩
@[reducible] noncomputable def agL (k:Nat):fJ where
 α:=BVV
 args x:=[.agg [.i .i64 (λ_=>x.ins),.sl 5 dB (λ_=>x.gs),.sl 1 bJ (λ_=>x.l)],.sl 1 bJ (λ_=>x.y)]
 pre x:=Room x.ins x.gs (3*x.l.length+20)/\fE x.ins x.gs x.l/\x.l.length<=1000/\fE x.ins x.gs x.y/\x.y.length=x.l.length
 β:=Ik
 post x y:=lC x.ins x.gs (3*x.l.length+k) 1 y
 res x y:=.agg [.i .i64 (λ_=>x.ins),.sl 5 dB (λ_=>y.gs),.sl 1 bJ (λ_=>y.l)]
structure LC where
 i:Nat
 gs:List Gate
 c:Int
structure agM (ins:Int) (gs:List Gate) (n:Nat) (x:LC):Prop where
 i:x.i<=n
 ok:kK ins x.gs
 lo:gs.length<=x.gs.length
 hi:x.gs.length<=gs.length+3*x.i
 n:cH ins x.gs x.c
noncomputable def cEq (n m:Nat):Ctx:=fl n m [(254,Tryz.f254),(223,Tryz.f223),(160,Tryz.f160)] [] [254,223,160]
theorem ae5 (n m:Nat):CB PP (cEq n m):=fy n m ⟨fo Tryz.func254,fo Tryz.func223,fo Tryz.func160,trivial⟩ trivial
theorem anj:eI PP 231 (agL 0):=by
 refine iI (ae5 0 0) (fo Tryz.func231) (λa=>⟨⟨trivial,(λx=>(eK x).1),(λx=>(cM x).1),trivial⟩,(λx=>(cM x).1),trivial⟩) (λa y=>⟨trivial,(λx=>(eK x).1),(λx=>(cM x).1),trivial⟩) ?_
 rintro ⟨ins,gs,l,ys⟩ hx
 obtain ⟨hb,hn,hl,hm,rA⟩:Room ins gs (3*l.length+20)/\fE ins gs l/\l.length<=1000/\fE ins gs ys/\ys.length=l.length:=hx
 have dW:=hb.len
 refine ⟨?_⟩
 cbv
 refine Sat.ca (ae5 0 0) 3 6 [] (λx:LC=>[(6,.i .i64 λ_=>x.c),(7,.i .i64 λ_=>(x.i:Int))]) (λx=>[(2,.fix 275 [.i .i64 (λ_=>ins),.sl 5 dB (λ_=>x.gs)])])
  (λx=>agM ins gs l.length x) (λx=>l.length - x.i) ⟨0,gs,1⟩ (by exact ao) (by exact ao) ⟨cJ _,hb.ok,cP _,cP _,.one hb.ins.1⟩ ?_
 rintro ⟨i,cu,c⟩ ⟨hi,cq,eW,gy,tW⟩
 simp only at hi cq eW gy tW
 cbv
 refine ⟨λh=>?_,λh=>?_⟩
 ·(have h:=h.out;simp (disch:=exact aU) only [hS] at h)
  have aR:i < l.length:=by exact aU
  have a7:l.length - (i+1) < l.length - i:=by omega
  obtain ⟨v,hv⟩:=bz aR
  obtain ⟨u,hu⟩:=bz (l:=ys) (i:=i) (by omega)
  have h1:=cd (i:=i) (by omega)
  have h0:=n0 i
  have jf:eu ins cu:=⟨cq,hb.ins,by omega⟩
  have jM:=(hn.mono eW).at hv
  have uc:=(hm.mono eW).at hu
  cbv
  refine ⟨v,⟨h0,hv⟩,?_⟩
  cbv
  refine ⟨u,⟨h0,hu⟩,?_⟩
  cbv
  refine bU.rel Oy ⟨ins,cu,v,u⟩ (by exact aJ) ⟨jf,jM,uc,trivial⟩ λy hy=>?_
  have hy:dR ins cu 1 y:=hy.out
  have y1:=hy.hi
  have y0:=hy.lo
  have pc:=jf.next hy (by omega)
  cbv
  refine bU.rel yH ⟨ins,y.gs,y.n⟩ (by exact aJ) ⟨pc,hy.n⟩ λz hz=>?_
  have hz:dR ins y.gs 1 z:=hz.out
  have z1:=hz.hi
  have z0:=hz.lo
  have LS:=pc.next hz (by omega)
  have C7:=(tW.mono hy.lo).mono hz.lo
  cbv
  refine bU.rel B4 ⟨ins,z.gs,c,z.n⟩ (by exact aJ) ⟨LS,C7,hz.n,trivial⟩ λm iu=>?_
  have iu:dR ins z.gs 1 m:=iu.out
  have m1:=iu.hi
  have m0:=iu.lo
  cbv
  exact ⟨⟨i+1,m.gs,m.n⟩,by have bj:=h1;exact bH,by exact ao,⟨⟨by show i+1<=l.length;omega,iu.ok,by show gs.length<=m.gs.length;omega,by show m.gs.length<=gs.length+3*(i+1);omega,iu.n⟩,a7⟩⟩
 ·(have h:=h.out;simp (disch:=exact aU) only [hS] at h)
  cbv
  exact .mk' ⟨cu,[c]⟩ ⟨by exact aJ⟩ ⟨cq,eW,by show cu.length<=gs.length+(3*l.length+0);omega,rfl,λv hv=>by simp at hv;subst hv;exact tW⟩
noncomputable def cLs (n m:Nat):Ctx:=fl n m [(223,Tryz.f223),(255,Tryz.f255)] [] [223,255]
theorem ae6 (n m:Nat):CB PP (cLs n m):=fy n m ⟨fo Tryz.func223,fo Tryz.func255,trivial⟩ trivial
theorem aos:eI PP 232 (agL 1):=by
 refine iI (ae6 0 0) (fo Tryz.func232) (λa=>⟨⟨trivial,(λx=>(eK x).1),(λx=>(cM x).1),trivial⟩,(λx=>(cM x).1),trivial⟩) (λa y=>⟨trivial,(λx=>(eK x).1),(λx=>(cM x).1),trivial⟩) ?_
 rintro ⟨ins,gs,l,ys⟩ hx
 obtain ⟨hb,hn,hl,hm,rA⟩:Room ins gs (3*l.length+20)/\fE ins gs l/\l.length<=1000/\fE ins gs ys/\ys.length=l.length:=hx
 have dW:=hb.len
 refine ⟨?_⟩
 cbv
 refine Sat.ca (ae6 0 0) 3 6 [] (λx:LC=>[(6,.i .i64 λ_=>x.c),(7,.i .i64 λ_=>(x.i:Int))]) (λx=>[(2,.fix 275 [.i .i64 (λ_=>ins),.sl 5 dB (λ_=>x.gs)])])
  (λx=>agM ins gs l.length x) (λx=>l.length - x.i) ⟨0,gs,1⟩ (by exact ao) (by exact ao) ⟨cJ _,hb.ok,cP _,cP _,.one hb.ins.1⟩ ?_
 rintro ⟨i,cu,c⟩ ⟨hi,cq,eW,gy,tW⟩
 simp only at hi cq eW gy tW
 have jf:eu ins cu:=⟨cq,hb.ins,by omega⟩
 cbv
 refine ⟨λh=>?_,λh=>?_⟩
 ·(have h:=h.out;simp (disch:=exact aU) only [hS] at h)
  have aR:i < l.length:=by exact aU
  have a7:l.length - (i+1) < l.length - i:=by omega
  obtain ⟨v,hv⟩:=bz aR
  obtain ⟨u,hu⟩:=bz (l:=ys) (i:=i) (by omega)
  have h1:=cd (i:=i) (by omega)
  have h0:=n0 i
  have jM:=(hn.mono eW).at hv
  have uc:=(hm.mono eW).at hu
  cbv
  refine ⟨u,⟨h0,hu⟩,?_⟩
  cbv
  refine bU.rel yH ⟨ins,cu,u⟩ (by exact aJ) ⟨jf,uc⟩ λy hy=>?_
  have hy:dR ins cu 1 y:=hy.out
  have y1:=hy.hi
  have y0:=hy.lo
  have pc:=jf.next hy (by omega)
  have Ig:=jM.mono hy.lo
  have C7:=tW.mono hy.lo
  cbv
  refine ⟨v,⟨h0,hv⟩,?_⟩
  cbv
  refine bU.rel adH ⟨ins,y.gs,v,y.n,c⟩ (by exact aJ) ⟨⟨pc,by show y.gs.length+10<=_;omega⟩,Ig,hy.n,C7⟩ λm iu=>?_
  have iu:dR ins y.gs 1 m:=iu.out
  have m1:=iu.hi
  have m0:=iu.lo
  cbv
  exact ⟨⟨i+1,m.gs,m.n⟩,by have bj:=h1;exact bH,by exact ao,⟨⟨by show i+1<=l.length;omega,iu.ok,by show gs.length<=m.gs.length;omega,by show m.gs.length<=gs.length+3*(i+1);omega,iu.n⟩,a7⟩⟩
 ·(have h:=h.out;simp (disch:=exact aU) only [hS] at h)
  cbv
  refine bU.rel yH ⟨ins,cu,c⟩ (by exact aJ) ⟨jf,tW⟩ λy hy=>?_
  have hy:dR ins cu 1 y:=hy.out
  have y1:=hy.hi
  have y0:=hy.lo
  cbv
  exact .mk' ⟨y.gs,[y.n]⟩ ⟨by exact aJ⟩ ⟨hy.ok,by show gs.length<=y.gs.length;omega,by show y.gs.length<=gs.length+(3*l.length+1);omega,rfl,λv hv=>by simp at hv;subst hv;exact hy.n⟩
structure WI where
 l:List bT
 w:bT
def AG (l:List bT) (w:bT):Int:=match l.findIdx? (λx=>decide (x=w)) with
 | some i=>i
 | none=>-1
theorem ank (l:List bT) (w:bT):-1<=AG l w/\AG l w < l.length:=by
 unfold AG
 split
 ·rename_i i hi
  have:=(DM.1 hi).1
  omega
 ·omega
@[reducible] noncomputable def Ki:Vc.Spec where
 α:=WI
 args x:=[.sl 3 dc (λ_=>x.l),.agg (dc x.w)]
 pre x:=x.l.length<=1000000
 res x:=.i .i64 (λ_=>AG x.l x.w)
theorem N2:cS (PP ()) 222 Ki:=by
 refine dP (iJ 0 0) (fo Tryz.func222) (λa=>⟨(λx=>(gL x).1),(gL a.w).1,trivial⟩) (λa=>trivial) ?_
 rintro ⟨l,w⟩ hx
 have hl:l.length<=1000000:=hx
 refine ⟨?_⟩
 cbv
 refine Sat.ca (iJ 0 0) 1 4 [] (λi:Nat=>[(5,.i .i64 λ_=>(i:Int))]) (λ_=>[]) (λi=>i<=l.length/\∀j,j < i->l[j]?≠some w) (λi=>l.length - i) 0 (by exact ao) (by exact ao) ⟨by omega,λj hj=>by omega⟩ ?_
 rintro i ⟨hi,et⟩
 cbv
 refine ⟨λh=>?_,λh=>?_⟩
 ·(have h:=h.out;simp (disch:=exact aU) only [hS] at h)
  have aR:i < l.length:=by exact aU
  have a7:l.length - (i+1) < l.length - i:=by omega
  obtain ⟨x,hx⟩:=bz aR
  have h1:=cd (i:=i) (by omega)
  have h0:=n0 i
  cbv
  refine ⟨x,⟨h0,hx⟩,?_⟩
  cbv
  refine ⟨λh=>?_,λh=>?_⟩
  ·have h:=h.out
   have e:x=w:=by simp [aV] at h;cases x;cases w;simp at h ⊢;omega
   have hw:AG l w=i:=by
    unfold AG
    have:l.findIdx? (λx=>decide (x=w))=some i:=by
     rw [DM]
     refine ⟨aR,by rw [eh aR] at hx;simp at hx;simp [hx,e],λj hj=>?_⟩
     have:=et j hj
     rw [eh (by omega)] at this
     simpa using this
    rw [this]
   cbv
   exact ⟨.i hw.symm⟩
  ·have h:=h.out
   have e:x≠w:=by rintro rfl;simp [aV] at h
   cbv
   exact ⟨i+1,by have bj:=h1;exact bH,by exact ao,⟨⟨aR,λj hj=>by
    by_cases nC:j=i
    ·subst nC;rw [hx];simpa using e
    ·exact et j (by omega)⟩,a7⟩⟩
 ·(have h:=h.out;simp (disch:=exact aU) only [hS] at h)
  have bR:i=l.length:=by exact aU
  have hw:AG l w=-1:=by
   unfold AG
   have:l.findIdx? (λx=>decide (x=w))=none:=by
    rw [Jq]
    intro x hx
    obtain ⟨j,hj⟩:=na hx
    have eA:=(bX.1 hj).1
    have:=et j (by omega)
    rw [hj] at this
    simpa using this
   rw [this]
  cbv
  exact ⟨.ic hw.symm⟩
structure AL where
 l:List Int
 w:Int
structure JN (l y:List Int):Prop where
 len:y.length=3
 mem:∀v∈y,v=0\/v∈l
@[reducible] noncomputable def aq0:fJ where
 α:=AL
 args x:=[.sl 1 bJ (λ_=>x.l),.i .i64 (λ_=>x.w)]
 pre x:=x.l.length<=1000
 β:=List Int
 post x y:=JN x.l y
 res x y:=.sl 1 bJ (λ_=>y)
noncomputable def cAd (n m:Nat):Ctx:=fl n m [] [] [] [] [] [35]
theorem ae7 (n m:Nat):CB PP (cAd n m):=fy n m trivial trivial
theorem acX:eI PP 163 aq0:=by
 refine iI (ae7 0 0) (fo Tryz.func163) (λa=>⟨(λx=>(cM x).1),trivial,trivial⟩) (λa y=>(λx=>(cM x).1)) ?_
 rintro ⟨l,w⟩ hx
 have hl:l.length<=1000:=hx
 refine ⟨?_⟩
 cbv
 refine ⟨[0,0,0],⟨by exact aJ,rfl⟩,?_⟩
 cbv
 refine Sat.ca (ae7 0 0) 1 6 [] (λx:Nat × List Int=>[(6,.i .i64 λ_=>(x.1:Int))]) (λx=>[(0,.dyn 3 1 bJ λ_=>x.2)]) (λx=>x.1<=3/\JN l x.2) (λx=>3 - x.1) ⟨0,[0,0,0]⟩ (by exact ao) (by exact ao) ⟨by omega,rfl,λv hv=>by simp at hv;exact .inl hv⟩ ?_
 rintro ⟨i,y⟩ ⟨hi,hlen,eN⟩
 simp only at hi hlen eN
 have h0:=n0 i
 have h1:=cd (i:=i) (by omega)
 have hc:IntKind.u64.wrap (i:Int)=i:=by
  have:i=0\/i=1\/i=2\/i=3:=by omega
  rcases this with rfl|rfl|rfl|rfl<;>rfl
 cbv
 refine ⟨λh=>?_,λh=>?_⟩
 ·(have h:=h.out;simp (disch:=exact aU) only [hS] at h)
  have aR:i < 3:=by exact aU
  cbv
  refine ⟨λh=>?_,λh=>?_⟩
  ·(have h:=h.out;simp (disch:=exact aU) only [hS] at h)
   have vV:i < l.length:=by exact aU
   obtain ⟨v,hv⟩:=bz vV
   cbv
   refine ⟨⟨by rw [hc];exact h0⟩,?_⟩
   cbv
   refine ⟨λh=>?_,λh=>?_⟩
   ·cbv
    refine ⟨v,⟨h0,hv⟩,?_⟩
    have Qm:i < y.length:=by omega
    obtain ⟨u,hu⟩:=bz Qm
    have a7:3 - (i+1) < 3 - i:=by omega
    have mC:i+1<=3:=by omega
    have bV:JN l (y.set i v):=⟨by rw [kB];exact hlen,λz hz=>by
     rcases R9 hz with hz|rfl
     ·exact eN z hz
     ·exact .inr (b_ hv)⟩
    cbv
    refine ⟨⟨h0,Qm⟩,?_⟩
    cbv
    refine ⟨(u,v),⟨hu,rfl,by exact aJ⟩,?_⟩
    cbv
    exact ⟨(i+1,y.set i v),by have bj:=h1;exact bH,by exact ao,⟨⟨mC,bV⟩,a7⟩⟩
   ·cbv
    exact .mk' y ⟨by exact aJ⟩ ⟨hlen,eN⟩
  ·cbv
   exact .mk' y ⟨by exact aJ⟩ ⟨hlen,eN⟩
 ·cbv
  exact .mk' y ⟨by exact aJ⟩ ⟨hlen,eN⟩
end Go.Proofs.Pk
