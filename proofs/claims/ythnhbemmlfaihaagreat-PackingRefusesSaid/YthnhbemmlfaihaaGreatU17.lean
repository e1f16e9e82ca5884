import Derived.Test.YthnhbemmlfaihaaGreatU7
import Derived.Test.YthnhbemmlfaihaaGreatU16
set_option linter.unusedVariables false
set_option linter.unusedSimpArgs false
set_option maxRecDepth 10000
set_option maxHeartbeats 64000000
namespace Go.Proofs.Pk
open Go Go.Vc
theorem Lr (a b c d:Int) {j:Int} (h:0<=j/\j < 4):∃o,([a,b,c,d]:List Int)[j.toNat]?=some o/\(o=a\/o=b\/o=c\/o=d):=by
 have:j=0\/j=1\/j=2\/j=3:=by omega
 rcases this with h|h|h|h<;>rw [h]
 ·exact ⟨a,rfl,.inl rfl⟩
 ·exact ⟨b,rfl,.inr (.inl rfl)⟩
 ·exact ⟨c,rfl,.inr (.inr (.inl rfl))⟩
 ·exact ⟨d,rfl,.inr (.inr (.inr rfl))⟩
def eZ:Expr:=.mk 0 0 0 []
def QF (r:tv):Prop:=1<=r.w/\r.w<=3/\r.next=eZ
def ahA (x:Mem):Prop:=1<=x.w/\x.w<=2/\1<=x.words/\x.words<=4/\x.en=eZ/\x.ad=eZ/\x.da=eZ
def PY (t:Take):Prop:=1<=t.w/\t.w<=2/\t.cond=eZ
def QG (t:rV):Prop:=1<=t.w/\t.w<=2/\t.cond=eZ/\t.data=eZ
structure ahB where
 aM:List tv
 bf:List Mem
 a8:List Take
 dZ:List rV
structure W8 (y:ahB):Prop where
 aM:y.aM.length<=3/\∀r∈y.aM,QF r
 bf:y.bf.length<=1/\∀r∈y.bf,ahA r
 a8:y.a8.length<=2/\∀r∈y.a8,PY r
 dZ:y.dZ.length<=2/\∀r∈y.dZ,QG r
def sp:ByteArray:=⟨#[112]⟩
def sa:ByteArray:=⟨#[97]⟩
@[reducible] noncomputable def aqt (m:Nat):na where
 α:=Cu
 args x:=[.agg [.sl 1 jq (λ_=>x.b),.i .i64 (λ_=>(x.p:Int))]]
 io x:=[.dead,.dead,.dead,.dead]
 pre x:=se x.b/\x.p<=1000
 β:=ahB
 post x y:=W8 y
 mv:=[0,1,2,3]
 res x y:=.dG [.agg [.str (λ_=>sp),.str (λ_=>sa),.own 0,.own 1,.own 2,.own 3],.agg [.sl 1 bM (λ_=>y.aM.map (·.w)),.sl 1 bM (λ_=>y.a8.map (·.w)),.own 1,.bc true],.agg [.sl 1 jq (λ_=>x.b),.i .i64 (λ_=>((x.p+9:Nat):Int))]]
 kx x y:=[.dyn 159 13 (zm m) (λ_=>y.aM),.dyn 163 27 (sA m) (λ_=>y.bf),.dyn 154 9 (y8 m) (λ_=>y.a8),.dyn 161 16 (zn m) (λ_=>y.dZ)]
structure RW (A:Type) where
 i:Nat
 l:List A
 w:List Int
structure xV {A:Type} (ok:A->Prop) (wd:A->Int) (n:Int) (x:RW A):Prop where
 le:(x.i:Int)<=n
 len:x.l.length=x.i
 all:∀r∈x.l,ok r
 w:x.w=x.l.map wd
theorem xV.add {A:Type} {ok:A->Prop} {wd:A->Int} {n:Int} {i:Nat} {l:List A} {w:List Int} (h:xV ok wd n ⟨i,l,w⟩) (hi:(i:Int) < n) {r:A} (hr:ok r):xV ok wd n ⟨i+1,l++[r],w++[wd r]⟩:=by
 obtain ⟨h1,h2,h3,h4⟩:=h
 simp only at h1 h2 h3 h4
 refine ⟨by show ((i+1:Nat):Int)<=n;omega,by show (l++[r]).length=i+1;simp [h2],λx hx=>?_,by show w++[wd r]=(l++[r]).map wd;simp [h4]⟩
 rcases eP.1 hx with hx|hx
 ·exact h3 x hx
 ·simp at hx;rw [hx];exact hr
theorem xV.nil {A:Type} {ok:A->Prop} {wd:A->Int} {n:Int} (h:0<=n):xV ok wd n ⟨0,[],[]⟩:=⟨h,rfl,λx hx=>by simp at hx,rfl⟩
structure aua (B:Int):Prop where
 lo:0<=B
 hi:B<=255
 d2:IntKind.i64.wrap (B.tdiv 2)=B / 2
 d4:IntKind.i64.wrap (B.tdiv 4)=B / 4
 d8:IntKind.i64.wrap (B.tdiv 8)=B / 8
 d16:IntKind.i64.wrap (B.tdiv 16)=B / 16
 d64:IntKind.i64.wrap (B.tdiv 64)=B / 64
theorem Ls {b:List Int} (h:se b) (p:Nat):aua (ep b p):=by
 have hB:=J1 h p
 exact ⟨hB.1,hB.2,xt hB.1 (by omega) (by decide),xt hB.1 (by omega) (by decide),xt hB.1 (by omega) (by decide),xt hB.1 (by omega) (by decide),xt hB.1 (by omega) (by decide)⟩
theorem aqu {S:List SV} {r:Bool} {P:Unit->Program} {c:Code} {s:Vc.St} {k:Exit->Vc.St->Prop} (n:Nat) (own:List (Vc.Place × Nat)) (s':Vc.St) (h0:qZ (fit S n own s).t s'.t) (qg:nM (fit S n own s).b s'.b)
  (h:Sat S r P c s' k) (hn:nh (Nat.ble n) S=false:=by rfl):Sat S r P c s k:=⟨λF R f η H a w hS D=>by
 obtain ⟨η',D'⟩:=D.vd hS own
 exact h.out F R f η' H a w hS ((D'.cut n (by rw [hS];exact hn)).weaken ⟨h0,qg⟩)⟩
noncomputable def YK (bs:List Int) (p:Nat) (l:List tv) (ws:List Int) (ms:List Mem):Vc.St :=
 ⟨[.any,.ptr 4 0,.ptr 5 0,.ptr 6 0,.ptr 7 0,.i .i64 (λ_=>ep bs p),.ptr 8 0,.ptr 9 0,.any,.any,.any,.any,.ic .i64 0]++xS 150,
  [.dead,.dead,.dead,.dead,.fix 142 [.sl 1 jq (λ_=>bs),.i .i64 (λ_=>(p:Int))],
   .fix 33 [.str (λ_=>es),.str (λ_=>es),.dg,.dg,.dg,.dg],.fix 140 [.dg,.dg,.dg,.bc false],.fix 142 [.dg,.ic .i64 0],
   .fix 33 [.str (λ_=>sp),.str (λ_=>sa),.own 10,.own 15,.own 11,.own 12],.fix 140 [.own 13,.own 14,.own 15,.bc true],
   .dyn 159 13 (zm 2) (λ_=>l),.dyn 154 9 (y8 2) (λ_=>[]),.dyn 161 16 (zn 2) (λ_=>[]),.dyn 3 1 bM (λ_=>ws),.dyn 3 1 bM (λ_=>[]),.dyn 163 27 (sA 2) (λ_=>ms)]⟩
noncomputable def cFr (n m:Nat):Ctx:=fB n m [] [(71,PU),(72,RA),(152,afV),(153,afW)]
theorem PZ (n m:Nat):CB PP (cFr n m):=fG n m trivial ⟨Uy,VG,apk,apl,trivial⟩
theorem aof:iM PP 68 (aqt 2):=by
 refine mM (PZ 2 2) (fo Tryz.func68) (λa y=>rfl) (λa=>⟨rfl,rfl⟩) (by show ([0,1,2,3]:List Nat).Nodup;decide) ?_
 rintro ⟨bs,p⟩ hx
 obtain ⟨eS,hp⟩:se bs/\p<=1000:=hx
 have B0:=Ls eS p
 have j8:p<=1000000000:=by omega
 obtain ⟨k1,eT,aBo⟩:=Lr 1 1 2 3 (j:=(ep bs p).tmod 4) (by rw [kC B0.lo];omega)
 have vz:0<=(ep bs p).tmod 4:=by rw [kC B0.lo];omega
 have aub:0<=k1/\k1<=3:=by omega
 obtain ⟨k2,lP,aBp⟩:=Lr 1 0 1 2 (j:=(IntKind.i64.wrap ((ep bs p).tdiv 16)).tmod 4) (by rw [B0.d16,kC (by have:=B0.lo;omega)];omega)
 have C2:0<=(IntKind.i64.wrap ((ep bs p).tdiv 16)).tmod 4:=by rw [B0.d16,kC (by have:=B0.lo;omega)];omega
 have auc:0<=k2/\k2<=2:=by omega
 obtain ⟨k3,mQ,aBq⟩:=Lr 1 1 0 2 (j:=(IntKind.i64.wrap ((ep bs p).tdiv 64)).tmod 4) (by rw [B0.d64,kC (by have:=B0.lo;omega)];omega)
 have hj3:0<=(IntKind.i64.wrap ((ep bs p).tdiv 64)).tmod 4:=by rw [B0.d64,kC (by have:=B0.lo;omega)];omega
 have aud:0<=k3/\k3<=2:=by omega
 refine ⟨?_⟩
 cbv
 refine ⟨⟨bs,p⟩,⟨by exact bQ,⟨eS,j8⟩⟩,?_⟩
 cbv
 refine Sat.iK 8 2 159 13 (Km 2) (Hb 2) rfl rfl ?_
 refine Sat.iK 8 4 154 9 (Ka 2) (G3 2) rfl rfl ?_
 refine Sat.iK 8 5 161 16 (Ko 2) (He 2) rfl rfl ?_
 refine Sat.iK 9 0 3 1 oC cQ rfl rfl ?_
 refine Sat.iK 9 1 3 1 oC cQ rfl rfl ?_
 refine Sat.EA 8 3 9 2 163 27 (Kn 2) (Hd 2) (by decide) rfl rfl rfl rfl ?_
 refine Sat.cf (PZ 2 2) 16 8 [(.c 8 2,10),(.c 9 0,13)] (λx:RW tv=>[(8,.i .i64 λ_=>(x.i:Int))]) (λx=>[(10,.dyn 159 13 (zm 2) λ_=>x.l),(13,.dyn 3 1 bM λ_=>x.w)])
  (λx=>xV QF (·.w) k1 x) (λx=>k1.toNat - x.i) ⟨0,[],[]⟩ (by exact ao) (by exact ao) (.nil aub.1) ?_
 rintro ⟨i,l,ws⟩ hJ
 have hJ:xV QF (·.w) k1 ⟨i,l,ws⟩:=hJ
 have bt:(i:Int)<=k1:=hJ.le
 have FD:l.length=i:=hJ.len
 have Lt:l.length<=3:=by omega
 have VI:l.length<=3/\∀r∈l,QF r:=⟨Lt,hJ.all⟩
 have aue:ws=l.map (·.w):=hJ.w
 have h0:=n0 i
 have h1:=cq (i:=i) (by omega)
 cbv
 refine ⟨⟨by decide⟩,?_⟩
 cbv
 refine ⟨(k1,[1,1,2,3]),⟨by exact aK,rfl,vz,eT⟩,?_⟩
 cbv
 refine ⟨λh=>?_,λh=>?_⟩
 ·have aR:(i:Int) < k1:=bI
  have bh:k1.toNat - (i+1) < k1.toNat - i:=by omega
  refine (⟨_,rfl⟩:∃j:Nat,j=1+i).elim λj hj=>?_
  have mi:IntKind.i64.wrap (1+(i:Int))=(j:Int):=by rw [cu (by omega) (by omega)];omega
  have Mv:j<=1000000000:=by omega
  refine (⟨_,rfl⟩:∃q:Nat,p+j=q).elim λq hq=>?_
  have FY:q<=1000000000:=by omega
  have FZ:((p+j:Nat):Int)=(q:Int):=by rw [hq]
  have Bq:=Ls eS q
  have Mw:0<=(ep bs q).tmod 4/\(ep bs q).tmod 4 < 4:=by have:=Bq.lo;rw [kC this];omega
  refine (Lr 1 2 1 3 Mw).elim λwv qq=>?_
  have ahC:1<=wv/\wv<=3:=by have:=qq.2;omega
  have hu:0<=IntKind.u64.wrap wv:=by rw [abz (by omega) (by omega)];omega
  have hni:=UA (n:=(i:Int)) h0
  refine (⟨_,rfl⟩:∃z,z=(IntKind.i64.wrap ((ep bs q).tdiv 16)).tmod 3).elim λz hz=>?_
  have vl:0<=z:=by have:=Bq.lo;rw [hz,Bq.d16,kC (by omega)];omega
  have hnz:=UA vl
  refine (⟨_,rfl⟩:∃rb,rb=IntKind.i64.wrap ((ep bs q).tdiv 16)).elim λrb Mx=>?_
  have W9:0<=rb:=by have:=Bq.lo;rw [Mx,Bq.d16];omega
  refine (⟨_,rfl⟩:∃nm,nm=(⟨#[114]⟩:ByteArray)++AU i).elim λnm zK=>?_
  refine (⟨_,rfl⟩:∃rs,rs=(⟨#[114]⟩:ByteArray)++AU z).elim λrs hrs=>?_
  have Ml:(⟨#[114]⟩:ByteArray).size=1:=rfl
  have tB:(⟨#[114]⟩:ByteArray).size+(AU i).size < 9223372036854775808:=by rw [Ml];have:=hni.2.2;omega
  have hs3:(⟨#[114]⟩:ByteArray).size+(AU z).size < 9223372036854775808:=by rw [Ml];have:=hnz.2.2;omega
  refine (⟨_,rfl⟩:∃iv,iv=jd .and .i64 (IntKind.i64.wrap ((ep bs q).tdiv 4)) (IntKind.i64.wrap (IntKind.i64.wrap (1*2^(min (IntKind.u64.wrap wv).toNat IntKind.i64.bits)) - 1))).elim λiv LY=>?_
  refine (⟨_,rfl⟩:∃ru,ru=PX rb rs).elim λru F1=>?_
  have bB:=hJ.add aR (r:=⟨nm,wv,iv,eZ,ru⟩) ⟨ahC.1,ahC.2,rfl⟩
  have Dp:ws.length=i:=by have h1:ws=l.map (·.w):=hJ.w;rw [h1,qJ,FD]
  cbv
  refine ⟨⟨bs,p,j⟩,⟨by have bg:=mi;exact cP,⟨j8,Mv⟩⟩,?_⟩
  cbv
  refine ⟨⟨bs,q⟩,⟨by have bg:=FZ;exact cP,⟨eS,FY⟩⟩,?_⟩
  cbv
  refine ⟨⟨by decide⟩,?_⟩
  cbv
  refine ⟨(wv,[1,2,1,3]),⟨by exact aK,rfl,Mw.1,qq.1⟩,?_⟩
  cbv
  refine ⟨i,⟨by exact bQ,h0⟩,?_⟩
  cbv
  refine ⟨⟨tB⟩,⟨by decide⟩,⟨hu⟩,⟨by decide⟩,⟨by decide⟩,⟨by decide⟩,z,⟨by have bg:=hz.symm;exact cP,vl⟩,?_⟩
  cbv
  refine ⟨⟨hs3⟩,(rb,rs),⟨by have bg:=Mx.symm;have Mg:=hrs.symm;exact cP,W9⟩,?_⟩
  cbv
  refine ⟨[⟨nm,wv,iv,eZ,ru⟩],⟨.eK rfl (λ_ _=>rfl) (λx=>(Hb 2 x).1) (by have Mg:=zK.symm;have bg:=LY.symm;have lQ:=congrArg nI.kind F1.symm;have Yq:=congrArg nI.src F1.symm;have zH:=congrArg nI.n F1.symm;exact dx),by show (l.length+1)*160<=_;omega,by show l.length+1<=_;omega⟩,?_⟩
  cbv
  refine ⟨[wv],⟨by exact aK,by show (ws.length+1)*8<=_;omega,by show ws.length+1<=_;omega⟩,?_⟩
  cbv
  exact ⟨⟨i+1,l++[⟨nm,wv,iv,eZ,ru⟩],ws++[wv]⟩,by have bg:=h1;exact bJ,by exact ao,⟨⟨bB,bh⟩⟩⟩
 ·have b9:¬(i:Int) < k1:=bI
  cbv
  refine ⟨⟨by decide⟩,?_⟩
  cbv
  refine ⟨⟨by decide⟩,?_⟩
  cbv
  apply B8 (λc k=>∀ms:List Mem,ms.length<=1/\(∀r∈ms,ahA r)->Sat [.any,.any,.any,.any] false PP c (YK bs p l ws ms) k)
  ·intro tail
   refine ⟨λh=>?_,λh=>?_⟩
   ·refine (⟨_,rfl⟩:∃q:Nat,p+4=q).elim λq hq=>?_
    have FY:q<=1000000000:=by omega
    have FZ:((p+4:Nat):Int)=(q:Int):=by rw [hq]
    have h49:4<=1000000000:=by decide
    have Bq:=Ls eS q
    have fe:=Bq.lo
    refine (⟨_,rfl⟩:∃wm,wm=IntKind.i64.wrap (1+(ep bs q).tmod 2)).elim λwm hwm=>?_
    have ahD:1<=wm/\wm<=2:=by rw [hwm,kC fe,cu (by omega) (by omega)];omega
    have Mw:0<=(IntKind.i64.wrap ((ep bs q).tdiv 2)).tmod 4/\(IntKind.i64.wrap ((ep bs q).tdiv 2)).tmod 4 < 4:=by rw [Bq.d2,kC (by omega)];omega
    refine (Lr 2 1 4 2 Mw).elim λwo RD=>?_
    have ahE:1<=wo/\wo<=4:=by have:=RD.2;omega
    refine (⟨_,rfl⟩:∃rb,rb=IntKind.i64.wrap ((ep bs q).tdiv 8)).elim λrb Mx=>?_
    have W9:0<=rb:=by rw [Mx,Bq.d8];omega
    refine (⟨_,rfl⟩:∃ru,ru=PX rb ⟨#[109,101,109,48]⟩).elim λru F1=>?_
    cbv
    refine ⟨⟨bs,p,4⟩,⟨by exact bQ,⟨j8,h49⟩⟩,?_⟩
    cbv
    refine ⟨⟨bs,q⟩,⟨by have bg:=FZ;exact cP,⟨eS,FY⟩⟩,?_⟩
    cbv
    refine ⟨⟨by decide⟩,⟨by decide⟩,⟨by decide⟩,(wo,[2,1,4,2]),⟨by exact aK,rfl,Mw.1,RD.1⟩,⟨by decide⟩,(rb,⟨#[109,101,109,48]⟩),⟨by have bg:=Mx.symm;exact cP,W9⟩,?_⟩
    cbv
    refine ⟨[⟨⟨#[109,101,109,48]⟩,wm,wo,eZ,eZ,eZ,ru⟩],⟨.eK rfl (λ_ _=>rfl) (λx=>(Hd 2 x).1) (by have bg:=hwm.symm;have lQ:=congrArg nI.kind F1.symm;have Mg:=congrArg nI.src F1.symm;have zH:=congrArg nI.n F1.symm;exact dx),by show (0+1)*352<=_;omega,by show 0+1<=_;omega⟩,?_⟩
    cbv
    exact aqu 16 [(.c 8 3,15)] (YK bs p l ws [⟨⟨#[109,101,109,48]⟩,wm,wo,eZ,eZ,eZ,ru⟩]) (by exact ao) (by exact ao) (tail _ ⟨by show 1<=1;decide,λr hr=>by simp at hr;rw [hr];exact ⟨ahD.1,ahD.2,ahE.1,ahE.2,rfl,rfl,rfl⟩⟩)
   ·cbv
    exact kM 16 (YK bs p l ws []) (by exact ao) (by exact ao) (tail [] ⟨by decide,λr hr=>by simp at hr⟩)
  ·intro ms hms
   refine Sat.cf (PZ 2 2) 16 12 [(.c 8 4,11),(.c 9 1,14)] (λx:RW Take=>[(12,.i .i64 λ_=>(x.i:Int))]) (λx=>[(11,.dyn 154 9 (y8 2) λ_=>x.l),(14,.dyn 3 1 bM λ_=>x.w)])
    (λx=>xV PY (·.w) k2 x) (λx=>k2.toNat - x.i) ⟨0,[],[]⟩ (by exact ao) (by exact ao) (.nil auc.1) ?_
   rintro ⟨i,tl,tw⟩ hJ
   have hJ:xV PY (·.w) k2 ⟨i,tl,tw⟩:=hJ
   have bt:(i:Int)<=k2:=hJ.le
   have FD:tl.length=i:=hJ.len
   have Lt:tl.length<=2:=by omega
   have aqv:tl.length<=2/\∀r∈tl,PY r:=⟨Lt,hJ.all⟩
   have ahF:tw=tl.map (·.w):=hJ.w
   have Dp:tw.length=i:=by rw [ahF,qJ,FD]
   have h0:=n0 i
   have h1:=cq (i:=i) (by omega)
   cbv
   refine ⟨⟨by decide⟩,?_⟩
   cbv
   refine ⟨⟨by decide⟩,?_⟩
   cbv
   refine ⟨(k2,[1,0,1,2]),⟨by exact aK,rfl,C2,lP⟩,?_⟩
   cbv
   refine ⟨λh=>?_,λh=>?_⟩
   ·have aR:(i:Int) < k2:=bI
    have bh:k2.toNat - (i+1) < k2.toNat - i:=by omega
    refine (⟨_,rfl⟩:∃j:Nat,j=5+i).elim λj hj=>?_
    have mi:IntKind.i64.wrap (5+(i:Int))=(j:Int):=by rw [cu (by omega) (by omega)];omega
    have Mv:j<=1000000000:=by omega
    refine (⟨_,rfl⟩:∃q:Nat,p+j=q).elim λq hq=>?_
    have FY:q<=1000000000:=by omega
    have FZ:((p+j:Nat):Int)=(q:Int):=by rw [hq]
    have Bq:=Ls eS q
    have fe:=Bq.lo
    refine (⟨_,rfl⟩:∃wt,wt=IntKind.i64.wrap (1+(ep bs q).tmod 2)).elim λwt zL=>?_
    have Lu:1<=wt/\wt<=2:=by rw [zL,kC fe,cu (by omega) (by omega)];omega
    have bB:=hJ.add aR (r:=⟨i,wt,eZ⟩) ⟨Lu.1,Lu.2,rfl⟩
    have iT:(tl++[(⟨i,wt,eZ⟩:Take)])[(i:Int).toNat]?=some ⟨i,wt,eZ⟩:=by
     show (tl++[(⟨i,wt,eZ⟩:Take)])[i]?=_
     rw [uS (by omega),FD,Ts];rfl
    have auf:0<=(i:Int)/\(i:Int).toNat < (tl++[(⟨i,wt,eZ⟩:Take)]).length:=⟨h0,by rw [ib,FD];show i < i+1;omega⟩
    cbv
    refine ⟨⟨bs,p,j⟩,⟨by have bg:=mi;exact cP,⟨j8,Mv⟩⟩,?_⟩
    cbv
    refine ⟨⟨bs,q⟩,⟨by have bg:=FZ;exact cP,⟨eS,FY⟩⟩,?_⟩
    cbv
    refine ⟨⟨by decide⟩,[⟨i,wt,eZ⟩],⟨.eK rfl (λ_ _=>rfl) (λx=>(G3 2 x).1) (by have bg:=zL.symm;exact dx),by show (tl.length+1)*112<=_;omega,by show tl.length+1<=_;omega⟩,?_⟩
    cbv
    refine ⟨⟨auf⟩,⟨i,wt,eZ⟩,⟨iT,rfl⟩,[wt],⟨by exact aK,by show (tw.length+1)*8<=_;omega,by show tw.length+1<=_;omega⟩,?_⟩
    cbv
    exact ⟨⟨i+1,tl++[⟨i,wt,eZ⟩],tw++[wt]⟩,by have bg:=h1;exact bJ,by exact ao,⟨⟨bB,bh⟩⟩⟩
   ·cbv
    refine Sat.cf (PZ 2 2) 16 13 [(.c 8 5,12)] (λx:RW rV=>[(13,.i .i64 λ_=>(x.i:Int))]) (λx=>[(12,.dyn 161 16 (zn 2) λ_=>x.l)])
     (λx=>xV QG (·.w) k3 x) (λx=>k3.toNat - x.i) ⟨0,[],[]⟩ (by exact ao) (by exact ao) (.nil aud.1) ?_
    rintro ⟨i,pl,pw⟩ hJ
    have hJ:xV QG (·.w) k3 ⟨i,pl,pw⟩:=hJ
    have bt:(i:Int)<=k3:=hJ.le
    have FD:pl.length=i:=hJ.len
    have Lt:pl.length<=2:=by omega
    have KK:pl.length<=2/\∀r∈pl,QG r:=⟨Lt,hJ.all⟩
    have h0:=n0 i
    have h1:=cq (i:=i) (by omega)
    cbv
    refine ⟨⟨by decide⟩,?_⟩
    cbv
    refine ⟨⟨by decide⟩,?_⟩
    cbv
    refine ⟨(k3,[1,1,0,2]),⟨by exact aK,rfl,hj3,mQ⟩,?_⟩
    cbv
    refine ⟨λh=>?_,λh=>?_⟩
    ·have aR:(i:Int) < k3:=bI
     have bh:k3.toNat - (i+1) < k3.toNat - i:=by omega
     refine (⟨_,rfl⟩:∃j:Nat,j=7+i).elim λj hj=>?_
     have mi:IntKind.i64.wrap (7+(i:Int))=(j:Int):=by rw [cu (by omega) (by omega)];omega
     have Mv:j<=1000000000:=by omega
     refine (⟨_,rfl⟩:∃q:Nat,p+j=q).elim λq hq=>?_
     have FY:q<=1000000000:=by omega
     have FZ:((p+j:Nat):Int)=(q:Int):=by rw [hq]
     have Bq:=Ls eS q
     have fe:=Bq.lo
     refine (⟨_,rfl⟩:∃wt,wt=IntKind.i64.wrap (1+(ep bs q).tmod 2)).elim λwt zL=>?_
     have Lu:1<=wt/\wt<=2:=by rw [zL,kC fe,cu (by omega) (by omega)];omega
     refine (⟨_,rfl⟩:∃ch,ch=IntKind.i64.wrap ((tl.length:Int)+i)).elim λch YL=>?_
     have bB:=hJ.add aR (r:=⟨ch,wt,eZ,eZ⟩) ⟨Lu.1,Lu.2,rfl,rfl⟩
     cbv
     refine ⟨⟨bs,p,j⟩,⟨by have bg:=mi;exact cP,⟨j8,Mv⟩⟩,?_⟩
     cbv
     refine ⟨⟨bs,q⟩,⟨by have bg:=FZ;exact cP,⟨eS,FY⟩⟩,?_⟩
     cbv
     refine ⟨⟨by decide⟩,[⟨ch,wt,eZ,eZ⟩],⟨.eK rfl (λ_ _=>rfl) (λx=>(He 2 x).1) (by have bg:=zL.symm;have lQ:=YL.symm;exact dx),by show (pl.length+1)*208<=_;omega,by show pl.length+1<=_;omega⟩,?_⟩
     cbv
     exact ⟨⟨i+1,pl++[⟨ch,wt,eZ,eZ⟩],pw++[wt]⟩,by have bg:=h1;exact bJ,by exact ao,⟨⟨bB,bh⟩⟩⟩
    ·have bX:W8 ⟨l,ms,tl,pl⟩:=⟨VI,hms,aqv,KK⟩
     have h99:9<=1000000000:=by decide
     cbv
     refine ⟨⟨bs,p,9⟩,⟨by exact bQ,⟨j8,h99⟩⟩,?_⟩
     cbv
     refine ⟨⟨l,ms,tl,pl⟩,[13,14],[(.c 5 2,0),(.c 5 3,1),(.c 5 4,2),(.c 5 5,3)],?_,by exact ao,⟨bX⟩⟩
     cbv
     exact ⟨by have dJ:=aue;have rU:=ahF;exact dx,trivial⟩
end Go.Proofs.Pk
