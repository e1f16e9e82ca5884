import Derived.Test.YthnhbemmlfaihaaGreatT19
import Derived.Test.YthnhbemmlfaihaaGreatT23
set_option linter.unusedVariables false
set_option linter.unusedSimpArgs false
set_option maxRecDepth 10000
set_option maxHeartbeats 64000000
namespace Go.Proofs.Pk
open Go Go.Vc
structure agz where
 n:Net
 root:Int
 b:List Int
structure vK (r:Int) (L:List Int):Prop where
 len:L.length<=4
 mem:L=[r]\/∀x∈L,0<=x/\x < r
theorem vK.le {r:Int} {L:List Int} (h:vK r L) (h0:0<=r):∀x∈L,0<=x/\x<=r:=λx hx=>by
 rcases h.mem with e|e
 ·subst e;simp at hx;omega
 ·have:=e x hx;omega
theorem vK.cut {r:Int} {L:List Int} (h:vK r L) {i:Nat} (hi:i < L.length):∀x∈(L.take i++L.drop (i+1)),0<=x/\x < r:=λx hx=>by
 rcases h.mem with e|e
 ·subst e
  have:i=0:=by simpa using hi
  subst this
  simp at hx
 ·refine e x ?_
  rcases List.mem_append.1 hx with hx|hx
  ·exact uC hx
  ·exact rL hx
structure QH (r:Int) (n k:Nat) (u:List Int):Prop where
 le:k<=n
 len:u.length<=3+k
 mem:∀x∈u,0<=x/\x < r
@[reducible] noncomputable def aeY:mP where
 α:=agz
 args x:=[.agg (r7 x.n),.i .i64 (λ_=>x.root),.own 0]
 io x:=[.dyn 5 1 iF (λ_=>x.b)]
 pre x:=eQ x.n/\2+(x.n.ins.length:Int)<=x.root/\x.root < fM x.n/\x.b.length<=1000/\∀z∈x.b,0<=z/\z<=255
 β:=List Int
 post x y:=vK x.root y
 mv:=[]
 res x y:=.agg [.i .i64 (λ_=>x.root),.sl 1 bJ (λ_=>y)]
 j8 x y:=[.dyn 5 1 iF (λ_=>x.b)]
theorem anf (a:agz) (y:List Int):LF (aeY.res a y):=⟨trivial,(λx=>(cM x).1),trivial⟩
noncomputable def cPi (n m:Nat):Ctx:=fl n m [(54,Tryz.f54),(123,Tryz.f123),(185,Tryz.f185)] [] [54,123,185]
theorem UY (n m:Nat):CB PP (cPi n m):=fy n m ⟨fo Tryz.func54,fo Tryz.func123,fo Tryz.func185,trivial⟩ trivial
theorem aol:iC PP 113 aeY:=by
 refine mA (UY 0 0) (fo Tryz.func113) (λa y=>rfl) (λa=>⟨rfl,rfl⟩) .nil ?_
 rintro ⟨⟨ins,gs,outs,dr⟩,r,b⟩ hx
 obtain ⟨hn,FB,C2,hb,zp⟩:eQ ⟨ins,gs,outs,dr⟩/\2+(ins.length:Int)<=r/\r < fM ⟨ins,gs,outs,dr⟩/\b.length<=1000/\∀z∈b,0<=z/\z<=255:=hx
 have v5:2+ins.length+gs.length<=600:=hn.pf
 have m5:fM ⟨ins,gs,outs,dr⟩=((2+ins.length+gs.length:Nat):Int):=by unfold fM;simp only;omega
 have asR:0<=r:=by omega
 have wz:IntKind.i64.wrap (2+(ins.length:Int))=2+(ins.length:Int):=by rw [cz (by omega) (by omega)]
 refine ⟨?_⟩
 cbv
 refine Sat.ca (UY 0 0) 5 8 [] (λx:Nat × List Int=>[(8,.i .i64 λ_=>(x.1:Int))]) (λx=>[(4,.fix 214 [.i .i64 (λ_=>r),.sl 1 bJ (λ_=>x.2)])])
  (λx=>x.1<=b.length/\vK r x.2) (λx=>b.length - x.1) (0,[r]) (by exact ao) (by exact ao) ⟨cJ _,⟨by show 1<=4;decide,.inl rfl⟩⟩ ?_
 rintro ⟨i,L⟩ ⟨hi,hL⟩
 have hi:i<=b.length:=hi
 have hL:vK r L:=hL
 have h0:=n0 i
 have h1:=cd (i:=i) (by omega)
 cbv
 refine ⟨λh=>?_,λh=>?_⟩
 ·have bp:i < b.length:=bE
  have a7:b.length - (i+1) < b.length - i:=by omega
  refine (bz bp).elim λz hz=>?_
  have hzb:=zp z (b_ hz)
  have jb:0<=(i:Int)/\(i:Int).toNat < b.length:=⟨by omega,by omega⟩
  have hbz:b[(i:Int).toNat]?=some z:=hz
  cbv
  refine ⟨λh=>?_,λh=>?_⟩
  ·cbv
   exact ⟨L,[],[],⟨by exact aJ,trivial⟩,by exact ao,⟨hL⟩⟩
  ·have wu:L.length≠0:=bE
   have QB:=hL.len
   have hE:∃k:Nat,(IntKind.i64.wrap z).tmod (L.length:Int)=(k:Int)/\k < L.length:=by
    rw [cz (n:=z) (by omega) (by omega)]
    have h1:=Int.tmod_nonneg (L.length:Int) hzb.1
    have h2:=Int.tmod_lt_of_pos z (show (0:Int) < L.length by omega)
    exact ⟨(z.tmod (L.length:Int)).toNat,by omega,by omega⟩
   refine hE.elim λk hk=>?_
   clear hE
   refine (bz hk.2).elim λv hv=>?_
   have gx:0<=(IntKind.i64.wrap z).tmod (L.length:Int)/\L[((IntKind.i64.wrap z).tmod (L.length:Int)).toNat]?=some v:=by rw [hk.1];exact ⟨n0 k,hv⟩
   have LO:0<=(0:Int)/\0<=(IntKind.i64.wrap z).tmod (L.length:Int)/\(IntKind.i64.wrap z).tmod (L.length:Int)<=(L.length:Int):=by rw [hk.1];omega
   have fB:IntKind.i64.wrap ((IntKind.i64.wrap z).tmod (L.length:Int)+1)=((k+1:Nat):Int):=by rw [hk.1];exact cd (by omega)
   have s9:0<=IntKind.i64.wrap ((IntKind.i64.wrap z).tmod (L.length:Int)+1)/\IntKind.i64.wrap ((IntKind.i64.wrap z).tmod (L.length:Int)+1)<=(L.length:Int)/\(L.length:Int)<=(L.length:Int):=by rw [fB];omega
   obtain ⟨A,hA⟩:∃A,(L.take ((IntKind.i64.wrap z).tmod (L.length:Int)).toNat).drop (0:Int).toNat=A:=⟨_,rfl⟩
   obtain ⟨B,hB⟩:∃B,(L.take (L.length:Int).toNat).drop (IntKind.i64.wrap ((IntKind.i64.wrap z).tmod (L.length:Int)+1)).toNat=B:=⟨_,rfl⟩
   have hAB:([]++A)++B=L.take k++L.drop (k+1):=by
    rw [<-hA,<-hB,fB,hk.1]
    simp
   have LP:=hL.le asR v (b_ hv)
   have VP:=hL.cut hk.2
   have rD:v < fM ⟨ins,gs,outs,dr⟩:=by omega
   cbv
   refine ⟨⟨jb⟩,z,⟨hbz,rfl⟩,?_⟩
   cbv
   refine ⟨⟨by intro e;exact wu (by exact aU)⟩,?_⟩
   cbv
   refine ⟨v,⟨gx⟩,?_⟩
   cbv
   refine ⟨λh=>?_,λh=>?_⟩
   ·have bw:i+1<=b.length/\vK r L:=⟨bp,hL⟩
    cbv
    exact ⟨(i+1,L),by exact ao,by exact ao,⟨⟨bw,a7⟩⟩⟩
   ·have jM:2+(ins.length:Int)<=v:=by have h':aS v (IntKind.i64.wrap (2+(ins.length:Int)))=false:=h.out;rw [wz] at h';simpa [aS] using h'
    have hAl:A.length<=4:=by rw [<-hA];simp only [vy,lu];omega
    have hBl:B.length<=4:=by rw [<-hB];simp only [vy,lu];omega
    have hUl:(([]++A)++B).length<=3:=by rw [hAB];simp only [fZ,vy,lu];omega
    have hUm:∀x∈([]++A)++B,0<=x/\x < r:=by rw [hAB];exact VP
    obtain ⟨U,hU⟩:∃U,([]++A)++B=U:=⟨_,rfl⟩
    rw [hU] at hUl hUm
    cbv
    refine ⟨⟨LO⟩,?_⟩
    cbv
    refine ⟨A,⟨by exact bP,by show (0+A.length)*8<=_;omega,by show 0+A.length<=_;omega⟩,?_⟩
    cbv
    refine ⟨⟨s9⟩,?_⟩
    cbv
    refine ⟨B,⟨by exact bP,by show (([]++A).length+B.length)*8<=_;rw [kQ];omega,by show ([]++A).length+B.length<=_;rw [kQ];omega⟩,?_⟩
    cbv
    refine bU.rel F9 ⟨⟨ins,gs,outs,dr⟩,v⟩ (by exact aJ) ⟨hn,LP.1,rD⟩ λops j5=>?_
    have j5:Cr ⟨ins,gs,outs,dr⟩ v ops:=j5.out
    have gd:=j5.len
    have LJ:=j5.mem
    cbv
    refine Sat.freeze 7 rfl rfl ?_
    refine Sat.ca (UY 0 0) 8 13 [] (λx:Nat × List Int=>[(11,.sl 1 bJ (λ_=>x.2)),(13,.i .i64 λ_=>(x.1:Int))]) (λx=>[])
     (λx=>QH r ops.length x.1 x.2) (λx=>ops.length - x.1) (0,U) (by exact ao) (by exact ao) ⟨cJ _,hUl,hUm⟩ ?_
    rintro ⟨k2,u⟩ hu
    have hu:QH r ops.length k2 u:=hu
    have gK:=n0 k2
    have eT:=cd (i:=k2) (by have:=hu.le;omega)
    have CM:=hu.len
    have azH:=hu.le
    cbv
    refine ⟨λh=>?_,λh=>?_⟩
    ·have cW:k2 < ops.length:=bE
     have k6:ops.length - (k2+1) < ops.length - k2:=by omega
     refine (bz cW).elim λx hx=>?_
     have gP:=LJ x (b_ hx)
     cbv
     refine ⟨x,⟨gK,hx⟩,?_⟩
     cbv
     refine ⟨λh=>?_,λh=>?_⟩
     ·cbv
      refine ⟨x,⟨gK,hx⟩,?_⟩
      cbv
      refine bU.rel Tk ⟨u,[x]⟩ (by exact aJ) ⟨by show u.length<=_;omega,by show 1<=_;decide⟩ λw hw=>?_
      have hw:NL u [x] w:=hw.out
      have bw:QH r ops.length (k2+1) w:=⟨cW,by have:=hw.len;simp only [nK] at this;omega,λy hy=>by
       rcases hw.mem y hy with h|h
       ·exact hu.mem y h
       ·simp at h;subst h;omega⟩
      cbv
      exact ⟨(k2+1,w),by exact ao,by exact ao,⟨⟨bw,k6⟩⟩⟩
     ·have bw:QH r ops.length (k2+1) u:=⟨cW,by omega,hu.mem⟩
      cbv
      exact ⟨(k2+1,u),by exact ao,by exact ao,⟨⟨bw,k6⟩⟩⟩
    ·cbv
     refine bU.rel anb ⟨⟨ins,gs,outs,dr⟩,⟨r,u⟩⟩ (by exact aJ) ⟨hn,by show u.length<=_;omega⟩ λe he=>?_
     have he:e=0->yD ⟨r,u⟩=true:=he.out
     cbv
     refine ⟨λh=>?_,λh=>?_⟩
     ·have pY:e=0:=bE
      have bw:i+1<=b.length/\vK r u:=⟨bp,(M3.1 (he pY)).2,.inr hu.mem⟩
      cbv
      exact ⟨(i+1,u),by exact ao,by exact ao,⟨⟨bw,a7⟩⟩⟩
     ·have bw:i+1<=b.length/\vK r L:=⟨bp,hL⟩
      cbv
      exact ⟨(i+1,L),by exact ao,by exact ao,⟨⟨bw,a7⟩⟩⟩
 ·cbv
  exact ⟨L,[],[],⟨by exact aJ,trivial⟩,by exact ao,⟨hL⟩⟩
structure asS where
 n:Net
 lv:List (List Int)
structure KR where
 m:gE
 root:List Int
 rl:List (List Int)
 e:Int
@[reducible] noncomputable def PL (y:KR):SV:=.agg [.i .i64 (λ_=>y.m.n),.sl 3 rf (λ_=>y.m.cells),.sl 1 bJ (λ_=>y.m.ay),.sl 1 bJ (λ_=>y.root),.sl 1 iV (λ_=>y.rl),.i .i64 (λ_=>y.e)]
theorem TR (y:KR):LF (PL y):=⟨trivial,(λx=>(Af x).1),(λx=>(cM x).1),(λx=>(cM x).1),(λx=>(pK x).1),trivial,trivial⟩
@[reducible] noncomputable def apq:fJ where
 α:=asS
 args x:=[.agg (r7 x.n),.sl 1 iV (λ_=>x.lv)]
 pre x:=eQ x.n/\Tl x.n x.lv/\x.n.ay.length<=1000000
 β:=KR
 post x y:=jz x.n y.m/\y.e=0
 res x y:=PL y
structure EY (n:Net) (l:List Int) (T R:Int):Prop where
 ok:R=-1/\l.length<=4/\0<=T/\T < 2^(2^l.length)\/0<=R/\R<=63/\l.length=3/\T=0
theorem EY.read {n:Net} {l:List Int} (hn:eQ n) (hl:l.length=3) {g:Gate} (hg:0<=g.n/\g.n < 64):EY n l 0 g.n:=⟨.inr ⟨hg.1,by omega,hl,rfl⟩⟩
theorem EY.u6 {n:Net} {l:List Int} (hl:l.length<=4) {T:Int} (h:0<=T/\T < 2^(2^l.length)):EY n l T (-1):=⟨.inl ⟨rfl,hl,h⟩⟩
theorem ang {n:Net} (hn:eQ n) {v:Nat} (h:nD n v=true):∃g,(0<=IntKind.i64.wrap (IntKind.i64.wrap ((v:Int) - 2) - (n.ins.length:Int))/\n.gG[(IntKind.i64.wrap (IntKind.i64.wrap ((v:Int) - 2) - (n.ins.length:Int))).toNat]?=some g)/\0<=g.n/\g.n < 64:=by
 unfold nD at h
 simp only [ei,decide_eq_true_eq] at h
 obtain ⟨h1,h2⟩:=h
 split at h2
 ·rename_i g hg
  have hb:=hn.pf
  have hl:=(bX.1 hg).1
  have G:=hn.gG _ g hg
  refine ⟨g,⟨?_,?_⟩,G.n⟩
  ·rw [cz (n:=(v:Int) - 2) (by omega) (by omega),cz (by omega) (by omega)];omega
  ·rw [cz (n:=(v:Int) - 2) (by omega) (by omega),cz (by omega) (by omega)];exact hg
 ·cases h2
noncomputable def XQ (n:Net) (lv:List (List Int)) (nd:List Bool) (st:KQ) (T R:Int):Vc.St :=
 ⟨[.agg [.sl 3 dc (λ_=>n.ins),.sl 5 dB (λ_=>n.gG),.sl 3 dc (λ_=>n.outs),.sl 1 bJ (λ_=>n.ay)],.sl 1 iV (λ_=>lv),.ptr 0 0,.any,.ptr 1 0,.own 2,.any,.any,.any,.ptr 3 0,.i .i64 (λ_=>(st.v:Int)),.ptr 7 0,.ic .i64 0]++xA 175,
  [.fix 48 [.sl 3 dc (λ_=>n.ins),.sl 5 dB (λ_=>n.gG),.sl 3 dc (λ_=>n.outs),.sl 1 bJ (λ_=>n.ay)],
   .fix 94 [.ic .i64 0,.di,.di,.di,.di,.ic .i64 0],.dyn 4 1 iU (λ_=>nd),
   .fix 94 [.i .i64 (λ_=>(n.ins.length:Int)),.own 4,.di,.own 5,.own 6,.ic .i64 0],
   .dyn 135 3 rf (λ_=>st.cells),.dyn 3 1 bJ (λ_=>st.root),.dyn 35 1 iV (λ_=>st.rl),
   .fix 135 [.di,.i .i64 (λ_=>T),.i .i64 (λ_=>R)]]⟩
noncomputable def cBu (n m:Nat):Ctx:=fl n m [(184,Tryz.f184)] [(51,Ao),(107,Ie),(118,V6)] [184] [] [28]
theorem EB (n m:Nat):CB PP (cBu n m):=fy n m ⟨fo Tryz.func184,trivial⟩ ⟨BR,Kf,adO,trivial⟩
noncomputable def asT (n m:Nat):Ctx:=fl n m [(184,Tryz.f184)] [(51,Ao),(107,Ie),(118,V6)] [184]
theorem apr (n m:Nat):CB PP (asT n m):=fy n m ⟨fo Tryz.func184,trivial⟩ ⟨BR,Kf,adO,trivial⟩
theorem abQ:eI PP 110 apq:=by
 refine iI (EB 0 0) (fo Tryz.func110) (λa=>⟨tv a.n,(λx=>(pK x).1),trivial⟩) (λa y=>TR y) ?_
 rintro ⟨⟨ins,gs,outs,dr⟩,lv⟩ hx
 obtain ⟨hn,ec,agA⟩:eQ ⟨ins,gs,outs,dr⟩/\Tl ⟨ins,gs,outs,dr⟩ lv/\dr.length<=1000000:=hx
 have v5:2+ins.length+gs.length<=600:=hn.pf
 have azI:lv.length=2+ins.length+gs.length:=ec.len
 have agB:=ec.ok
 have V9:∀d∈dr,0<=d/\d < 2+(ins.length:Int)+gs.length:=hn.ay
 have m5:fM ⟨ins,gs,outs,dr⟩=((2+ins.length+gs.length:Nat):Int):=by unfold fM;simp only;omega
 have wz:IntKind.i64.wrap (2+(ins.length:Int))=((2+ins.length:Nat):Int):=by rw [cz (by omega) (by omega)];omega
 have sN:List.replicate (fM ⟨ins,gs,outs,dr⟩).toNat false=List.replicate (2+ins.length+gs.length) false:=by rw [m5];rfl
 have eE:0<=fM ⟨ins,gs,outs,dr⟩/\(1:Int)*fM ⟨ins,gs,outs,dr⟩<=281474976710656/\fM ⟨ins,gs,outs,dr⟩<=9223372036854775807:=by rw [m5];omega
 refine ⟨?_⟩
 cbv
 refine ⟨⟨ins,gs,outs,dr⟩,⟨by exact bP,by show 2+ins.length+gs.length<=_;omega⟩,?_⟩
 cbv
 refine ⟨⟨eE.1,jI _,eE.2.1,eE.2.2⟩,?_⟩
 cbv
 have hN1:A9 (2+ins.length+gs.length) 0 dr (List.replicate (fM ⟨ins,gs,outs,dr⟩).toNat false):=by rw [sN];exact .nil _ _
 refine Sat.ca (EB 0 0) 3 6 [(.t 5,2)] (λx:Nat × List Bool=>[(5,.own 2),(6,.i .i64 λ_=>(x.1:Int))]) (λx=>[(2,.dyn 4 1 iU λ_=>x.2)])
  (λx=>A9 (2+ins.length+gs.length) x.1 dr x.2) (λx=>dr.length - x.1) (0,List.replicate (fM ⟨ins,gs,outs,dr⟩).toNat false) (by exact ao) (by exact ao) hN1 ?_
 rintro ⟨i,nd⟩ hJ
 have hJ:A9 (2+ins.length+gs.length) i dr nd:=hJ
 have hi:=hJ.le
 have asU:=hJ.len
 have h0:=n0 i
 have h1:=cd (i:=i) (by omega)
 cbv
 refine ⟨λh=>?_,λh=>?_⟩
 ·have bp:i < dr.length:=bE
  have a7:dr.length - (i+1) < dr.length - i:=by omega
  refine (bz bp).elim λd hd=>?_
  have o9:=V9 d (b_ hd)
  have qI:0<=d/\d.toNat < nd.length:=by exact aU
  refine (bz qI.2).elim λb0 eb=>?_
  have bw:=hJ.add hd o9.1 (by exact aU)
  cbv
  refine ⟨d,⟨h0,hd⟩,?_⟩
  cbv
  refine ⟨⟨qI⟩,?_⟩
  cbv
  refine ⟨(b0,true),⟨eb,rfl,by exact aJ⟩,?_⟩
  cbv
  exact ⟨(i+1,nd.set d.toNat true),by exact ao,by exact ao,⟨⟨bw,a7⟩⟩⟩
 ·have bR:i=dr.length:=OC h.out hi
  have hC:wy ⟨ins,gs,outs,dr⟩ lv (2+ins.length+gs.length) nd:=wy.of (n:=⟨ins,gs,outs,dr⟩) hJ bR
  have gK:IntKind.i64.wrap (fM ⟨ins,gs,outs,dr⟩ - 1)=((2+ins.length+gs.length:Nat):Int) - 1:=by rw [m5,cz (by omega) (by omega)]
  clear hJ asU hi h0 h1
  obtain ⟨N,hN⟩:∃N,N=2+ins.length+gs.length:=⟨_,rfl⟩
  rw [<-hN] at hC gK
  cbv
  refine ⟨⟨ins,gs,outs,dr⟩,⟨by exact bP,by show 2+ins.length+gs.length<=_;omega⟩,?_⟩
  cbv
  refine Sat.ca (EB 0 0) 3 6 [(.t 5,2)] (λx:Nat × List Bool=>[(5,.own 2),(7,.i .i64 λ_=>(x.1:Int) - 1)]) (λx=>[(2,.dyn 4 1 iU λ_=>x.2)])
   (λx=>x.1<=N/\wy ⟨ins,gs,outs,dr⟩ lv x.1 x.2) (λx=>x.1) (N,nd) (by exact ao) (by exact ao) ⟨cP _,hC⟩ ?_
  rintro ⟨k,s_⟩ ⟨hk,C3⟩
  have hk:k<=N:=hk
  have C3:wy ⟨ins,gs,outs,dr⟩ lv k s_:=C3
  cbv
  refine ⟨λh=>?_,λh=>?_⟩
  ·have hkv:2+ins.length<=k - 1/\1<=k:=by have h':cR (IntKind.i64.wrap (2+(ins.length:Int))) ((k:Int) - 1)=true:=h.out;rw [wz] at h';simp only [cR,decide_eq_true_eq] at h';exact aU
   refine (⟨k - 1,by omega⟩:∃v,k=v+1).elim λv hv=>?_
   subst hv
   have jM:2+ins.length<=v:=by omega
   have C4:((v+1:Nat):Int) - 1=(v:Int):=by omega
   have hvd:IntKind.i64.wrap ((v:Int) - 1)=(v:Int) - 1:=by rw [cz (by omega) (by omega)]
   have h_:0<=(v:Int)/\((v:Int)).toNat < s_.length:=by have:=C3.len;simp only at this;omega
   have x6:v < lv.length:=by omega
   refine (bz x6).elim λl hl=>?_
   have yP:kT ⟨ins,gs,outs,dr⟩ v l:=agB v l jM hl
   have KM:v < v+1:=Nj v
   cbv
   refine Sat.ca (EB 0 0) 3 6 [(.t 5,2)] (λx:Nat × List Bool=>[(5,.own 2),(7,.i .i64 λ_=>(v:Int)),(8,.i .i64 λ_=>(x.1:Int))]) (λx=>[(2,.dyn 4 1 iU λ_=>x.2)])
    (λx=>C1 ⟨ins,gs,outs,dr⟩ lv v x.1 l x.2) (λx=>l.length - x.1) (0,s_) (by exact ao) (by exact ao) (C3.start l) ?_
   rintro ⟨j,x7⟩ hJ
   have hJ:C1 ⟨ins,gs,outs,dr⟩ lv v j l x7:=hJ
   have eA:=hJ.le
   have QB:=yP.len
   have A_:x7.length=2+ins.length+gs.length:=hJ.c.len
   have iG:=n0 j
   have u9:=cd (i:=j) (by omega)
   have Ig:0<=(v:Int)/\((v:Int)).toNat < x7.length:=by omega
   refine (bz Ig.2).elim λb1 jC=>?_
   have PM:x7[v]?=some b1:=by simpa using jC
   have mq:0<=(v:Int)/\lv[((v:Int)).toNat]?=some l:=⟨n0 v,by simpa using hl⟩
   cbv
   refine ⟨⟨Ig⟩,?_⟩
   cbv
   refine ⟨b1,⟨jC,rfl⟩,?_⟩
   cbv
   have hC3:wy ⟨ins,gs,outs,dr⟩ lv v x7/\(x7[v]?=some false\/j=l.length)->(v<=N/\wy ⟨ins,gs,outs,dr⟩ lv v x7)/\v < v+1:=λh=>⟨⟨by omega,h.1⟩,KM⟩
   refine ⟨λh=>?_,λh=>?_⟩
   ·have wA:b1=true:=h.out
    cbv
    refine ⟨l,⟨mq⟩,?_⟩
    cbv
    refine ⟨λh=>?_,λh=>?_⟩
    ·have uQ:j < l.length:=bE
     have k6:l.length - (j+1) < l.length - j:=by omega
     refine (bz uQ).elim λx hx=>?_
     have gP:=yP.mem x (b_ hx)
     have kJ:0<=x/\x.toNat < x7.length:=by omega
     refine (bz kJ.2).elim λb2 jf=>?_
     have bw:=hJ.add yP hx (by omega)
     cbv
     refine ⟨l,⟨mq⟩,?_⟩
     cbv
     refine ⟨x,⟨iG,hx⟩,?_⟩
     cbv
     refine ⟨⟨kJ⟩,?_⟩
     cbv
     refine ⟨(b2,true),⟨jf,rfl,by exact aJ⟩,?_⟩
     cbv
     exact ⟨(j+1,x7.set x.toNat true),by exact ao,by exact ao,⟨⟨bw,k6⟩⟩⟩
    ·have nV:j=l.length:=OC h.out eA
     have rn:=hJ.out hl (.inr nV)
     cbv
     exact ⟨(v,x7),by exact ao,by exact ao,⟨⟨⟨by omega,rn⟩,KM⟩⟩⟩
   ·have wA:b1=false:=h.out
    have rn:=hJ.out hl (.inl (by rw [PM,wA]))
    cbv
    exact ⟨(v,x7),by exact ao,by exact ao,⟨⟨⟨by omega,rn⟩,KM⟩⟩⟩
  ·have cW:k<=2+ins.length:=by have h':cR (IntKind.i64.wrap (2+(ins.length:Int))) ((k:Int) - 1)=false:=h.out;rw [wz] at h';simp only [cR,decide_eq_false_iff_not] at h';exact aU
   have pQ:∀(u:Nat) (l:List Int),2+ins.length<=u->s_[u]?=some true->lv[u]?=some l->∀x∈l,Mk s_ x:=λu l h1 h2 h3=>C3.cl u l (by omega) h1 h2 h3
   have Qr:∀d∈dr,Mk s_ d:=C3.dr
   have A_:s_.length=2+ins.length+gs.length:=C3.len
   clear hC C3
   cbv
   refine Sat.iz 3 1 135 3 acJ Af rfl rfl ?_
   refine Sat.iz 3 3 3 1 nN cM rfl rfl ?_
   refine Sat.iz 3 4 35 1 TP pK rfl rfl ?_
   refine Sat.ca (EB 0 0) 7 6 [(.c 3 1,4),(.c 3 3,5),(.c 3 4,6)] (λx:KQ=>[(9,.ptr 3 0),(10,.i .i64 λ_=>(x.v:Int))]) (λx=>[(3,.fix 94 [.i .i64 (λ_=>(ins.length:Int)),.own 4,.di,.own 5,.own 6,.ic .i64 0]),(4,.dyn 135 3 rf λ_=>x.cells),(5,.dyn 3 1 bJ λ_=>x.root),(6,.dyn 35 1 iV λ_=>x.rl)])
    (λx=>v7 ⟨ins,gs,outs,dr⟩ s_ x) (λx=>N - x.v) ⟨2+ins.length,[],[],[]⟩ (by exact ao) (by exact ao) (.nil _ _) ?_
   rintro st cG
   have cG:v7 ⟨ins,gs,outs,dr⟩ s_ st:=cG
   obtain ⟨v,cells,root,rl⟩:=st
   have eW:2+ins.length<=v:=cG.lo
   have gy:v<=2+ins.length+gs.length:=cG.hi
   have oA:root.length+(2+ins.length)<=v:=cG.dH
   have azJ:cells.length=root.length:=cG.cl
   have azK:rl.length=root.length:=cG.rl
   have h_:=n0 v
   have pX:=cd (i:=v) (by omega)
   cbv
   refine ⟨⟨ins,gs,outs,dr⟩,⟨by exact bP,by show 2+ins.length+gs.length<=_;omega⟩,?_⟩
   cbv
   refine ⟨λh=>?_,λh=>?_⟩
   ·have rD:v < N:=by have h':aS (v:Int) (fM ⟨ins,gs,outs,dr⟩)=true:=h.out;rw [m5] at h';simp only [aS,decide_eq_true_eq] at h';exact aU
    have Cs:N - (v+1) < N - v:=by omega
    have C4:0<=(v:Int)/\((v:Int)).toNat < s_.length:=⟨h_,by rw [A_];exact aU⟩
    refine (bz C4.2).elim λb1 jC=>?_
    have PM:s_[v]?=some b1:=by simpa using jC
    have agC:v < 2+ins.length+gs.length:=by omega
    have x6:v < lv.length:=by omega
    refine (bz x6).elim λl hl=>?_
    have mq:0<=(v:Int)/\lv[((v:Int)).toNat]?=some l:=⟨n0 v,by simpa using hl⟩
    have sI:0<=(v:Int)/\(v:Int) < fM ⟨ins,gs,outs,dr⟩:=⟨h_,by rw [m5];exact aU⟩
    have yP:kT ⟨ins,gs,outs,dr⟩ v l:=agB v l eW hl
    cbv
    refine ⟨⟨C4⟩,?_⟩
    cbv
    refine ⟨b1,⟨jC,rfl⟩,?_⟩
    cbv
    refine ⟨λh=>?_,λh=>?_⟩
    ·have hbf:b1=false:=by have h':(!b1)=true:=h.out;simpa using h'
     have bw:=cG.skip agC (by rw [PM,hbf])
     cbv
     exact ⟨⟨v+1,cells,root,rl⟩,by exact ao,by exact ao,⟨⟨bw,Cs⟩⟩⟩
    ·have wA:b1=true:=by have h':(!b1)=false:=h.out;simpa using h'
     have asV:∀x∈l,Mk s_ x:=pQ v l eW (by rw [PM,wA]) hl
     cbv
     refine ⟨⟨⟨ins,gs,outs,dr⟩,v⟩,⟨by exact bP,hn,sI⟩,?_⟩
     cbv
     apply BQ (λc k=>∀T R:Int,EY ⟨ins,gs,outs,dr⟩ l T R->Sat [] false PP c (XQ ⟨ins,gs,outs,dr⟩ lv s_ ⟨v,cells,root,rl⟩ T R) k)
     ·intro tail
      refine ⟨λh=>?_,λh=>?_⟩
      ·have mD:nD ⟨ins,gs,outs,dr⟩ v=true:=h.out
       have hg:=ang hn mD
       refine hg.elim λg hg=>?_
       have XR:=EY.read hn (yP.read mD) hg.2
       have we:=hg.1
       cbv
       refine ⟨g,⟨we⟩,?_⟩
       cbv
       exact kD 8 (XQ ⟨ins,gs,outs,dr⟩ lv s_ ⟨v,cells,root,rl⟩ 0 g.n) (by exact ao) (by exact ao) (tail 0 g.n XR)
      ·cbv
       refine ⟨l,⟨mq⟩,?_⟩
       cbv
       refine bU.rel anc ⟨⟨ins,gs,outs,dr⟩,⟨v,l⟩⟩ (by exact aJ) ⟨hn,by show l.length<=_;have:=yP.len;omega⟩ λt ht=>?_
       have ht:Up ⟨v,l⟩ t:=ht.out
       have XR:=EY.u6 (n:=⟨ins,gs,outs,dr⟩) yP.len (ht.ok yP.len)
       cbv
       exact kD 8 (XQ ⟨ins,gs,outs,dr⟩ lv s_ ⟨v,cells,root,rl⟩ t.t (-1)) (by exact ao) (by exact ao) (tail t.t (-1) XR)
     ·intro T R hTR
      refine Sat.iz 7 0 3 1 nN cM rfl rfl ?_
      refine Sat.ca (EB 0 0) 9 12 [(.c 7 0,8)] (λx:Nat × List Int=>[(12,.i .i64 λ_=>(x.1:Int))]) (λx=>[(7,.fix 135 [.own 8,.i .i64 (λ_=>T),.i .i64 (λ_=>R)]),(8,.dyn 3 1 bJ λ_=>x.2)])
       (λx=>x.1<=l.length/\y6 ⟨ins,gs,outs,dr⟩ root.length x.1 x.2) (λx=>l.length - x.1) (0,[]) (by exact ao) (by exact ao) ⟨cJ _,.nil _ _⟩ ?_
      rintro ⟨j,xi⟩ ⟨hj,kJ⟩
      have hj:j<=l.length:=hj
      have kJ:y6 ⟨ins,gs,outs,dr⟩ root.length j xi:=kJ
      have QB:=yP.len
      have pV:=kJ.len
      have iG:=n0 j
      have u9:=cd (i:=j) (by omega)
      cbv
      refine ⟨l,⟨mq⟩,?_⟩
      cbv
      refine ⟨λh=>?_,λh=>?_⟩
      ·have uQ:j < l.length:=bE
       have k6:l.length - (j+1) < l.length - j:=by omega
       refine (bz uQ).elim λx hx=>?_
       have gP:=yP.mem x (b_ hx)
       refine (⟨_,rfl⟩:∃s,tK ⟨⟨ins,gs,outs,dr⟩,root,rl,x⟩=s).elim λs hs=>?_
       have ua:=adP (lv:=lv) cG gP.1 gP.2 (λ_=>asV x (b_ hx))
       have bw:=kJ.add (s:=s) (by rw [<-hs];exact ua)
       have FC:root.length<=1000000:=by omega
       have gQ:ins.length<=1000:=by omega
       cbv
       refine ⟨l,⟨mq⟩,?_⟩
       cbv
       refine ⟨x,⟨iG,hx⟩,?_⟩
       cbv
       refine ⟨⟨⟨ins,gs,outs,dr⟩,root,rl,x⟩,⟨.inl ⟨by exact aJ,rfl⟩,gQ,FC,gP.1⟩,?_⟩
       cbv
       refine ⟨[s],⟨by exact bP,by show (xi.length+1)*8<=_;omega,by show xi.length+1<=_;omega⟩,?_⟩
       cbv
       exact ⟨(j+1,xi++[s]),by exact ao,by exact ao,⟨⟨⟨uQ,bw⟩,k6⟩⟩⟩
      ·have nV:j=l.length:=OC h.out hj
       have sH:J0 (2+(ins.length:Int)+root.length) ⟨xi,T,R⟩:=⟨kJ.ok,by simp only;rw [pV,nV];exact hTR.ok⟩
       have bw:=cG.add agC sH l
       cbv
       refine ⟨[(v:Int)],⟨by exact bP,by show (root.length+1)*8<=_;omega,by show root.length+1<=_;omega⟩,?_⟩
       cbv
       refine ⟨l,⟨mq⟩,?_⟩
       cbv
       refine ⟨[l],⟨by exact bP,by show (rl.length+1)*24<=_;omega,by show rl.length+1<=_;omega⟩,?_⟩
       cbv
       refine Sat.freeze 8 rfl rfl ?_
       refine Sat.tZ (apr 0 0) ?_
       cbv
       refine ⟨[⟨xi,T,R⟩],⟨by exact bP,by show (cells.length+1)*40<=_;omega,by show cells.length+1<=_;omega⟩,?_⟩
       cbv
       exact ⟨⟨v+1,cells++[⟨xi,T,R⟩],root++[(v:Int)],rl++[l]⟩,by exact ao,by exact ao,⟨⟨bw,Cs⟩⟩⟩
   ·have rD:v=N:=by have h':aS (v:Int) (fM ⟨ins,gs,outs,dr⟩)=false:=h.out;rw [m5] at h';simp only [aS,decide_eq_false_iff_not] at h';exact aU
    have aqT:∀d∈dr,d < (v:Int):=λd hd=>by have:=V9 d hd;exact aU
    cbv
    refine Sat.iz 3 2 3 1 nN cM rfl rfl ?_
    refine Sat.ca (EB 0 0) 8 10 [(.c 3 2,7)] (λx:Nat × List Int=>[(13,.i .i64 λ_=>(x.1:Int))]) (λx=>[(3,.fix 94 [.i .i64 (λ_=>(ins.length:Int)),.own 4,.own 7,.own 5,.own 6,.ic .i64 0]),(7,.dyn 3 1 bJ λ_=>x.2)])
     (λx=>x.1<=dr.length/\y6 ⟨ins,gs,outs,dr⟩ root.length x.1 x.2) (λx=>dr.length - x.1) (0,[]) (by exact ao) (by exact ao) ⟨cJ _,.nil _ _⟩ ?_
    rintro ⟨j,xi⟩ ⟨hj,kJ⟩
    have hj:j<=dr.length:=hj
    have kJ:y6 ⟨ins,gs,outs,dr⟩ root.length j xi:=kJ
    have pV:=kJ.len
    have agA:dr.length<=1000000:=agA
    have iG:=n0 j
    have u9:=cd (i:=j) (by omega)
    cbv
    refine ⟨λh=>?_,λh=>?_⟩
    ·have uQ:j < dr.length:=bE
     have k6:dr.length - (j+1) < dr.length - j:=by omega
     refine (bz uQ).elim λx hx=>?_
     have gP:=V9 x (b_ hx)
     have oC:=aqT x (b_ hx)
     refine (⟨_,rfl⟩:∃s,tK ⟨⟨ins,gs,outs,dr⟩,root,rl,x⟩=s).elim λs hs=>?_
     have ua:=adP (lv:=lv) cG gP.1 oC (λ_=>Qr x (b_ hx))
     have bw:=kJ.add (s:=s) (by rw [<-hs];exact ua)
     have FC:root.length<=1000000:=by omega
     have gQ:ins.length<=1000:=by omega
     cbv
     refine ⟨x,⟨iG,hx⟩,?_⟩
     cbv
     refine ⟨⟨⟨ins,gs,outs,dr⟩,root,rl,x⟩,⟨.inl ⟨by exact aJ,rfl⟩,gQ,FC,gP.1⟩,?_⟩
     cbv
     refine ⟨[s],⟨by exact bP,by show (xi.length+1)*8<=_;omega,by show xi.length+1<=_;omega⟩,?_⟩
     cbv
     exact ⟨(j+1,xi++[s]),by exact ao,by exact ao,⟨⟨⟨uQ,bw⟩,k6⟩⟩⟩
    ·have nV:j=dr.length:=OC h.out hj
     have rn:=jz.of hn cG (nV ▸ kJ)
     cbv
     exact .mk' ⟨⟨ins.length,cells,xi⟩,root,rl,0⟩ ⟨by exact aJ⟩ ⟨rn,rfl⟩
structure V_ (v:Int) (y:List Int):Prop where
 len:y.length<=3
 mem:∀z∈y,0<=z/\z < v
@[reducible] noncomputable def asW:fJ where
 α:=NV
 args x:=[.agg (r7 x.n),.i .i64 (λ_=>x.v)]
 pre x:=eQ x.n/\0<=x.v/\x.v < fM x.n
 β:=List Int
 post x y:=V_ x.v y
 res x y:=.sl 1 bJ (λ_=>y)
noncomputable def asX (n m:Nat):Ctx:=fl n m [(54,Tryz.f54),(123,Tryz.f123)] [] [54,123] [] [] [] [35]
theorem adQ (n m:Nat):CB PP (asX n m):=fy n m ⟨fo Tryz.func54,fo Tryz.func123,trivial⟩ trivial
theorem aps:eI PP 114 asW:=by
 refine iI (adQ 0 0) (fo Tryz.func114) (λa=>⟨tv a.n,trivial,trivial⟩) (λa y=>(λx=>(cM x).1)) ?_
 rintro ⟨n,v⟩ hx
 have hx:eQ n/\0<=v/\v < fM n:=hx
 refine ⟨?_⟩
 cbv
 refine bU.rel F9 ⟨n,v⟩ (by exact aJ) ⟨hx⟩ λops j5=>?_
 have j5:Cr n v ops:=j5.out
 have gd:=j5.len
 cbv
 refine Sat.ca (adQ 0 0) 1 5 [] (λx:Nat × List Int=>[(5,.sl 1 bJ λ_=>x.2),(6,.sl 1 bJ λ_=>ops),(7,.i .i64 λ_=>(x.1:Int))]) (λ_=>[])
  (λx=>x.1<=ops.length/\x.2.length<=x.1/\∀z∈x.2,0<=z/\z < v) (λx=>ops.length - x.1) (0,[]) (by exact ao) (by exact ao) ⟨cJ _,cJ _,λz hz=>by simp at hz⟩ ?_
 rintro ⟨i,o⟩ ⟨hi,hl,hm⟩
 have hi:i<=ops.length:=hi
 have hl:o.length<=i:=hl
 have hm:∀z∈o,0<=z/\z < v:=hm
 have h0:=n0 i
 have h1:=cd (i:=i) (by omega)
 cbv
 refine ⟨λh=>?_,λh=>?_⟩
 ·(have h:=h.out;simp (disch:=exact aU) only [hS] at h)
  have bp:i < ops.length:=by exact aU
  have a7:ops.length - (i+1) < ops.length - i:=by omega
  obtain ⟨x,hx⟩:=bz bp
  have oC:=j5.mem x (b_ hx)
  cbv
  refine ⟨x,⟨h0,hx⟩,?_⟩
  cbv
  refine ⟨λh=>?_,λh=>?_⟩
  ·cbv
   refine ⟨x,⟨h0,hx⟩,?_⟩
   cbv
   refine bU.rel Tk ⟨o,[x]⟩ (by exact aJ) ⟨by show o.length<=_;omega,by show ([x]:List Int).length<=_;simp⟩ λu hu=>?_
   have hu:NL o [x] u:=hu.out
   have CM:u.length<=i+1:=by have:=hu.len;simp at this;omega
   have LQ:∀z∈u,0<=z/\z < v:=λz hz=>by
    rcases hu.mem z hz with h|h
    ·exact hm z h
    ·simp at h;subst h;exact oC
   cbv
   exact ⟨(i+1,u),by have bj:=h1;exact bH,by exact ao,⟨⟨bp,CM,LQ⟩,a7⟩⟩
  ·cbv
   exact ⟨(i+1,o),by have bj:=h1;exact bH,by exact ao,⟨⟨bp,Sl hl,hm⟩,a7⟩⟩
 ·cbv
  exact .mk' o ⟨by exact aJ⟩ ⟨by show o.length<=3;omega,hm⟩
@[reducible] noncomputable def asY:fJ where
 α:=Net
 args x:=[.agg (r7 x)]
 pre x:=eQ x/\x.ay.length<=1000000
 β:=KR
 post x y:=y.e=0->jz x y.m
 res x y:=PL y
noncomputable def cMp (n m:Nat):Ctx:=fl n m [(35,Tryz.f35),(110,Tryz.f110)] [] [35,110]
theorem aqU (n m:Nat):CB PP (cMp n m):=fy n m ⟨fo Tryz.func35,fo Tryz.func110,trivial⟩ trivial
theorem apt:eI PP 37 asY:=by
 refine iI (aqU 0 0) (fo Tryz.func37) (λa=>⟨tv a,trivial⟩) (λa y=>TR y) ?_
 rintro ⟨ins,gs,outs,dr⟩ hx
 obtain ⟨hn,hd⟩:eQ ⟨ins,gs,outs,dr⟩/\dr.length<=1000000:=hx
 refine ⟨?_⟩
 cbv
 refine bU.rel apo ⟨ins,gs,outs,dr⟩ (by exact aJ) ⟨hn⟩ λy hy=>?_
 have hy:UU ⟨ins,gs,outs,dr⟩ y:=hy.out
 obtain ⟨L,B,e⟩:=y
 cbv
 refine ⟨λh=>?_,λh=>?_⟩
 ·have he:e≠0:=by have h':(!aV e 0)=true:=h.out;simpa [aV] using h'
  cbv
  exact .mk' ⟨⟨0,[],[]⟩,[],[],e⟩ ⟨by exact aJ⟩ (λh=>absurd h he)
 ·have he:e=0:=by have h':(!aV e 0)=false:=h.out;simpa [aV] using h'
  have hb:=hy.ok he
  cbv
  refine bU.rel abQ ⟨⟨ins,gs,outs,dr⟩,B⟩ (by exact aJ) ⟨hn,⟨hb.1,hb.2⟩,hd⟩ λz hz=>?_
  have hz:jz ⟨ins,gs,outs,dr⟩ z.m/\z.e=0:=hz.out
  cbv
  exact .mk' z ⟨by exact aJ⟩ (λ_=>hz.1)
structure asZ where
 n:Net
 b:List Int
structure KU (n:Net) (N:Nat) (x:Nat × List (List Int)):Prop where
 lo:2+n.ins.length<=x.1
 hi:x.1<=N
 len:x.2.length=x.1
 ok:∀(u:Nat) (l:List Int),2+n.ins.length<=u->x.2[u]?=some l->kT n u l
theorem KU.add {n:Net} {N v:Nat} {L:List (List Int)} (h:KU n N (v,L)) (hv:v < N) {l:List Int} (hl:kT n v l):KU n N (v+1,L++[l]):=by
 have hlen:L.length=v:=h.len
 refine ⟨by have:=h.lo;simp only at this ⊢;omega,hv,by simp [hlen],λu k hu hk=>?_⟩
 have hk:(L++[l])[u]?=some k:=hk
 rw [DP] at hk
 split at hk
 ·exact h.ok u k hu hk
 ·have hi:u - L.length=0:=by
   have:=(bX.1 hk).1
   simp at this;omega
  rw [hi] at hk
  simp at hk
  subst hk
  have:u=v:=by omega
  rw [this];exact hl
theorem kT.ops {n:Net} {v:Nat} {l:List Int} (h:Cr n v l) (hr:nD n v=true->∃g,n.gG[((v:Int) - 2 - n.ins.length).toNat]?=some g/\g.op=7/\2+(n.ins.length:Int)<=v):kT n v l :=
 ⟨by have:=h.len;omega,h.mem,λhd=>by obtain ⟨g,h1,h2,h3⟩:=hr hd;exact h.read g h3 h1 h2⟩
theorem apu {n:Net} {v:Nat} (h:nD n v=true):∃g,n.gG[((v:Int) - 2 - n.ins.length).toNat]?=some g/\g.op=7/\2+(n.ins.length:Int)<=v:=by
 unfold nD at h
 simp only [ei,decide_eq_true_eq] at h
 obtain ⟨h1,h2⟩:=h
 split at h2
 ·rename_i g hg;exact ⟨g,hg,by simpa using h2,h1⟩
 ·cases h2
theorem kT.pick {n:Net} {v:Nat} {l:List Int} (h:vK v l) (hr:nD n v=false) (cZ:l≠[(v:Int)]):kT n v l :=
 ⟨h.len,(h.mem.resolve_left cZ),λhd=>by rw [hr] at hd;cases hd⟩
theorem kT.opn {n:Net} {v:Nat} {l:List Int} (h:V_ v l) (hr:nD n v=false):kT n v l :=
 ⟨by have:=h.len;omega,h.mem,λhd=>by rw [hr] at hd;cases hd⟩
noncomputable def XS (n:Net) (b:List Int) (v:Nat) (L:List (List Int)) (a:Int):Vc.St :=
 ⟨[.agg [.sl 3 dc (λ_=>n.ins),.sl 5 dB (λ_=>n.gG),.sl 3 dc (λ_=>n.outs),.sl 1 bJ (λ_=>n.ay)],.sl 1 iF (λ_=>b),.ptr 0 0,.any,.ptr 1 0,.own 2,.i .i64 (λ_=>(v:Int)),.any,.i .i64 (λ_=>a)]++xA 64,
  [.fix 48 [.sl 3 dc (λ_=>n.ins),.sl 5 dB (λ_=>n.gG),.sl 3 dc (λ_=>n.outs),.sl 1 bJ (λ_=>n.ay)],
   .fix 94 [.ic .i64 0,.di,.di,.di,.di,.ic .i64 0],.dyn 35 1 iV (λ_=>L)]⟩
@[reducible] noncomputable def as0:fJ where
 α:=asZ
 args x:=[.agg (r7 x.n),.sl 1 iF (λ_=>x.b)]
 pre x:=eQ x.n/\x.n.ay.length<=1000000/\x.b.length<=1000/\∀z∈x.b,0<=z/\z<=255
 β:=KR
 post x y:=jz x.n y.m/\y.e=0
 res x y:=PL y
noncomputable def cAy (n m:Nat):Ctx:=fl n m [(54,Tryz.f54),(113,Tryz.f113),(114,Tryz.f114),(110,Tryz.f110)] [(51,Ao),(107,Ie)] [54,113,114,110] [] [10,14] [22]
theorem aeZ (n m:Nat):CB PP (cAy n m):=fy n m ⟨fo Tryz.func54,fo Tryz.func113,fo Tryz.func114,fo Tryz.func110,trivial⟩ ⟨BR,Kf,trivial⟩
noncomputable def as1 (n m:Nat):Ctx:=fl n m [(54,Tryz.f54),(113,Tryz.f113),(114,Tryz.f114),(110,Tryz.f110)] [(51,Ao),(107,Ie)] [54,113,114,110] [] [] [22]
theorem adR (n m:Nat):CB PP (as1 n m):=fy n m ⟨fo Tryz.func54,fo Tryz.func113,fo Tryz.func114,fo Tryz.func110,trivial⟩ ⟨BR,Kf,trivial⟩
theorem apv:eI PP 42 as0:=by
 refine iI (aeZ 0 0) (fo Tryz.func42) (λa=>⟨tv a.n,(λx=>(rN x).1),trivial⟩) (λa y=>TR y) ?_
 rintro ⟨⟨ins,gs,outs,dr⟩,b⟩ hx
 obtain ⟨hn,hd,dW,zp⟩:eQ ⟨ins,gs,outs,dr⟩/\dr.length<=1000000/\b.length<=1000/\∀z∈b,0<=z/\z<=255:=hx
 have v5:2+ins.length+gs.length<=600:=hn.pf
 have hw:IntKind.i64.wrap (2+(ins.length:Int))=((2+ins.length:Nat):Int):=by rw [cz (by omega) (by omega)];omega
 have m5:fM ⟨ins,gs,outs,dr⟩=((2+ins.length+gs.length:Nat):Int):=by unfold fM;simp only;omega
 obtain ⟨N,hN⟩:∃N,N=2+ins.length+gs.length:=⟨_,rfl⟩
 rw [<-hN] at m5
 have eE:0<=IntKind.i64.wrap (2+(ins.length:Int))/\24*IntKind.i64.wrap (2+(ins.length:Int))<=281474976710656/\IntKind.i64.wrap (2+(ins.length:Int))<=9223372036854775807:=by rw [hw];omega
 have rE:(List.replicate (IntKind.i64.wrap (2+(ins.length:Int))).toNat ([]:List Int)).length=2+ins.length:=by rw [rK,hw];rfl
 refine ⟨?_⟩
 cbv
 refine ⟨⟨eE.1,jI _,eE.2.1,eE.2.2⟩,?_⟩
 cbv
 refine Sat.ca (aeZ 0 0) 3 5 [(.t 5,2)] (λx:Nat × List (List Int)=>[(5,.own 2),(6,.i .i64 λ_=>(x.1:Int))]) (λx=>[(2,.dyn 35 1 iV λ_=>x.2)])
  (λx=>KU ⟨ins,gs,outs,dr⟩ N x) (λx=>N - x.1) (2+ins.length,List.replicate (IntKind.i64.wrap (2+(ins.length:Int))).toNat ([]:List Int)) (by exact ao) (by exact ao)
  ⟨cP _,by show 2+ins.length<=N;omega,rE,λu l hu hl=>by have:=(bX.1 hl).1;rw [rE] at this;have hu:2+ins.length<=u:=hu;omega⟩ ?_
 rintro ⟨v,L⟩ hJ
 have hJ:KU ⟨ins,gs,outs,dr⟩ N (v,L):=hJ
 have eW:2+ins.length<=v:=hJ.lo
 have gy:v<=N:=hJ.hi
 have Ih:L.length=v:=hJ.len
 have h_:=n0 v
 have pX:=cd (i:=v) (by omega)
 cbv
 refine ⟨⟨ins,gs,outs,dr⟩,⟨by exact bP,by show 2+ins.length+gs.length<=_;omega⟩,?_⟩
 cbv
 refine ⟨λh=>?_,λh=>?_⟩
 ·have rD:v < N:=by have h':aS (v:Int) (fM ⟨ins,gs,outs,dr⟩)=true:=h.out;rw [m5] at h';simp only [aS,decide_eq_true_eq] at h';exact aU
  have a7:N - (v+1) < N - v:=by omega
  have sI:0<=(v:Int)/\(v:Int) < fM ⟨ins,gs,outs,dr⟩:=⟨h_,by rw [m5];exact aU⟩
  have gu:(L.length+1)*24<=140737488355328:=by omega
  have Ap:L.length+1<=9223372036854775807:=by omega
  cbv
  refine bU.rel F9 ⟨⟨ins,gs,outs,dr⟩,v⟩ (by exact aJ) ⟨hn,sI⟩ λops j5=>?_
  have j5:Cr ⟨ins,gs,outs,dr⟩ v ops:=j5.out
  cbv
  refine ⟨⟨⟨ins,gs,outs,dr⟩,v⟩,⟨by exact bP,hn,sI⟩,?_⟩
  cbv
  refine ⟨λh=>?_,λh=>?_⟩
  ·have mD:nD ⟨ins,gs,outs,dr⟩ v=false:=by have h':(!nD ⟨ins,gs,outs,dr⟩ v)=true:=h.out;simpa using h'
   cbv
   apply BQ (λc k=>∀a:Int,0<=a/\a<=b.length->Sat [] false PP c (XS ⟨ins,gs,outs,dr⟩ b v L a) k)
   ·intro tail
    refine ⟨λh=>?_,λh=>?_⟩
    ·have eb:b.length≠0:=by have h':aS 0 (b.length:Int)=true:=h.out;simp only [aS,decide_eq_true_eq] at h';exact aU
     have iD:0<=(IntKind.i64.wrap (3*(v:Int))).tmod (b.length:Int)/\(IntKind.i64.wrap (3*(v:Int))).tmod (b.length:Int)<=b.length:=by
      rw [cz (n:=3*(v:Int)) (by omega) (by omega)]
      have h1:=Int.tmod_nonneg (a:=3*(v:Int)) (b.length:Int) (by omega)
      have h2:=Int.tmod_lt_of_pos (3*(v:Int)) (show (0:Int) < b.length by omega)
      omega
     obtain ⟨q,hq⟩:∃q,(IntKind.i64.wrap (3*(v:Int))).tmod (b.length:Int)=q:=⟨_,rfl⟩
     rw [hq] at iD
     have as2:¬(b.length:Int)=0:=by omega
     cbv
     refine ⟨⟨as2⟩,?_⟩
     exact kD 3 (XS ⟨ins,gs,outs,dr⟩ b v L q) (by exact ao) (by exact ao) (tail _ iD)
    ·cbv
     exact kD 3 (XS ⟨ins,gs,outs,dr⟩ b v L 0) (by exact ao) (by exact ao) (tail 0 ⟨jI _,Gf _⟩)
   ·intro a ha
    have ha3:IntKind.i64.wrap (a+3)=a+3:=cz (by omega) (by omega)
    obtain ⟨e,he⟩:∃e,(if (b.length:Int)<=IntKind.i64.wrap (a+3) then (b.length:Int) else IntKind.i64.wrap (a+3))=e:=⟨_,rfl⟩
    have jc:0<=a/\a<=(if (b.length:Int)<=IntKind.i64.wrap (a+3) then (b.length:Int) else IntKind.i64.wrap (a+3))/\(if (b.length:Int)<=IntKind.i64.wrap (a+3) then (b.length:Int) else IntKind.i64.wrap (a+3))<=b.length:=by
     rw [ha3];split<;>omega
    obtain ⟨A,hA⟩:∃A,(b.take (if (b.length:Int)<=IntKind.i64.wrap (a+3) then (b.length:Int) else IntKind.i64.wrap (a+3)).toNat).drop a.toNat=A:=⟨_,rfl⟩
    have hAl:A.length<=3:=by rw [<-hA,vy,lu,ha3];split<;>omega
    have hAm:∀z∈[0]++A,0<=z/\z<=255:=λz hz=>by
     rcases List.mem_append.1 hz with hz|hz
     ·simp at hz;omega
     ·rw [<-hA] at hz;exact zp z (uC (rL hz))
    refine Sat.tZ (adR 0 0) ?_
    cbv
    refine ⟨[0],⟨by exact aJ,rfl⟩,?_⟩
    cbv
    refine ⟨⟨jc⟩,?_⟩
    cbv
    refine ⟨A,⟨by exact bP,by show (1+A.length)*1<=_;omega,by show 1+A.length<=_;omega⟩,?_⟩
    cbv
    refine bU.jD aol anf ⟨⟨ins,gs,outs,dr⟩,v,[0]++A⟩ [4] rfl (by exact bP) (by exact ao) ⟨⟨hn,by show 2+(ins.length:Int)<=v;omega,sI.2,by show ([0]++A).length<=1000;rw [fZ,nK];omega,hAm⟩⟩ λl hl=>?_
    have hl:vK v l:=hl.out
    cbv
    refine ⟨λh=>?_,λh=>?_⟩
    ·have pP:l.length=1:=by have h':aV (l.length:Int) 1=true:=h.out;simp only [aV,beq_iff_eq] at h';exact aU
     refine (bz (l:=l) (i:=0) (by omega)).elim λx hx=>?_
     cbv
     refine ⟨x,⟨jI _,hx⟩,?_⟩
     cbv
     refine ⟨λh=>?_,λh=>?_⟩
     ·cbv
      refine bU.rel aps ⟨⟨ins,gs,outs,dr⟩,v⟩ (by exact aJ) ⟨hn,sI⟩ λo ho=>?_
      have ho:V_ v o:=ho.out
      have bw:=hJ.add rD (kT.opn ho mD)
      cbv
      refine ⟨[o],⟨by exact bP,gu,Ap⟩,?_⟩
      cbv
      exact ⟨(v+1,L++[o]),by exact ao,by exact ao,⟨⟨bw,a7⟩⟩⟩
     ·have oC:x≠v:=bE
      have bw:=hJ.add rD (kT.pick hl mD (by rintro rfl;simp at hx;exact oC hx.symm))
      cbv
      refine ⟨[l],⟨by exact bP,gu,Ap⟩,?_⟩
      cbv
      exact ⟨(v+1,L++[l]),by exact ao,by exact ao,⟨⟨bw,a7⟩⟩⟩
    ·have pP:l.length≠1:=by have h':aV (l.length:Int) 1=false:=h.out;simp only [aV,beq_eq_false_iff_ne,ne_eq] at h';intro e;exact h' (by rw [e];rfl)
     have bw:=hJ.add rD (kT.pick hl mD (by rintro rfl;exact pP rfl))
     cbv
     refine ⟨[l],⟨by exact bP,gu,Ap⟩,?_⟩
     cbv
     exact ⟨(v+1,L++[l]),by exact ao,by exact ao,⟨⟨bw,a7⟩⟩⟩
  ·have mD:nD ⟨ins,gs,outs,dr⟩ v=true:=by have h':(!nD ⟨ins,gs,outs,dr⟩ v)=false:=h.out;simpa using h'
   have bw:=hJ.add rD (kT.ops j5 λ_=>apu mD)
   cbv
   refine ⟨[ops],⟨by exact bP,gu,Ap⟩,?_⟩
   cbv
   exact ⟨(v+1,L++[ops]),by exact ao,by exact ao,⟨⟨bw,a7⟩⟩⟩
 ·have rD:v=N:=by have h':aS (v:Int) (fM ⟨ins,gs,outs,dr⟩)=false:=h.out;rw [m5] at h';simp only [aS,decide_eq_false_iff_not] at h';exact aU
  have ec:Tl ⟨ins,gs,outs,dr⟩ L:=⟨by rw [Ih,rD,hN],hJ.ok⟩
  cbv
  refine Sat.freeze 2 rfl rfl ?_
  refine Sat.tZ (adR 0 0) ?_
  cbv
  refine bU.rel abQ ⟨⟨ins,gs,outs,dr⟩,L⟩ (by exact aJ) ⟨hn,ec,hd⟩ λz hz=>?_
  have hz:jz ⟨ins,gs,outs,dr⟩ z.m/\z.e=0:=hz.out
  cbv
  exact .mk' z ⟨by exact aJ⟩ hz
end Go.Proofs.Pk
