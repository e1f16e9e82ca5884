import Derived.Test.YthnhbemmlfaihaaGreatT19
import Derived.Test.YthnhbemmlfaihaaGreatT24
import Derived.Test.YthnhbemmlfaihaaGreatT29
import Derived.Test.YthnhbemmlfaihaaGreatT30
set_option linter.unusedVariables false
set_option linter.unusedSimpArgs false
set_option maxRecDepth 10000
set_option maxHeartbeats 64000000
namespace Go.Proofs.Pk
open Go Go.Vc
def xH (ins:Int) (gs:List Gate) (x y z:Int):pU :=
 if aV x 0=true then ⟨gs,z⟩ else if aV x 1=true then ⟨gs,y⟩ else if aV y z=true then ⟨gs,y⟩ else if aV y 1=true then orM ins gs x z
 else if aV z 0=true then andM ins gs x y else if aV y 0=true then andM ins (notM ins gs x).gs (notM ins gs x).n z
 else if aV z 1=true then orM ins (notM ins gs x).gs (notM ins gs x).n y else kX ins gs ⟨5,x,y,z,0⟩
theorem aow {ins:Int} {gs:List Gate} {x y z:Int} (hb:eu ins gs) (hl:gs.length+10<=1000000000) (hx:cH ins gs x) (hy:cH ins gs y) (hz:cH ins gs z):dR ins gs 2 (xH ins gs x y z):=by
 have hi:=hb.ins.1
 have hv:=acZ hb hx
 have jf:=hb.next hv (by have:=hv.hi;omega)
 have ja:=hy.mono hv.lo
 have iB:=hz.mono hv.lo
 unfold xH
 repeat' split
 all_goals first|exact .same hb.ok hz|exact .same hb.ok hy|exact (adX hb hx hz).more (by decide)|exact (GS hb hx hy).more (by decide)|exact hv.trans (GS jf hv.n iB)|exact hv.trans (adX jf hv.n ja)|exact (NN hb (sD (by decide) hi hx hy hz)).more (by decide)
@[reducible] noncomputable def afb:Vc.Spec where
 α:=B3
 args x:=[.agg [.i .i64 (λ_=>x.ins),.sl 5 dB (λ_=>x.gs)],.agg [.i .i64 (λ_=>x.x),.i .i64 (λ_=>x.y),.i .i64 (λ_=>x.z)]]
 pre x:=(eu x.ins x.gs/\x.gs.length+10<=1000000000)/\cH x.ins x.gs x.x/\cH x.ins x.gs x.y/\cH x.ins x.gs x.z
 res x:=.agg [.i .i64 (λ_=>x.ins),.sl 5 dB (λ_=>(xH x.ins x.gs x.x x.y x.z).gs),.i .i64 (λ_=>(xH x.ins x.gs x.x x.y x.z).n)]
noncomputable def atv (n m:Nat):Ctx:=fl n m [] [(223,ae_),(224,Wn),(160,Km),(227,Eo)]
theorem apM (n m:Nat):CB PP (atv n m):=fy n m trivial ⟨aov,apL,TW,GD,trivial⟩
theorem aox:cS (PP ()) 225 afb:=by
 refine dP (apM 0 0) (fo Tryz.func225) (λa=>⟨⟨trivial,(λx=>(eK x).1),trivial⟩,⟨trivial,trivial,trivial,trivial⟩,trivial⟩) (λa=>⟨trivial,(λx=>(eK x).1),trivial,trivial⟩) ?_
 rintro ⟨ins,gs,x,y,z⟩ hx
 obtain ⟨⟨hb,hl⟩,hx,hy,hz⟩:(eu ins gs/\gs.length+10<=1000000000)/\cH ins gs x/\cH ins gs y/\cH ins gs z:=hx
 have hi:=hb.ins.1
 have hv:=acZ hb hx
 have jf:=hb.next hv (by have:=hv.hi;omega)
 have ja:=hy.mono hv.lo
 have iB:=hz.mono hv.lo
 have x6:=hv.n
 clear hv
 obtain ⟨v,hv⟩:∃v,notM ins gs x=v:=⟨_,rfl⟩
 rw [hv] at jf ja iB x6
 obtain ⟨m,hm⟩:∃m,xH ins gs x y z=m:=⟨_,rfl⟩
 have pX:(notM ins gs x).gs=v.gs:=by rw [hv]
 have jM:(notM ins gs x).n=v.n:=by rw [hv]
 have j7:m.gs=(xH ins gs x y z).gs:=by rw [hm]
 have jj:m.n=(xH ins gs x y z).n:=by rw [hm]
 unfold xH at hm
 refine ⟨?_⟩
 cbv
 refine ⟨λh=>?_,λh=>?_⟩
 ·have h1:aV x 0=true:=h.out
  simp only [h1,if_true] at hm
  subst hm
  cbv
  exact ⟨by have dG:=j7;have bj:=jj;exact dv⟩
 have h1:aV x 0=false:=h.out
 simp only [h1,jr,if_false] at hm
 clear h
 cbv
 refine ⟨λh=>?_,λh=>?_⟩
 ·have h1:aV x 1=true:=h.out
  simp only [h1,if_true] at hm
  subst hm
  cbv
  exact ⟨by have dG:=j7;have bj:=jj;exact dv⟩
 have h1:aV x 1=false:=h.out
 simp only [h1,jr,if_false] at hm
 clear h
 cbv
 refine ⟨λh=>?_,λh=>?_⟩
 ·have h1:aV y z=true:=h.out
  simp only [h1,if_true] at hm
  subst hm
  cbv
  exact ⟨by have dG:=j7;have bj:=jj;exact dv⟩
 have h1:aV y z=false:=h.out
 simp only [h1,jr,if_false] at hm
 clear h
 cbv
 refine ⟨λh=>?_,λh=>?_⟩
 ·have h1:aV y 1=true:=h.out
  simp only [h1,if_true] at hm
  subst hm
  cbv
  refine ⟨⟨ins,gs,x,z⟩,⟨by exact aJ,⟨hb,hx,hz⟩,trivial⟩,?_⟩
  cbv
  exact ⟨by have dG:=j7;have bj:=jj;exact dv⟩
 have h1:aV y 1=false:=h.out
 simp only [h1,jr,if_false] at hm
 clear h
 cbv
 refine ⟨λh=>?_,λh=>?_⟩
 ·have h1:aV z 0=true:=h.out
  simp only [h1,if_true] at hm
  subst hm
  cbv
  refine ⟨⟨ins,gs,x,y⟩,⟨by exact aJ,⟨hb,hx,hy⟩,trivial⟩,?_⟩
  cbv
  exact ⟨by have dG:=j7;have bj:=jj;exact dv⟩
 have h1:aV z 0=false:=h.out
 simp only [h1,jr,if_false] at hm
 clear h
 cbv
 refine ⟨λh=>?_,λh=>?_⟩
 ·have h1:aV y 0=true:=h.out
  simp only [h1,if_true] at hm
  subst hm
  rw [hv] at j7 jj
  cbv
  refine ⟨⟨ins,gs,x⟩,⟨by exact aJ,hb,hx⟩,?_⟩
  cbv
  refine ⟨⟨ins,v.gs,v.n,z⟩,⟨by have dG:=pX;have bj:=jM;exact dv,⟨jf,x6,iB⟩,trivial⟩,?_⟩
  cbv
  exact ⟨by have dG:=j7;have bj:=jj;exact dv⟩
 have h1:aV y 0=false:=h.out
 simp only [h1,jr,if_false] at hm
 clear h
 cbv
 refine ⟨λh=>?_,λh=>?_⟩
 ·have h1:aV z 1=true:=h.out
  simp only [h1,if_true] at hm
  subst hm
  rw [hv] at j7 jj
  cbv
  refine ⟨⟨ins,gs,x⟩,⟨by exact aJ,hb,hx⟩,?_⟩
  cbv
  refine ⟨⟨ins,v.gs,v.n,y⟩,⟨by have dG:=pX;have bj:=jM;exact dv,⟨jf,x6,ja⟩,trivial⟩,?_⟩
  cbv
  exact ⟨by have dG:=j7;have bj:=jj;exact dv⟩
 have h1:aV z 1=false:=h.out
 simp only [h1,jr,if_false] at hm
 clear h
 subst hm
 cbv
 refine ⟨⟨ins,gs,⟨5,x,y,z,0⟩⟩,⟨by exact aJ,hb,sD (by decide) hi hx hy hz⟩,?_⟩
 cbv
 exact ⟨by have dG:=j7;have bj:=jj;exact dv⟩
structure OB (L c:Int) (rw:List Int) (i k:Int) (n:Nat) (gs:List Gate) (l:List bT) (dr:List Int):Prop where
 s6:sq c l
 wr:∀w∈l,l9 w 1 10/\(w.kind=1\/5<=w.kind)
 aN:qZ rw i k l
 len:l.length<=n
 dl:dr.length=l.length
 nd:fE L gs dr
theorem OB.nil (L:Int) (rw:List Int) (gs:List Gate):OB L 0 rw 0 0 0 gs [] []:=⟨sq.nil _,by simp,qZ.nil rw,cP _,rfl,.nil _ _⟩
theorem OB.up {L c d:Int} {rw:List Int} {i k:Int} {n n':Nat} {gs cu:List Gate} {l:List bT} {dr:List Int} (h:OB L c rw i k n gs l dr) (hc:c<=d) (hn:n<=n') (hg:gs.length<=cu.length):OB L d rw i k n' cu l dr:=⟨h.s6.up hc,h.wr,h.aN,by have:=h.len;omega,h.dl,h.nd.mono hg⟩
theorem OB.bf {L:Int} {rw:List Int} {i k n:Nat} {gs cu:List Gate} {l:List bT} {dr:List Int} (h:OB L (16*i+k) rw i k n gs l dr) (hi:i<=31) (hk:k<=7) (hg:gs.length<=cu.length) {v:Int} (hv:cH L cu v):OB L (16*i+(k+1:Nat)) rw i ((k+1:Nat):Int) (n+1) cu (l++[⟨1,i,k⟩]) (dr++[v]):=by
 refine ⟨h.s6.add (by simp [ig]) (by simp [ig];omega),N3 h.wr ⟨⟨by simp,by simp,by simp,by simp,by simp;omega⟩,by simp⟩,?_,by have:=h.len;simp;omega,by simp [h.dl],(h.nd.mono hg).add hv⟩
 have:=h.aN.bit (by omega) (by omega)
 simpa using this
theorem OB.next {L:Int} {rw:List Int} {i k n n':Nat} {gs:List Gate} {l:List bT} {dr:List Int} (h:OB L (16*i+k) rw i k n gs l dr) (hw:rw[i]?=some (k:Int)) (hk:k<=8) (hn:n<=n'):OB L (16*(i+1:Nat)) rw ((i+1:Nat):Int) 0 n' gs l dr :=
 ⟨h.s6.up (by omega),h.wr,h.aN.next hw,by have:=h.len;omega,h.dl,h.nd⟩
theorem OB.add {L c d:Int} {rw:List Int} {i k:Int} {n:Nat} {gs cu:List Gate} {l:List bT} {dr:List Int} (h:OB L c rw i k n gs l dr) {w:bT} (hw:w.kind≠1) (hr:l9 w 1 10/\(w.kind=1\/5<=w.kind)) (hc:c<=ig w) (hd:ig w < d) (hg:gs.length<=cu.length) {v:Int} (hv:cH L cu v):OB L d rw i k (n+1) cu (l++[w]) (dr++[v]) :=
 ⟨h.s6.add hc hd,N3 h.wr hr,h.aN.other hw,by have:=h.len;simp;omega,by simp [h.dl],(h.nd.mono hg).add hv⟩
structure SI where
 p:ry
 ins:List bT
 d:DU
structure SO where
 gs:List Gate
 out:List bT
 ay:List Int
structure TX (L:Int) (p:ry) (d:DU) (y:SO):Prop where
 ok:kK L y.gs
 lo:d.gs.length<=y.gs.length
 hi:y.gs.length<=d.gs.length+3400
 out:OB L 2000 (p.aN.map (·.w)) p.aN.length 0 30 y.gs y.out y.ay
@[reducible] noncomputable def apN:mP where
 α:=SI
 args x:=[.agg (yQ 2 x.p++[.sl 3 dc (λ_=>x.ins),.sl 1 iV (λ_=>x.d.data)]),.agg [.i .i64 (λ_=>x.ins.length),.sl 5 dB (λ_=>x.d.gs),.sl 1 bJ (λ_=>x.d.aZ),.sl 1 bJ (λ_=>x.d.dX),.sl 1 iV (λ_=>x.d.data),.i .i64 (λ_=>x.d.iY)]]
 io x:=[.dead,.dead]
 pre x:=qY x.p/\x.ins.length<=100/\En x.ins.length x.p x.d
 β:=SO
 post x y:=TX x.ins.length x.p x.d y
 mv:=[0,1]
 res x y:=.agg [.i .i64 (λ_=>x.ins.length),.sl 5 dB (λ_=>y.gs),.own 0,.own 1]
 j8 x y:=[.dyn 133 3 dc (λ_=>y.out),.dyn 3 1 bJ (λ_=>y.ay)]
structure SL where
 i:Nat
 gs:List Gate
 out:List bT
 dr:List Int
structure ag2 (L:Int) (g0 n:Nat) (rw:List Int) (x:SL):Prop where
 i:x.i<=n
 ok:kK L x.gs
 lo:g0<=x.gs.length
 hi:x.gs.length<=g0+1050*x.i
 out:OB L (16*x.i) rw x.i 0 (3*x.i) x.gs x.out x.dr
structure ag3 (L:Int) (g0 i n:Nat) (rw:List Int) (x:SL):Prop where
 le:x.i<=n
 ok:kK L x.gs
 lo:g0<=x.gs.length
 hi:x.gs.length<=g0+2*x.i
 out:OB L (16*i+x.i) rw i x.i (3*i+x.i) x.gs x.out x.dr
structure ag4 (L:Int) (g0 m n:Nat) (rw:List Int) (x:SL):Prop where
 le:x.i<=n
 ok:kK L x.gs
 lo:g0<=x.gs.length
 hi:x.gs.length<=g0+x.i
 out:OB L (1000+x.i) rw m 0 (9+x.i) x.gs x.out x.dr
noncomputable def cSt (n m:Nat):Ctx:=fl n m [(162,Tryz.f162),(161,Tryz.f161)] [(222,Ki),(225,afb),(160,Km)] [162,161]
theorem Pb (n m:Nat):CB PP (cSt n m):=fy n m ⟨fo Tryz.func162,fo Tryz.func161,trivial⟩ ⟨N2,aox,TW,trivial⟩
theorem anl:iC PP 159 apN:=by
 refine mA (Pb 2 2) (fo Tryz.func159) (λa y=>rfl) (λa=>⟨rfl,rfl⟩) (by show ([0,1]:List Nat).Nodup;decide) ?_
 rintro ⟨p,ins,⟨sr,aZ,dX,data,iY⟩⟩ hx
 obtain ⟨hp,hi,hd⟩:qY p/\ins.length<=100/\En ins.length p ⟨sr,aZ,dX,data,iY⟩:=hx
 obtain ⟨L,hL⟩:∃L:Int,(ins.length:Int)=L:=⟨_,rfl⟩
 rw [hL] at hd
 have zo:0<=L/\L<=100:=by omega
 have rF:p.aN.length<=3:=hp.aN.1
 have wE:p.aZ.length<=2:=hp.aZ.1
 have wD:∀(i:Nat) (r:s4),p.aN[i]?=some r->1<=r.w/\r.w<=3/\WT (nS p true) 3 r.w r.next:=λi r h=>hp.aN.2 r (b_ h)
 have nZ:=Pa hp hi (b:=true) (I:=L) (gs:=sr) (data:=data) (λ_=>hd.data)
 obtain ⟨st,cG⟩:∃st,st=nS p true:=⟨_,rfl⟩
 rw [<-cG] at wD nZ
 have hg0:sr.length<=6000:=hd.dH
 have atw:kK L sr:=hd.ok
 have G4:cH L sr iY:=hd.iY
 have Im:aZ.length=p.aZ.length:=hd.tl
 have qF:fE L sr aZ:=hd.tn
 have E5:∀d∈data,fE L sr d:=hd.data.ok
 obtain ⟨R,hR⟩:∃R,R=p.aN.map (·.w):=⟨_,rfl⟩
 clear hd hp
 refine ⟨?_⟩
 cbv
 refine Sat.iz 5 2 133 3 GN gL rfl rfl ?_
 refine Sat.iz 5 3 3 1 nN cM rfl rfl ?_
 refine Sat.ca (Pb 2 2) 8 6 [(.c 5 2,6),(.c 5 3,7)] (λx:SL=>[(6,.i .i64 λ_=>(x.i:Int))]) (λx=>[(5,.fix 282 [.i .i64 (λ_=>(ins.length:Int)),.sl 5 dB (λ_=>x.gs),.own 6,.own 7]),(6,.dyn 133 3 dc λ_=>x.out),(7,.dyn 3 1 bJ λ_=>x.dr)])
  (λx=>ag2 L sr.length p.aN.length R x) (λx=>p.aN.length - x.i) ⟨0,sr,[],[]⟩ (by exact ao) (by exact ao) ⟨cJ _,atw,cP _,cP _,.nil _ _ _⟩ ?_
 rintro ⟨i,gs,out,dr⟩ ⟨FJ,cq,eW,gy,nw⟩
 simp only at FJ cq eW gy nw
 have h0:=n0 i
 have h1:=cd (i:=i) (by omega)
 cbv
 refine ⟨λh=>?_,λh=>?_⟩
 ·have bp:i < p.aN.length:=bE
  have a7:p.aN.length - (i+1) < p.aN.length - i:=by omega
  refine (bz bp).elim λr hr=>?_
  have hw:=wD i r hr
  have L5:R[i]?=some r.w:=by rw [hR];exact agW hr
  have gu:Room L gs (KB 3):=⟨cq,by omega,by show _+1040<=_;omega⟩
  cbv
  refine ⟨r,⟨h0,hr⟩,?_⟩
  cbv
  have hL:((ins.length:Nat):Int)=L:=hL
  refine bU.rel (Ec 2 3) ⟨p,ins,data,gs,r.next,st,r.w⟩ (by have A6:=hw.2.2;exact dv) ⟨nZ,(by show Room ins.length gs (KB 3);rw [hL];exact gu),λd hd=>(by show fE ins.length gs d;rw [hL];exact (E5 d hd).mono eW),hw.2.2⟩ λy hy=>?_
  have hy:lC L gs 1040 r.w.toNat y:=hL ▸ hy.out
  have HB:=hy.lo
  have Wf:=hy.hi
  have U6:=hy.len
  have Wj:=hy.ok
  have hyn:=hy.n
  have AN:OB L (16*i+(0:Nat)) R i ((0:Nat):Int) (3*i+0) y.gs out dr:=by
   have:=nw.up (jI _) (cP _) HB
   simpa using this
  clear nw
  cbv
  refine Sat.ca (Pb 2 2) 9 8 [(.c 5 2,6),(.c 5 3,7)] (λx:SL=>[(8,.i .i64 λ_=>(x.i:Int))]) (λx=>[(5,.fix 282 [.i .i64 (λ_=>(ins.length:Int)),.sl 5 dB (λ_=>x.gs),.own 6,.own 7]),(6,.dyn 133 3 dc λ_=>x.out),(7,.dyn 3 1 bJ λ_=>x.dr)])
   (λx=>ag3 L y.gs.length i y.l.length R x) (λx=>y.l.length - x.i) ⟨0,y.gs,out,dr⟩ (by exact ao) (by exact ao) ⟨cJ _,Wj,cP _,cP _,AN⟩ ?_
  rintro ⟨k,cC,dD,ph⟩ ⟨ya,xI,CC,E6,sO⟩
  simp only at ya xI CC E6 sO
  have gK:=n0 k
  have eT:=cd (i:=k) (by omega)
  have xY:y.l.length<=3:=by have:=hw.2.1;omega
  cbv
  refine ⟨λh=>?_,λh=>?_⟩
  ·have cW:k < y.l.length:=bE
   have k6:y.l.length - (k+1) < y.l.length - k:=by omega
   have hk7:k<=7:=by have:=hw.2.1;omega
   have atx:i<=31:=by omega
   have tL:eu L cC:=⟨xI,by omega,by omega⟩
   have Ap:cC.length+10<=1000000000:=by omega
   have EC:cH L cC iY:=G4.mono (by omega)
   refine (bz cW).elim λx hx=>?_
   have wG:cH L cC x:=(hyn x (b_ hx)).mono CC
   have hL:((ins.length:Nat):Int)=L:=hL
   refine (Jl ins cC hL hi ⟨1,i,k⟩).elim λwv p7=>?_
   have gd:dD.length<=1000000:=by have:=sO.len;omega
   have fO:ph.length<=1000000:=by rw [sO.dl];exact gd
   cbv
   refine ⟨x,⟨gK,hx⟩,?_⟩
   cbv
   refine ⟨⟨ins,⟨1,i,k⟩⟩,⟨by exact aJ,by show ins.length<=_;omega⟩,?_⟩
   cbv
   obtain ⟨z,ta⟩:∃z,z=xH L cC iY x wv:=⟨_,rfl⟩
   have hz:dR L cC 2 z:=by rw [ta];exact aow tL Ap EC wG p7.2
   have iL:(xH L cC iY x wv).gs=z.gs:=by rw [ta]
   have iB:(xH L cC iY x wv).n=z.n:=by rw [ta]
   have azS:=p7.1
   refine ⟨⟨L,cC,iY,x,wv⟩,⟨by exact aJ,⟨tL,Ap⟩,EC,wG,p7.2⟩,?_⟩
   have E7:=hz.lo
   have Wo:=hz.hi
   have bw:ag3 L y.gs.length i y.l.length R ⟨k+1,z.gs,dD++[⟨1,i,k⟩],ph++[z.n]⟩:=⟨cW,hz.ok,by show y.gs.length<=z.gs.length;omega,by show z.gs.length<=y.gs.length+2*(k+1);omega,sO.bf atx hk7 E7 hz.n⟩
   cbv
   refine bU.io Ed ⟨L,cC,dD,ph,⟨1,i,k⟩,z.gs,z.n⟩ [6,7] rfl (by exact bP) (by exact ao) ⟨⟨gd,fO⟩⟩ λ_ _=>?_
   cbv
   exact ⟨⟨k+1,z.gs,dD++[⟨1,i,k⟩],ph++[z.n]⟩,by have bj:=eT;exact bH,by have bj:=hL.symm;exact bH,⟨⟨bw,k6⟩⟩⟩
  ·have tM:k=y.l.length:=tx h.out ya
   have CV:(k:Int)=r.w:=by rw [tM,U6];have:=hw.1;omega
   have hk8:k<=8:=by have:=hw.2.1;omega
   have bw:ag2 L sr.length p.aN.length R ⟨i+1,cC,dD,ph⟩:=⟨bp,xI,by show sr.length<=cC.length;omega,by show cC.length<=sr.length+1050*(i+1);omega,by
    refine sO.next (by rw [CV];exact L5) hk8 ?_
    show 3*i+k<=3*(i+1)
    omega⟩
   cbv
   exact ⟨⟨i+1,cC,dD,ph⟩,by have bj:=h1;exact bH,by exact ao,⟨⟨bw,a7⟩⟩⟩
 ·have bR:i=p.aN.length:=tx h.out FJ
  have A8:R.length=p.aN.length:=by rw [hR,oT]
  have AN:OB L (1000+(0:Nat)) R p.aN.length 0 (9+0) gs out dr:=by
   have h2:=nw
   rw [bR] at h2
   exact h2.up (by exact aU) (by exact aU) (cP _)
  have gy:gs.length<=sr.length+3150:=by omega
  clear nw
  cbv
  refine Sat.ca (Pb 2 2) 8 6 [(.c 5 2,6),(.c 5 3,7)] (λx:SL=>[(10,.i .i64 λ_=>(x.i:Int))]) (λx=>[(5,.fix 282 [.i .i64 (λ_=>(ins.length:Int)),.sl 5 dB (λ_=>x.gs),.own 6,.own 7]),(6,.dyn 133 3 dc λ_=>x.out),(7,.dyn 3 1 bJ λ_=>x.dr)])
   (λx=>ag4 L gs.length p.aN.length p.aZ.length R x) (λx=>p.aZ.length - x.i) ⟨0,gs,out,dr⟩ (by exact ao) (by exact ao) ⟨cJ _,cq,cP _,cP _,AN⟩ ?_
  rintro ⟨k,cC,dD,ph⟩ ⟨ya,xI,CC,E6,sO⟩
  simp only at ya xI CC E6 sO
  have gK:=n0 k
  have eT:=cd (i:=k) (by omega)
  cbv
  refine ⟨λh=>?_,λh=>?_⟩
  ·have cW:k < p.aZ.length:=bE
   have k6:p.aZ.length - (k+1) < p.aZ.length - k:=by omega
   have tL:eu L cC:=⟨xI,by omega,by omega⟩
   have EC:cH L cC iY:=G4.mono (by omega)
   refine (bz (l:=aZ) (i:=k) (by omega)).elim λx hx=>?_
   have wG:cH L cC x:=(qF x (b_ hx)).mono (by omega)
   have hL:((ins.length:Nat):Int)=L:=hL
   have gd:dD.length<=1000000:=by have:=sO.len;omega
   have fO:ph.length<=1000000:=by rw [sO.dl];exact gd
   obtain ⟨z,ta⟩:∃z,z=andM L cC iY x:=⟨_,rfl⟩
   have hz:dR L cC 1 z:=by rw [ta];exact GS tL EC wG
   have iL:(andM L cC iY x).gs=z.gs:=by rw [ta]
   have iB:(andM L cC iY x).n=z.n:=by rw [ta]
   have E7:=hz.lo
   have Wo:=hz.hi
   have bw:ag4 L gs.length p.aN.length p.aZ.length R ⟨k+1,z.gs,dD++[⟨5,k,0⟩],ph++[z.n]⟩:=⟨cW,hz.ok,by show gs.length<=z.gs.length;omega,by show z.gs.length<=gs.length+(k+1);omega,sO.add (by simp) ⟨⟨by simp,by simp,by simp,by simp,by simp⟩,by simp⟩ (by simp [ig]) (by simp [ig];exact aU) E7 hz.n⟩
   cbv
   refine ⟨x,⟨gK,hx⟩,?_⟩
   cbv
   refine ⟨⟨L,cC,iY,x⟩,⟨by exact bP,⟨tL,EC,wG⟩,trivial⟩,?_⟩
   cbv
   refine bU.io Ed ⟨L,cC,dD,ph,⟨5,k,0⟩,z.gs,z.n⟩ [6,7] rfl (by exact bP) (by exact ao) ⟨⟨gd,fO⟩⟩ λ_ _=>?_
   cbv
   exact ⟨⟨k+1,z.gs,dD++[⟨5,k,0⟩],ph++[z.n]⟩,by exact ao,by exact ao,⟨⟨bw,k6⟩⟩⟩
  ·have tM:k=p.aZ.length:=tx h.out ya
   have bV:TX ins.length p ⟨sr,aZ,dX,data,iY⟩ ⟨cC,dD,ph⟩:=by
    have hL:((ins.length:Nat):Int)=L:=hL
    rw [hL]
    refine ⟨xI,by show sr.length<=cC.length;omega,by show cC.length<=sr.length+3400;omega,?_⟩
    rw [<-hR]
    exact sO.up (by exact aU) (by exact aU) (cP _)
   cbv
   refine ⟨⟨cC,dD,ph⟩,[],[(.c 4 2,0),(.c 4 3,1)],?_,by exact ao,⟨bV⟩⟩
   cbv
   exact ⟨by exact aJ,trivial⟩
structure NE where
 n:Net
 e:Int
@[reducible] noncomputable def apO:fJ where
 α:=ry
 args x:=[.agg (yQ 2 x)]
 pre x:=qY x
 β:=NE
 post x y:=eQ y.n/\y.n.ay.length<=1000
 res x y:=.agg [.sl 3 dc (λ_=>y.n.ins),.sl 5 dB (λ_=>y.n.gG),.sl 3 dc (λ_=>y.n.outs),.sl 1 bJ (λ_=>y.n.ay),.i .i64 (λ_=>y.e)]
structure HF (L:Int) (g0 c k m:Nat) (f:Nat->Int) (n l:Nat) (rw:List Int) (x:SL):Prop where
 i:x.i<=n
 ok:kK L x.gs
 lo:g0<=x.gs.length
 hi:x.gs.length<=g0+c*x.i
 out:OB L (f x.i) rw m 0 (l+k*x.i) x.gs x.out x.dr
theorem OB.sig {L c:Int} {rw:List Int} {i k:Int} {n:Nat} {gs:List Gate} {l:List bT} {dr:List Int} (h:OB L c rw i k n gs l dr) {cu:List Gate} (hg:gs.length<=cu.length):OB L c rw i k n cu l dr:=h.up (jI _) (cP _) hg
theorem OB.outs {L c:Int} {rw:List Int} {n:Nat} {gs:List Gate} {l:List bT} {dr:List Int} (h:OB L c rw rw.length 0 n gs l dr):Ul rw l:=⟨⟨_,h.s6⟩,h.wr,h.aN⟩
structure PZ (n:Nat) (L:Int) (g0 g1 m:Nat) (c:Int) (l:Nat) (rw:List Int) (x:SL):Prop where
 le:x.i<=n
 ok:kK L x.gs
 lo:g0<=x.gs.length
 hi:x.gs.length<=g1
 out:OB L (c+(x.i:Int)) rw m 0 (l+1*x.i) x.gs x.out x.dr
theorem aoy:eQ ⟨[],[],[],[]⟩:=⟨by decide,by simp,λi g h=>by simp at h,by simp,DK,DK,λw _=>w7,rfl,by simp⟩
noncomputable def cBd (n m:Nat):Ctx:=fl n m [(157,Tryz.f157),(158,Tryz.f158),(159,Tryz.f159),(162,Tryz.f162),(161,Tryz.f161),(163,Tryz.f163)] [(160,Km),(51,Ao)] [157,158,159,162,161,163]
theorem He (n m:Nat):CB PP (cBd n m):=fy n m ⟨fo Tryz.func157,fo Tryz.func158,fo Tryz.func159,fo Tryz.func162,fo Tryz.func161,fo Tryz.func163,trivial⟩ ⟨TW,BR,trivial⟩
theorem anm:eI PP 73 apO:=by
 refine iI (He 2 2) (fo Tryz.func73) (λa=>⟨Gz 2 a,trivial⟩) (λa y=>⟨(λx=>(gL x).1),(λx=>(eK x).1),(λx=>(gL x).1),(λx=>(cM x).1),trivial,trivial⟩) ?_
 rintro p hp
 have hp:qY p:=hp
 obtain ⟨R,hR⟩:∃R,R=p.aN.map (·.w):=⟨_,rfl⟩
 have A8:R.length=p.aN.length:=by rw [hR,oT]
 have rF:p.aN.length<=3:=hp.aN.1
 have j7:p.bd.length<=1:=hp.bd.1
 have sW:p.dX.length<=2:=hp.dX.1
 have Io:∀(i:Nat) (r:rC),p.dX[i]?=some r->1<=r.w/\r.w<=2/\WT (nS p true) 3 r.w r.data:=λi r h=>by have:=hp.dX.2 r (b_ h);exact ⟨this.1,this.2.1,this.2.2.2⟩
 have hmw:∀(i:Nat) (r:Mem),p.bd[i]?=some r->1<=r.w/\r.w<=2/\WT (nS p true) 3 1 r.en/\(∃v,okW v/\WT (nS p true) 3 v r.ad)/\WT (nS p true) 3 r.w r.da:=λi r h=>by
  obtain ⟨a,b,_,_,c,⟨v,d⟩,e⟩:=hp.bd.2 r (b_ h)
  exact ⟨a,b,c,⟨v,d.wide (acY hp true),d⟩,e⟩
 refine ⟨?_⟩
 cbv
 refine bU.rel apD p (by exact bP) ⟨hp⟩ λins K7=>?_
 have K7:Uu (p.aN.map (·.w)) ins:=K7.out
 rw [<-hR] at K7
 have hi:=K7.len
 cbv
 refine bU.rel aou ⟨p,ins⟩ (by exact bP) ⟨hp,hi⟩ λd hd=>?_
 have hd:En ins.length p d:=hd.out
 cbv
 refine bU.io anl ⟨p,ins,d⟩ [9,9] rfl (by exact bP) (by exact ao) ⟨⟨hp,hi,hd⟩⟩ λy hy=>?_
 have hy:TX ins.length p d y:=hy.out
 obtain ⟨L,hL⟩:∃L:Int,(ins.length:Int)=L:=⟨_,rfl⟩
 have hd:En ((ins.length:Nat):Int) p d:=hd
 rw [hL] at hd hy
 have zo:0<=L/\L<=100:=by omega
 have nZ:=Pa hp hi (b:=true) (I:=L) (gs:=d.gs) (data:=d.data) (λ_=>hd.data)
 obtain ⟨st,cG⟩:∃st,st=nS p true:=⟨_,rfl⟩
 rw [<-cG] at Io hmw nZ
 obtain ⟨data,tD⟩:∃data,d.data=data:=⟨_,rfl⟩
 obtain ⟨iY,EC⟩:∃v,d.iY=v:=⟨_,rfl⟩
 obtain ⟨dX,Kh⟩:∃v,d.dX=v:=⟨_,rfl⟩
 have hdf:d.gs.length<=6000:=hd.dH
 have G4:cH L d.gs iY:=by rw [<-EC];exact hd.iY
 have L6:fE L d.gs dX:=by rw [<-Kh];exact hd.pn
 have CN:dX.length=p.dX.length:=by rw [<-Kh];exact hd.pl
 have E5:∀d'∈data,fE L d.gs d':=by rw [<-tD];exact hd.data.ok
 rw [tD] at nZ
 obtain ⟨G,hG⟩:∃G,d.gs=G:=⟨_,rfl⟩
 rw [hG] at G4 L6 E5 hdf
 obtain ⟨wH,ag5,dr1⟩:=y
 have aty:kK L wH:=hy.ok
 have azT:G.length<=wH.length:=by rw [<-hG];exact hy.lo
 have azU:wH.length<=G.length+3400:=by rw [<-hG];exact hy.hi
 have atz:OB L (2000+32*((0:Nat):Int)) R R.length 0 (30+4*0) wH ag5 dr1:=by
  have h:=hy.out
  rw [<-hR,<-A8] at h
  exact h
 clear hd hy hp
 cbv
 have hL:((ins.length:Nat):Int)=L:=hL
 refine Sat.ca (He 2 2) 7 7 [(.c 6 2,4),(.c 6 3,5)] (λx:SL=>[(7,.i .i64 λ_=>(x.i:Int))]) (λx=>[(6,.fix 282 [.i .i64 (λ_=>(ins.length:Int)),.sl 5 dB (λ_=>x.gs),.own 4,.own 5]),(4,.dyn 133 3 dc λ_=>x.out),(5,.dyn 3 1 bJ λ_=>x.dr)])
  (λx=>HF L wH.length 1100 4 R.length (λi=>2000+32*(i:Int)) p.dX.length 30 R ⟨x.i,x.gs,x.out,x.dr⟩) (λx=>p.dX.length - x.i) ⟨0,wH,ag5,dr1⟩ (by exact ao) (by exact ao) ⟨cJ _,aty,cP _,cP _,atz⟩ ?_
 rintro ⟨i,gs,out,dr⟩ ⟨FJ,cq,eW,gy,nw⟩
 simp only at FJ cq eW gy nw
 have h0:=n0 i
 have h1:=cd (i:=i) (by omega)
 cbv
 refine ⟨λh=>?_,λh=>?_⟩
 ·have bp:i < p.dX.length:=bE
  have a7:p.dX.length - (i+1) < p.dX.length - i:=by omega
  refine (bz bp).elim λr hr=>?_
  have hw:=Io i r hr
  refine (bz (l:=dX) (i:=i) (by omega)).elim λdue HE=>?_
  have afc:cH L gs due:=(L6 due (b_ HE)).mono (by omega)
  have nX:cH L gs iY:=G4.mono (by omega)
  have tL:eu L gs:=⟨cq,by omega,by omega⟩
  obtain ⟨z,ta⟩:∃zz,zz=andM L gs iY due:=⟨_,rfl⟩
  have hz:dR L gs 1 z:=by rw [ta];exact GS tL nX afc
  have iL:(andM L gs iY due).gs=z.gs:=by rw [ta]
  have iB:(andM L gs iY due).n=z.n:=by rw [ta]
  have E7:=hz.lo
  have Wo:=hz.hi
  have P0:=hz.ok
  have QM:=hz.n
  have k9:2000+32*(i:Int)<=ig ⟨6,i,0⟩:=by simp [ig]
  have oD:ig ⟨6,i,0⟩ < 2000+32*(i:Int)+16+((0:Nat):Int):=by simp [ig];omega
  have AN:=nw.add (w:=⟨6,i,0⟩) (by simp) ⟨⟨by simp,by simp,by simp,by simp,by simp⟩,by simp⟩ k9 oD E7 QM
  have hL:((ins.length:Nat):Int)=L:=hL
  cbv
  refine ⟨due,⟨h0,by rw [Kh];exact HE⟩,?_⟩
  cbv
  refine ⟨⟨L,gs,iY,due⟩,⟨by exact bP,⟨tL,nX,afc⟩,trivial⟩,?_⟩
  cbv
  have gd:out.length<=1000000:=by have:=nw.len;omega
  have fO:dr.length<=1000000:=by rw [nw.dl];exact gd
  have hL:((ins.length:Nat):Int)=L:=hL
  refine bU.io Ed ⟨L,gs,out,dr,⟨6,i,0⟩,z.gs,z.n⟩ [4,5] rfl (by exact bP) (by exact ao) ⟨⟨gd,fO⟩⟩ λ_ _=>?_
  cbv
  refine ⟨r,⟨h0,hr⟩,?_⟩
  cbv
  have hL:((ins.length:Nat):Int)=L:=hL
  refine bU.rel (Ec 2 3) ⟨p,ins,data,z.gs,r.data,st,r.w⟩ (by have A6:=hw.2.2;have dG:=tD;have bj:=hL.symm;exact cN) ⟨nZ,(by show Room ins.length z.gs (KB 3);rw [hL];exact ⟨P0,by omega,by show _+1040<=_;omega⟩),λd hd=>(by show fE ins.length z.gs d;rw [hL];exact (E5 d hd).mono (by omega)),hw.2.2⟩ λv hv=>?_
  have hv:lC L z.gs 1040 (r.w).toNat v:=hL ▸ hv.out
  have P5:=hv.lo
  have atA:=hv.hi
  have aq9:=hv.len
  have Wp:=hv.ok
  have x6:=hv.n
  have sO:OB L (2000+32*(i:Int)+16+((0:Nat):Int)) R R.length 0 (30+4*i+1+1*0) v.gs (out++[⟨6,i,0⟩]) (dr++[z.n]):=AN.sig P5
  cbv
  have hL:((ins.length:Nat):Int)=L:=hL
  refine Sat.ca (He 2 2) 11 10 [(.c 6 2,8),(.c 6 3,9)] (λx:SL=>[(10,.i .i64 λ_=>(x.i:Int))]) (λx=>[(6,.fix 282 [.i .i64 (λ_=>(ins.length:Int)),.sl 5 dB (λ_=>x.gs),.own 8,.own 9]),(8,.dyn 133 3 dc λ_=>x.out),(9,.dyn 3 1 bJ λ_=>x.dr)])
   (λx=>HF L v.gs.length 1 1 R.length (λk=>2000+32*(i:Int)+16+(k:Int)) v.l.length (30+4*i+1) R ⟨x.i,x.gs,x.out,x.dr⟩) (λx=>v.l.length - x.i) ⟨0,v.gs,out++[⟨6,i,0⟩],dr++[z.n]⟩ (by exact ao) (by exact ao) ⟨cJ _,Wp,cP _,cP _,sO⟩ ?_
  rintro ⟨k,cC,dD,ph⟩ ⟨ya,xI,CC,E6,K8⟩
  simp only at ya xI CC E6 K8
  have gK:=n0 k
  have eT:=cd (i:=k) (by omega)
  have jM:v.l.length<=2:=by have:=hw.2.1;omega
  cbv
  refine ⟨λh=>?_,λh=>?_⟩
  ·have cW:k < v.l.length:=bE
   have k6:v.l.length - (k+1) < v.l.length - k:=by omega
   refine (bz cW).elim λx hx=>?_
   have wG:cH L cC x:=(x6 x (b_ hx)).mono CC
   have ag6:cH L cC z.n:=QM.mono (by omega)
   have afd:eu L cC:=⟨xI,by omega,by omega⟩
   obtain ⟨u,LQ⟩:∃zz,zz=andM L cC z.n x:=⟨_,rfl⟩
   have hu:dR L cC 1 u:=by rw [LQ];exact GS afd ag6 wG
   have hu1:(andM L cC z.n x).gs=u.gs:=by rw [LQ]
   have uc:(andM L cC z.n x).n=u.n:=by rw [LQ]
   have atB:=hu.lo
   have azV:=hu.hi
   have atC:=hu.ok
   have mZ:=hu.n
   have k9:2000+32*(i:Int)+16+(k:Int)<=ig ⟨7,i,k⟩:=by simp [ig]
   have oD:ig ⟨7,i,k⟩ < 2000+32*(i:Int)+16+((k+1:Nat):Int):=by simp [ig];omega
   have E8:=K8.add (w:=⟨7,i,k⟩) (by simp) ⟨⟨by simp,by simp,by simp,by simp,by simp;omega⟩,by simp⟩ k9 oD atB mZ
   have bw:HF L v.gs.length 1 1 R.length (λk=>2000+32*(i:Int)+16+(k:Int)) v.l.length (30+4*i+1) R ⟨k+1,u.gs,dD++[⟨7,i,k⟩],ph++[u.n]⟩:=⟨cW,atC,by show v.gs.length<=u.gs.length;omega,by show u.gs.length<=v.gs.length+1*(k+1);omega,E8⟩
   cbv
   refine ⟨x,⟨gK,hx⟩,?_⟩
   cbv
   refine ⟨⟨L,cC,z.n,x⟩,⟨by exact bP,⟨afd,ag6,wG⟩,trivial⟩,?_⟩
   cbv
   have gd:dD.length<=1000000:=by have:=K8.len;omega
   have fO:ph.length<=1000000:=by rw [K8.dl];exact gd
   have hL:((ins.length:Nat):Int)=L:=hL
   refine bU.io Ed ⟨L,cC,dD,ph,⟨7,i,k⟩,u.gs,u.n⟩ [8,9] rfl (by exact bP) (by exact ao) ⟨⟨gd,fO⟩⟩ λ_ _=>?_
   cbv
   exact ⟨⟨k+1,u.gs,dD++[⟨7,i,k⟩],ph++[u.n]⟩,by exact ao,by exact ao,⟨⟨bw,k6⟩⟩⟩
  ·have tM:k=v.l.length:=tx h.out ya
   have bw:HF L wH.length 1100 4 R.length (λi=>2000+32*(i:Int)) p.dX.length 30 R ⟨i+1,cC,dD,ph⟩:=⟨bp,xI,by show wH.length<=cC.length;omega,by show cC.length<=wH.length+1100*(i+1);omega,K8.up (by exact aU) (by show 30+4*i+1+1*k<=30+4*(i+1);omega) (cP _)⟩
   cbv
   exact ⟨⟨i+1,cC,dD,ph⟩,by exact ao,by exact ao,⟨⟨bw,a7⟩⟩⟩
 ·have bR:i=p.dX.length:=tx h.out FJ
  have AN:OB L (3000+64*((0:Nat):Int)) R R.length 0 (60+8*0) gs out dr:=nw.up (by rw [bR];exact aU) (by rw [bR];omega) (cP _)
  have E6:gs.length<=wH.length+2200:=by rw [bR] at gy;omega
  obtain ⟨cC,ag7⟩:∃g,g=gs:=⟨_,rfl⟩
  have CC:wH.length<=cC.length:=by rw [ag7];exact eW
  have ag0:cC.length<=wH.length+2200:=by rw [ag7];exact E6
  clear nw h0 h1
  cbv
  have hL:((ins.length:Nat):Int)=L:=hL
  refine Sat.ca (He 2 2) 7 7 [(.c 6 2,4),(.c 6 3,5)] (λx:SL=>[(11,.i .i64 λ_=>(x.i:Int))]) (λx=>[(6,.fix 282 [.i .i64 (λ_=>(ins.length:Int)),.sl 5 dB (λ_=>x.gs),.own 4,.own 5]),(4,.dyn 133 3 dc λ_=>x.out),(5,.dyn 3 1 bJ λ_=>x.dr)])
   (λx=>HF L gs.length 4400 8 R.length (λi=>3000+64*(i:Int)) p.bd.length 60 R ⟨x.i,x.gs,x.out,x.dr⟩) (λx=>p.bd.length - x.i) ⟨0,gs,out,dr⟩ (by exact ao) (by exact ao) ⟨cJ _,cq,cP _,cP _,AN⟩ ?_
  rintro ⟨i,vd,out,dr⟩ ⟨FJ,Wq,atD,atE,nw⟩
  simp only at FJ Wq atD atE nw
  have h0:=n0 i
  have h1:=cd (i:=i) (by omega)
  cbv
  refine ⟨λh=>?_,λh=>?_⟩
  ·have bp:i < p.bd.length:=bE
   have a7:p.bd.length - (i+1) < p.bd.length - i:=by omega
   have ir:i=0:=by omega
   refine (bz bp).elim λr hr=>?_
   have hw:=hmw i r hr
   refine hw.2.2.2.1.elim λav CY=>?_
   have hgl:vd.length<=8200+4400:=by omega
   cbv
   refine ⟨r,⟨h0,hr⟩,?_⟩
   cbv
   have hL:((ins.length:Nat):Int)=L:=hL
   refine bU.rel (Ec 2 3) ⟨p,ins,data,vd,r.en,st,(1:Int)⟩ (by have A6:=hw.2.2.1;have dG:=tD;have bj:=hL.symm;exact cN) ⟨nZ,(by show Room ins.length vd (KB 3);rw [hL];exact ⟨Wq,by omega,by show _+1040<=_;omega⟩),λd hd=>(by show fE ins.length vd d;rw [hL];exact (E5 d hd).mono (by omega)),hw.2.2.1⟩ λe he=>?_
   have he:lC L vd 1040 ((1:Int)).toNat e:=hL ▸ he.out
   have atF:=he.lo
   have azW:=he.hi
   have azt:=he.len
   have atH:=he.ok
   have atI:=he.n
   refine (bz (l:=e.l) (i:=0) (by omega)).elim λen hen=>?_
   have ag8:cH L e.gs en:=atI en (b_ hen)
   have nX:cH L e.gs iY:=G4.mono (by omega)
   have tL:eu L e.gs:=⟨atH,by omega,by omega⟩
   obtain ⟨z,ta⟩:∃zz,zz=andM L e.gs iY en:=⟨_,rfl⟩
   have hz:dR L e.gs 1 z:=by rw [ta];exact GS tL nX ag8
   have iL:(andM L e.gs iY en).gs=z.gs:=by rw [ta]
   have iB:(andM L e.gs iY en).n=z.n:=by rw [ta]
   have E7:=hz.lo
   have Wo:=hz.hi
   have P0:=hz.ok
   have QM:=hz.n
   have k9:3000+64*(i:Int)<=ig ⟨8,i,0⟩:=by simp [ig]
   have oD:ig ⟨8,i,0⟩ < 3000+64*(i:Int)+16+((0:Nat):Int):=by simp [ig];omega
   have AN:=(nw.sig atF).add (w:=⟨8,i,0⟩) (by simp) ⟨⟨by simp,by simp,by simp,by simp,by simp⟩,by simp⟩ k9 oD E7 QM
   have hL:((ins.length:Nat):Int)=L:=hL
   cbv
   refine ⟨en,⟨jI _,hen⟩,?_⟩
   cbv
   refine ⟨⟨L,e.gs,iY,en⟩,⟨by exact bP,⟨tL,nX,ag8⟩,trivial⟩,?_⟩
   cbv
   have gd:out.length<=1000000:=by have:=nw.len;omega
   have fO:dr.length<=1000000:=by rw [nw.dl];exact gd
   have hL:((ins.length:Nat):Int)=L:=hL
   refine bU.io Ed ⟨L,vd,out,dr,⟨8,i,0⟩,z.gs,z.n⟩ [4,5] rfl (by exact bP) (by exact ao) ⟨⟨gd,fO⟩⟩ λ_ _=>?_
   cbv
   refine ⟨r,⟨h0,hr⟩,?_⟩
   cbv
   have hL:((ins.length:Nat):Int)=L:=hL
   refine bU.rel (Ec 2 3) ⟨p,ins,data,z.gs,r.ad,st,av⟩ (by have A6:=CY.2;have dG:=tD;have bj:=hL.symm;exact cN) ⟨nZ,(by show Room ins.length z.gs (KB 3);rw [hL];exact ⟨P0,by omega,by show _+1040<=_;omega⟩),λd hd=>(by show fE ins.length z.gs d;rw [hL];exact (E5 d hd).mono (by omega)),CY.2⟩ λa ha=>?_
   have ha:lC L z.gs 1040 (av).toNat a:=hL ▸ ha.out
   have ag9:=ha.lo
   have azX:=ha.hi
   have aq_:=ha.len
   have atJ:=ha.ok
   have han:=ha.n
   have azY:av<=8:=CY.1.2
   cbv
   refine ⟨r,⟨h0,hr⟩,?_⟩
   cbv
   refine bU.rel acX ⟨a.l,r.words⟩ (by exact bP) ⟨by show a.l.length<=1000;rw [aq_];omega⟩ λad Be=>?_
   have Be:JN a.l ad:=Be.out
   have K4:∀v∈ad,cH L a.gs v:=λv hv=>by
    rcases Be.mem v hv with rfl|h
    ·exact .zero zo.1
    ·exact han v h
   have atd:=Be.len
   have sO:OB L (3000+64*(i:Int)+16+((0:Nat):Int)) R R.length 0 (60+8*i+1+1*0) z.gs (out++[⟨8,i,0⟩]) (dr++[z.n]):=AN
   cbv
   have hL:((ins.length:Nat):Int)=L:=hL
   refine Sat.ca (He 2 2) 11 15 [(.c 6 2,8),(.c 6 3,9)] (λx:SL=>[(15,.i .i64 λ_=>(x.i:Int))]) (λx=>[(6,.fix 282 [.i .i64 (λ_=>(ins.length:Int)),.sl 5 dB (λ_=>x.gs),.own 8,.own 9]),(8,.dyn 133 3 dc λ_=>x.out),(9,.dyn 3 1 bJ λ_=>x.dr)])
    (λx=>PZ 3 L z.gs.length a.gs.length R.length (3000+64*(i:Int)+16) (60+8*i+1) R ⟨x.i,x.gs,x.out,x.dr⟩) (λx=>3 - x.i) ⟨0,z.gs,out++[⟨8,i,0⟩],dr++[z.n]⟩ (by exact ao) (by exact ao) ⟨cJ _,P0,cP _,ag9,sO⟩ ?_
   rintro ⟨k,Bf,HG,Ip⟩ ⟨nE,Wr,atL,Ws,E8⟩
   simp only at nE Wr atL Ws E8
   have gK:=n0 k
   have eT:=cd (i:=k) (by omega)
   cbv
   refine ⟨λh=>?_,λh=>?_⟩
   ·have cW:k < 3:=by have h':aS (k:Int) 3=true:=h.out;simp only [aS,decide_eq_true_eq] at h';exact aU
    have k6:3 - (k+1) < 3 - k:=by omega
    refine (bz (l:=ad) (i:=k) (by omega)).elim λx hx=>?_
    have wG:cH L a.gs x:=K4 x (b_ hx)
    have k9:3000+64*(i:Int)+16+(k:Int)<=ig ⟨9,i,k⟩:=by simp [ig]
    have oD:ig ⟨9,i,k⟩ < 3000+64*(i:Int)+16+((k+1:Nat):Int):=by simp [ig];omega
    have Wt:=E8.add (w:=⟨9,i,k⟩) (by simp) ⟨⟨by simp,by simp,by simp,by simp,by simp;omega⟩,by simp⟩ k9 oD Ws wG
    have bw:PZ 3 L z.gs.length a.gs.length R.length (3000+64*(i:Int)+16) (60+8*i+1) R ⟨k+1,a.gs,HG++[⟨9,i,k⟩],Ip++[x]⟩:=⟨cW,atJ,ag9,cP _,Wt⟩
    cbv
    refine ⟨x,⟨gK,hx⟩,?_⟩
    cbv
    have gd:HG.length<=1000000:=by have:=E8.len;omega
    have fO:Ip.length<=1000000:=by rw [E8.dl];exact gd
    have hL:((ins.length:Nat):Int)=L:=hL
    refine bU.io Ed ⟨L,Bf,HG,Ip,⟨9,i,k⟩,a.gs,x⟩ [8,9] rfl (by exact bP) (by exact ao) ⟨⟨gd,fO⟩⟩ λ_ _=>?_
    cbv
    exact ⟨⟨k+1,a.gs,HG++[⟨9,i,k⟩],Ip++[x]⟩,by exact ao,by exact ao,⟨⟨bw,k6⟩⟩⟩
   ·have atN:k=3:=by have h':aS (k:Int) 3=false:=h.out;simp only [aS,decide_eq_false_iff_not] at h';exact aU
    have Wt:OB L (3000+64*(i:Int)+32+((0:Nat):Int)) R R.length 0 (60+8*i+4+1*0) Bf HG Ip:=E8.up (by rw [atN];exact aU) (by omega) (cP _)
    cbv
    refine ⟨r,⟨h0,hr⟩,?_⟩
    cbv
    have hL:((ins.length:Nat):Int)=L:=hL
    refine bU.rel (Ec 2 3) ⟨p,ins,data,Bf,r.da,st,r.w⟩ (by have A6:=hw.2.2.2.2;have dG:=tD;have bj:=hL.symm;exact cN) ⟨nZ,(by show Room ins.length Bf (KB 3);rw [hL];exact ⟨Wr,by omega,by show _+1040<=_;omega⟩),λd hd=>(by show fE ins.length Bf d;rw [hL];exact (E5 d hd).mono (by omega)),hw.2.2.2.2⟩ λv hv=>?_
    have hv:lC L Bf 1040 (r.w).toNat v:=hL ▸ hv.out
    have P5:=hv.lo
    have atA:=hv.hi
    have aq9:=hv.len
    have Wp:=hv.ok
    have x6:=hv.n
    cbv
    have hL:((ins.length:Nat):Int)=L:=hL
    refine Sat.ca (He 2 2) 12 17 [(.c 6 2,8),(.c 6 3,9)] (λx:SL=>[(17,.i .i64 λ_=>(x.i:Int))]) (λx=>[(6,.fix 282 [.i .i64 (λ_=>(ins.length:Int)),.sl 5 dB (λ_=>x.gs),.own 8,.own 9]),(8,.dyn 133 3 dc λ_=>x.out),(9,.dyn 3 1 bJ λ_=>x.dr)])
     (λx=>PZ v.l.length L Bf.length v.gs.length R.length (3000+64*(i:Int)+32) (60+8*i+4) R ⟨x.i,x.gs,x.out,x.dr⟩) (λx=>v.l.length - x.i) ⟨0,Bf,HG,Ip⟩ (by exact ao) (by exact ao) ⟨cJ _,Wr,cP _,P5,Wt⟩ ?_
    rintro ⟨k,L7,HH,Iq⟩ ⟨ya,ag_,atO,aha,K9⟩
    simp only at ya ag_ atO aha K9
    have gK:=n0 k
    have eT:=cd (i:=k) (by omega)
    have jM:v.l.length<=2:=by have:=hw.2.1;omega
    cbv
    refine ⟨λh=>?_,λh=>?_⟩
    ·have cW:k < v.l.length:=bE
     have k6:v.l.length - (k+1) < v.l.length - k:=by omega
     refine (bz cW).elim λx hx=>?_
     have wG:cH L v.gs x:=x6 x (b_ hx)
     have k9:3000+64*(i:Int)+32+(k:Int)<=ig ⟨10,i,k⟩:=by simp [ig]
     have oD:ig ⟨10,i,k⟩ < 3000+64*(i:Int)+32+((k+1:Nat):Int):=by simp [ig];omega
     have atP:=K9.add (w:=⟨10,i,k⟩) (by simp) ⟨⟨by simp,by simp,by simp,by simp,by simp;omega⟩,by simp⟩ k9 oD aha wG
     have bw:PZ v.l.length L Bf.length v.gs.length R.length (3000+64*(i:Int)+32) (60+8*i+4) R ⟨k+1,v.gs,HH++[⟨10,i,k⟩],Iq++[x]⟩:=⟨cW,Wp,P5,cP _,atP⟩
     cbv
     refine ⟨x,⟨gK,hx⟩,?_⟩
     cbv
     have gd:HH.length<=1000000:=by have:=K9.len;omega
     have fO:Iq.length<=1000000:=by rw [K9.dl];exact gd
     have hL:((ins.length:Nat):Int)=L:=hL
     refine bU.io Ed ⟨L,L7,HH,Iq,⟨10,i,k⟩,v.gs,x⟩ [8,9] rfl (by exact bP) (by exact ao) ⟨⟨gd,fO⟩⟩ λ_ _=>?_
     cbv
     exact ⟨⟨k+1,v.gs,HH++[⟨10,i,k⟩],Iq++[x]⟩,by exact ao,by exact ao,⟨⟨bw,k6⟩⟩⟩
    ·have tM:k=v.l.length:=tx h.out ya
     have bw:HF L gs.length 4400 8 R.length (λi=>3000+64*(i:Int)) p.bd.length 60 R ⟨i+1,L7,HH,Iq⟩:=⟨bp,ag_,by show gs.length<=L7.length;omega,by show L7.length<=gs.length+4400*(i+1);omega,K9.up (by exact aU) (by show 60+8*i+4+1*k<=60+8*(i+1);omega) (cP _)⟩
     cbv
     exact ⟨⟨i+1,L7,HH,Iq⟩,by exact ao,by exact ao,⟨⟨bw,a7⟩⟩⟩
  ·have Ws:vd.length<=20000:=by omega
   have azZ:ins.length<=100:=hi
   have bV:Ul R out:=nw.outs
   have fO:=nw.dl
   have gz:=nw.nd
   have atQ:dr.length<=1000:=by have:=nw.len;rw [fO];omega
   cbv
   refine ⟨⟨ins,vd,out,dr⟩,⟨.inl ⟨by exact aJ,rfl⟩,by show 2+ins.length+vd.length<=1000000;omega⟩,?_⟩
   cbv
   refine ⟨λh=>?_,λh=>?_⟩
   ·cbv
    exact .mk' ⟨⟨[],[],[],[]⟩,2⟩ ⟨by exact aJ⟩ ⟨aoy,by decide⟩
   ·have hN:2+ins.length+vd.length<=600:=by
     have h':aS 600 (fM ⟨ins,vd,out,dr⟩)=false:=h.out
     unfold fM at h'
     simp only [aS,decide_eq_false_iff_not] at h'
     exact aU
    have hL:((ins.length:Nat):Int)=L:=hL
    have jS:eQ ⟨ins,vd,out,dr⟩:=am_ K7.ok bV (by rw [hL];exact Wq) fO (λd hd=>by rw [hL];exact gz d hd) hN
    cbv
    exact .mk' ⟨⟨ins,vd,out,dr⟩,0⟩ ⟨by exact aJ⟩ ⟨jS,atQ⟩
structure L8 where
 n:Net
 m:gE
 is:Bool
structure Pc (y:L8):Prop where
 Bg:eQ y.n
 yb:y.n.ay.length<=1000
 map:y.is=true->jz y.n y.m
@[reducible] noncomputable def Wu (y:L8):SV:=.agg [.sl 3 dc (λ_=>y.n.ins),.sl 5 dB (λ_=>y.n.gG),.sl 3 dc (λ_=>y.n.outs),.sl 1 bJ (λ_=>y.n.ay),.i .i64 (λ_=>y.m.n),.sl 3 rf (λ_=>y.m.cells),.sl 1 bJ (λ_=>y.m.ay),.b (λ_=>y.is)]
theorem ac2 (y:L8):LF (Wu y):=⟨(λx=>(gL x).1),(λx=>(eK x).1),(λx=>(gL x).1),(λx=>(cM x).1),trivial,(λx=>(Af x).1),(λx=>(cM x).1),trivial,trivial⟩
structure ara where
 p:ry
 b:List Int
@[reducible] noncomputable def atS:fJ where
 α:=ara
 args x:=[.agg (yQ 2 x.p),.sl 1 iF (λ_=>x.b)]
 pre x:=qY x.p/\x.b.length<=1000/\∀z∈x.b,0<=z/\z<=255
 β:=L8
 post x y:=Pc y
 res x y:=Wu y
noncomputable def atT (n m:Nat):Ctx:=fl n m [(73,Tryz.f73),(37,Tryz.f37),(42,Tryz.f42)] [] [73,37,42]
theorem apP (n m:Nat):CB PP (atT n m):=fy n m ⟨fo Tryz.func73,fo Tryz.func37,fo Tryz.func42,trivial⟩ trivial
theorem apQ:eI PP 15 atS:=by
 refine iI (apP 2 2) (fo Tryz.func15) (λa=>⟨Gz 2 a.p,(λx=>(rN x).1),trivial⟩) (λa y=>ac2 y) ?_
 rintro ⟨p,b⟩ hx
 obtain ⟨hp,jC,jf⟩:qY p/\b.length<=1000/\∀z∈b,0<=z/\z<=255:=hx
 refine ⟨?_⟩
 cbv
 refine bU.rel anm p (by exact aJ) ⟨hp⟩ λy hy=>?_
 have hy:eQ y.n/\y.n.ay.length<=1000:=hy.out
 obtain ⟨⟨ins,gs,outs,dr⟩,ye⟩:=y
 have hn:eQ ⟨ins,gs,outs,dr⟩:=hy.1
 have hd:dr.length<=1000:=hy.2
 have Ir:dr.length<=1000000:=by omega
 clear hy
 cbv
 refine bU.rel apt ⟨ins,gs,outs,dr⟩ (by exact aJ) ⟨hn,Ir⟩ λz hz=>?_
 have hz:z.e=0->jz ⟨ins,gs,outs,dr⟩ z.m:=hz.out
 obtain ⟨⟨mn,mc,md⟩,zr,zl,ze⟩:=z
 have hz:ze=0->jz ⟨ins,gs,outs,dr⟩ ⟨mn,mc,md⟩:=hz
 have last:∀(z:gE) (e:Int),(e=0->jz ⟨ins,gs,outs,dr⟩ z)->Pc ⟨⟨ins,gs,outs,dr⟩,z,aV e 0⟩:=λz e h=>⟨hn,hd,λhe=>h (by simpa [aV] using he)⟩
 have h1:=last ⟨mn,mc,md⟩ ze hz
 cbv
 refine ⟨λh=>?_,λh=>?_⟩
 rotate_left
 ·cbv
  exact .mk' ⟨⟨ins,gs,outs,dr⟩,⟨mn,mc,md⟩,aV ze 0⟩ ⟨by exact aJ⟩ h1
 clear h
 cbv
 refine ⟨λh=>?_,λh=>?_⟩
 rotate_left
 ·cbv
  exact .mk' ⟨⟨ins,gs,outs,dr⟩,⟨mn,mc,md⟩,aV ze 0⟩ ⟨by exact aJ⟩ h1
 clear h
 cbv
 refine bU.rel apv ⟨⟨ins,gs,outs,dr⟩,b⟩ (by exact aJ) ⟨hn,Ir,jC,jf⟩ λz hz=>?_
 have hz:jz ⟨ins,gs,outs,dr⟩ z.m/\z.e=0:=hz.out
 obtain ⟨⟨an,ac,ad⟩,ar,al,ae⟩:=z
 have hz:jz ⟨ins,gs,outs,dr⟩ ⟨an,ac,ad⟩/\ae=0:=hz
 have h2:=last ⟨an,ac,ad⟩ ae λ_=>hz.1
 cbv
 exact .mk' ⟨⟨ins,gs,outs,dr⟩,⟨an,ac,ad⟩,aV ae 0⟩ ⟨by exact aJ⟩ h2
@[reducible] noncomputable def adY:Vc.Spec:=ae8.fun
theorem ann:cS (PP ()) 12 adY:=aot.fun (TN Tryz.func12 (by kernel_rfl))
@[reducible] noncomputable def atU:fJ where
 α:=List Int
 args b:=[.opt qY (λy=>.agg (yQ 2 y)),.sl 1 iF (λ_=>b)]
 pre b:=b.length<=1000/\∀z∈b,0<=z/\z<=255
 β:=L8
 post b y:=Pc y
 res b y:=Wu y
theorem apR:eI PP 15 atU:=apQ.opt (U:=ry) (λ_ p=>qY p) (λy=>.agg (yQ 2 y)) (λb=>[.sl 1 iF (λ_=>b)]) (λb p=>⟨p,b⟩) (λp=>Gz 2 p) (λb=>⟨(λx=>(rN x).1),trivial⟩)
 (λb=>rfl) (λb p=>rfl) (λb p h hp=>⟨hp,h.1,h.2⟩) rfl (λb p y _ _ h=>⟨h,rfl⟩) (λb y=>ac2 y)
end Go.Proofs.Pk
