import Derived.Test.YthnhbemmlfaihaaGreatU7
import Derived.Test.YthnhbemmlfaihaaGreatU9
set_option linter.unusedVariables false
set_option linter.unusedSimpArgs false
set_option maxRecDepth 10000
set_option maxHeartbeats 64000000
namespace Go.Proofs.Pk
open Go Go.Vc
@[reducible] noncomputable def AF:Vc.Spec where
 α:=Net
 args x:=[.agg (sB x)]
 pre x:=2+x.ins.length+x.gM.length<=1000000
 res x:=.i .i64 (λ_=>fR x)
theorem B9:cZ (PP ()) 51 AF:=by
 refine dT (iQ 0 0) (fo Tryz.func51) (λa=>⟨tQ a,trivial⟩) (λa=>trivial) ?_
 rintro ⟨ins,gs,outs,dr⟩ hx
 have hx:2+ins.length+gs.length<=1000000:=hx
 have e:IntKind.i64.wrap (IntKind.i64.wrap (2+(ins.length:Int))+(gs.length:Int))=fR ⟨ins,gs,outs,dr⟩:=by
  rw [cu (n:=2+(ins.length:Int)) (by omega) (by omega),cu (by omega) (by omega)];rfl
 refine ⟨?_⟩
 cbv
 exact ⟨.i e⟩
structure Cut where
 root:Int
 l:List Int
open Classical in
noncomputable def yR (c:Cut):Bool:=decide ((∀(i:Nat) (x:Int),c.l[i]?=some x->2<=x/\x<=c.root/\∀(j:Nat) (y:Int),i=j+1->c.l[j]?=some y->y < x)/\c.l.length<=4)
theorem NL {c:Cut}:yR c=true↔(∀(i:Nat) (x:Int),c.l[i]?=some x->2<=x/\x<=c.root/\∀(j:Nat) (y:Int),i=j+1->c.l[j]?=some y->y < x)/\c.l.length<=4:=by simp [yR]
@[reducible] noncomputable def adI:Vc.Spec where
 α:=Cut
 args x:=[.agg [.i .i64 (λ_=>x.root),.sl 1 bM (λ_=>x.l)]]
 pre x:=x.l.length<=1000000
 res x:=.b (λ_=>yR x)
theorem ane:cZ (PP ()) 260 adI:=by
 refine dT (iQ 0 0) (fo Tryz.func260) (λa=>⟨⟨trivial,(λx=>(cQ x).1),trivial⟩,trivial⟩) (λa=>trivial) ?_
 rintro ⟨root,l⟩ hx
 have hl:l.length<=1000000:=hx
 refine ⟨?_⟩
 cbv
 refine Sat.cf (iQ 0 0) 1 3 [] (λi:Nat=>[(3,.i .i64 λ_=>(i:Int))]) (λ_=>[])
  (λi=>i<=l.length/\∀(k:Nat) (x:Int),k < i->l[k]?=some x->2<=x/\x<=root/\∀(j:Nat) (y:Int),k=j+1->l[j]?=some y->y < x) (λi=>l.length - i) 0 (by exact ao) (by exact ao) ⟨by omega,λk x h=>by omega⟩ ?_
 rintro i ⟨hi,gF⟩
 have h0:=n0 i
 have h1:=cq (i:=i) (by omega)
 have Bi:∀x,l[i]?=some x->¬(2<=x/\x<=root/\∀(j:Nat) (y:Int),i=j+1->l[j]?=some y->y < x)->yR ⟨root,l⟩=false:=λx hx hb=>by
  rw [<-Bool.not_eq_true,NL]
  exact λh=>hb (h.1 i x hx)
 cbv
 refine ⟨λh=>?_,λh=>?_⟩
 ·(have h:=h.out;simp (disch:=exact aT) only [hS] at h)
  have aR:i < l.length:=by exact aT
  have bh:l.length - (i+1) < l.length - i:=by omega
  obtain ⟨x,hx⟩:=bD aR
  cbv
  refine ⟨x,⟨h0,hx⟩,?_⟩
  cbv
  refine ⟨λh=>?_,λh=>?_⟩
  ·have od:x < 2:=by have:=h.out;simpa [aU] using this
   have e:=Bi x hx λhh=>by omega
   cbv
   exact ⟨.bc e.symm⟩
  ·have od:2<=x:=by have:=h.out;simp only [aU,decide_eq_false_iff_not] at this;omega
   have GO:(x<=root/\∀(j:Nat) (y:Int),i=j+1->l[j]?=some y->y < x)->(∀(k:Nat) (z:Int),k < i+1->l[k]?=some z->2<=z/\z<=root/\∀(j:Nat) (y:Int),k=j+1->l[j]?=some y->y < z):=λhh k z hk hz=>by
    by_cases FT:k=i
    ·subst FT;rw [hx] at hz;cases hz;exact ⟨od,hh⟩
    ·exact gF k z (by omega) hz
   cbv
   refine ⟨x,⟨h0,hx⟩,?_⟩
   cbv
   refine ⟨λh=>?_,λh=>?_⟩
   ·have Yw:root < x:=by have:=h.out;simpa [aU] using this
    have e:=Bi x hx λhh=>by omega
    cbv
    exact ⟨.bc e.symm⟩
   ·have Yw:x<=root:=by have:=h.out;simp only [aU,decide_eq_false_iff_not] at this;omega
    cbv
    refine ⟨λh=>?_,λh=>?_⟩
    ·have iB:0 < i:=by have:=h.out;simp only [aU,decide_eq_true_eq] at this;exact aT
     obtain ⟨y,hy⟩:=bD (l:=l) (i:=i - 1) (by omega)
     have hw:IntKind.i64.wrap ((i:Int) - 1)=((i - 1:Nat):Int):=by rw [cu (by omega) (by omega)];omega
     have gu:0<=IntKind.i64.wrap ((i:Int) - 1)/\l[(IntKind.i64.wrap ((i:Int) - 1)).toNat]?=some y:=by rw [hw];exact ⟨n0 _,hy⟩
     cbv
     refine ⟨y,⟨gu⟩,?_⟩
     cbv
     refine ⟨x,⟨h0,hx⟩,?_⟩
     cbv
     refine ⟨λh=>?_,λh=>?_⟩
     ·have L8:x<=y:=by have:=h.out;simpa [cV] using this
      have e:=Bi x hx λhh=>by have:=hh.2.2 (i - 1) y (by omega) hy;omega
      cbv
      exact ⟨.bc e.symm⟩
     ·have L8:y < x:=by have:=h.out;simp only [cV,decide_eq_false_iff_not] at this;omega
      have hG:=GO ⟨Yw,λj z hj hz=>by
       have:j=i - 1:=by omega
       subst this
       rw [hy] at hz;cases hz;exact L8⟩
      cbv
      exact ⟨i+1,by have bg:=h1;exact bJ,by exact ao,⟨⟨aR,hG⟩,bh⟩⟩
    ·have iB:i=0:=by have:=h.out;simp only [aU,decide_eq_false_iff_not] at this;exact aT
     have hG:=GO ⟨Yw,λj z hj hz=>by omega⟩
     cbv
     exact ⟨i+1,by have bg:=h1;exact bJ,by exact ao,⟨⟨aR,hG⟩,bh⟩⟩
 ·(have h:=h.out;simp (disch:=exact aT) only [hS] at h)
  have b9:i=l.length:=by exact aT
  have e:cV (l.length:Int) 4=yR ⟨root,l⟩:=by
   have hI:∀(k:Nat) (x:Int),l[k]?=some x->2<=x/\x<=root/\∀(j:Nat) (y:Int),k=j+1->l[j]?=some y->y < x:=λk x hk=>gF k x (by have:=(bW.1 hk).1;omega) hk
   rw [Bool.eq_iff_iff,NL]
   simp only [cV,decide_eq_true_eq]
   exact ⟨λh=>⟨hI,by show l.length<=4;omega⟩,λh=>by have:=h.2;have:l.length<=4:=this;omega⟩
  cbv
  exact ⟨.b e⟩
def PO (op:Int) (a b c:Bool):Bool:=if op=1 then !a else if op=2 then a&&b else if op=3 then a||b else if op=4 then a != b else if op=5 then a&&b||!a&&c else a&&b||a&&c||b&&c
structure GV where
 g:Gate
 a:Bool
 b:Bool
 c:Bool
@[reducible] noncomputable def aeF:Vc.Spec where
 α:=GV
 args x:=[.agg (dD x.g),.agg [.b (λ_=>x.a),.b (λ_=>x.b),.b (λ_=>x.c)]]
 pre x:=True
 res x:=.b (λ_=>PO x.g.op x.a x.b x.c)
theorem an8:cZ (PP ()) 239 aeF:=by
 refine dT (iQ 0 0) (fo Tryz.func239) (λa=>⟨(eO a.g).1,⟨trivial,trivial,trivial,trivial⟩,trivial⟩) (λa=>trivial) ?_
 rintro ⟨⟨op,x,y,z,n⟩,a,b,c⟩ hx
 refine ⟨?_⟩
 cbv
 repeat' (first
  | (refine ⟨λh=>?_,λh=>?_⟩<;>(have h:=h.out;dsimp only at h;(try simp only [aV,beq_iff_eq,beq_eq_false_iff_ne,ne_eq] at h);cbv))
  | (
   refine ⟨?_⟩;first|refine .bc ?_|refine .b ?_
   show _=PO op a b c
   unfold PO
   (repeat' (first|rw [if_pos (by assumption)]|rw [if_neg (by assumption)]))<;>(clear hx;cases a<;>cases b<;>cases c<;>first|rfl|contradiction)))
structure ahg where
 l:List Int
 e:Int
structure Kb (n:Net) (c:Cut) (y:ahg):Prop where
 ok:y.e=0->yR c=true/\2<=c.root/\c.root < fR n/\(∀v∈y.l,2+(n.ins.length:Int)<=v/\v<=c.root)/\y.l.length<=1000
structure NC where
 n:Net
 c:Cut
@[reducible] noncomputable def arR:fK where
 α:=NC
 args x:=[.agg (sB x.n),.agg [.i .i64 (λ_=>x.c.root),.sl 1 bM (λ_=>x.c.l)]]
 pre x:=eX x.n/\x.c.l.length<=1000000
 β:=ahg
 post x y:=Kb x.n x.c y
 res x y:=.agg [.sl 1 bM (λ_=>y.l),.i .i64 (λ_=>y.e)]
structure DG where
 k:Nat
 nd:List Bool
 d:List Int
structure WS (ins:Int) (root:Nat) (x:DG):Prop where
 k:x.k<=root+1
 nd:x.nd.length=root+1
 d:∀v∈x.d,2+ins<=v/\v<=root
 len:x.d.length+x.k<=root+1
noncomputable def atE (n m:Nat):Ctx:=fB n m [(54,Tryz.f54)] [(51,AF),(260,adI),(245,WR),(122,U6)] [54]
theorem Pn (n m:Nat):CB PP (atE n m):=fG n m ⟨fo Tryz.func54,trivial⟩ ⟨B9,ane,aeC,acC,trivial⟩
theorem adJ:eG PP 238 arR:=by
 refine iL (Pn 0 0) (fo Tryz.func238) (λa=>⟨tQ a.n,⟨trivial,(λx=>(cQ x).1),trivial⟩,trivial⟩) (λa y=>⟨(λx=>(cQ x).1),trivial,trivial⟩) ?_
 rintro ⟨⟨ins,gs,outs,dr⟩,⟨root,l⟩⟩ hx
 obtain ⟨hn,hl⟩:eX ⟨ins,gs,outs,dr⟩/\l.length<=1000000:=hx
 have wH:2+ins.length+gs.length<=600:=hn.pF
 have Bi:∀L:List Int,Kb ⟨ins,gs,outs,dr⟩ ⟨root,l⟩ ⟨L,250⟩:=λL=>⟨λh=>by simp at h⟩
 obtain ⟨N,hN⟩:∃N,N=fR ⟨ins,gs,outs,dr⟩:=⟨_,rfl⟩
 have hN2:N=2+(ins.length:Int)+gs.length:=hN
 obtain ⟨li,Rp⟩:∃li,li=yR ⟨root,l⟩:=⟨_,rfl⟩
 refine ⟨?_⟩
 cbv
 refine ⟨λh=>?_,λh=>?_⟩
 ·cbv
  exact .mk' ⟨[],250⟩ ⟨by exact aK⟩ (Bi _)
 ·have vo:2<=root:=by have:=h.out;simp only [aU,decide_eq_false_iff_not] at this;omega
  cbv
  refine ⟨⟨ins,gs,outs,dr⟩,⟨by exact aK,by show 2+ins.length+gs.length<=_;omega⟩,?_⟩
  cbv
  refine ⟨λh=>?_,λh=>?_⟩
  ·cbv
   exact .mk' ⟨[],250⟩ ⟨by exact aK⟩ (Bi _)
  ·have Rq:root < N:=by have:=h.out;simp only [cV,decide_eq_false_iff_not] at this;omega
   cbv
   refine ⟨⟨root,l⟩,⟨by exact aK,hl⟩,?_⟩
   cbv
   refine ⟨λh=>?_,λh=>?_⟩
   ·cbv
    exact .mk' ⟨[],250⟩ ⟨by exact aK⟩ (Bi _)
   ·have nG:yR ⟨root,l⟩=true:=by have:=h.out;simpa using this
    obtain ⟨rt,hrt⟩:∃rt:Nat,(rt:Int)=root:=⟨root.toNat,by omega⟩
    have gh:IntKind.i64.wrap (root+1)=((rt+1:Nat):Int):=by rw [cu (by exact aT) (by exact aT)];omega
    have aAT:rt<=600:=by exact aT
    have ta:(List.replicate (IntKind.i64.wrap (root+1)).toNat false).length=rt+1:=by rw [sP,gh];rfl
    have aeG:0<=root/\root.toNat < (List.replicate (IntKind.i64.wrap (root+1)).toNat false).length:=by rw [ta];omega
    have aBe:root.toNat=rt:=by omega
    obtain ⟨b0,ef⟩:=bD aeG.2
    cbv
    refine ⟨⟨by show 0<=IntKind.i64.wrap (root+1);rw [gh];exact aT,j5 _,by show (1:Int)*IntKind.i64.wrap (root+1)<=_;rw [gh];exact aT,by show IntKind.i64.wrap (root+1)<=_;rw [gh];exact aT⟩,?_⟩
    cbv
    refine ⟨⟨aeG⟩,?_⟩
    cbv
    refine ⟨(b0,true),⟨ef,rfl,by exact aK⟩,?_⟩
    cbv
    have atF:((List.replicate (IntKind.i64.wrap (root+1)).toNat false).set root.toNat true).length=rt+1:=by rw [km];exact ta
    have gA:root=((rt+1:Nat):Int) - 1:=by omega
    refine Sat.cf (Pn 0 0) 5 5 [(.t 6,4)] (λx:DG=>[(5,.own 3),(6,.own 4),(7,.i .i64 λ_=>(x.k:Int) - 1)]) (λx=>[(3,.dyn 4 1 jb λ_=>x.nd),(4,.dyn 3 1 bM λ_=>x.d)])
     (λx=>WS ins.length rt x) (λx=>x.k) ⟨rt+1,(List.replicate (IntKind.i64.wrap (root+1)).toNat false).set root.toNat true,[]⟩ (by have bg:=gA;exact bJ) (by exact ao) ⟨cR _,atF,λv hv=>by simp at hv,by simp⟩ ?_
    rintro ⟨k,nd,d⟩ ⟨hk,gI,hd,hlen⟩
    simp only at hk gI hd hlen
    have hNN:(k:Int) - 1 < fR ⟨ins,gs,outs,dr⟩:=by rw [<-hN];omega
    cbv
    refine ⟨λh=>?_,λh=>?_⟩
    ·have eT:1<=k:=by have:=h.out;simp only [cV,decide_eq_true_eq] at this;exact aT
     have ik:0<=(k:Int) - 1/\((k:Int) - 1).toNat < nd.length:=by omega
     obtain ⟨b1,jx⟩:=bD ik.2
     have s6:0<=(k:Int) - 1/\(k:Int) - 1 < fR ⟨ins,gs,outs,dr⟩:=⟨ik.1,hNN⟩
     have Rr:IntKind.i64.wrap ((k:Int) - 1 - 1)=((k - 1:Nat):Int) - 1:=by rw [cu (by omega) (by omega)];omega
     have WU:WS ins.length rt ⟨k - 1,nd,d⟩/\k - 1 < k:=⟨⟨by show k - 1<=rt+1;omega,gI,hd,by show d.length+(k - 1)<=rt+1;omega⟩,by omega⟩
     have hST:yX ⟨ins,gs,outs,dr⟩ ((k:Int) - 1)=false->2<=(k:Int) - 1->2+(ins.length:Int)<=(k:Int) - 1:=λhs h2=>by
      by_cases aR:(k:Int) - 1 < 2+ins.length
      ·exfalso
       unfold yX at hs
       simp [h2,aR] at hs
      ·omega
     have arS:d.length<=600:=by omega
     cbv
     refine ⟨⟨l,(k:Int) - 1⟩,⟨by exact aK,by show l.length<=_;omega⟩,?_⟩
     cbv
     refine ⟨λh=>?_,λh=>?_⟩
     ·have dv:sC l ((k:Int) - 1)=true:=h.out
      cbv
      refine ⟨⟨ik⟩,?_⟩
      cbv
      refine ⟨b1,⟨jx,rfl⟩,?_⟩
      cbv
      refine ⟨λh=>?_,λh=>?_⟩
      ·skip
       cbv
       exact .mk' ⟨[],250⟩ ⟨by exact aK⟩ (Bi _)
      ·have hb:b1=true:=by have:=h.out;simpa using this
       cbv
       refine ⟨⟨ik⟩,?_⟩
       cbv
       refine ⟨b1,⟨jx,rfl⟩,?_⟩
       cbv
       refine ⟨λh=>?_,λh=>?_⟩
       ·cbv
        refine ⟨λh=>?_,λh=>?_⟩
        ·exfalso
         have h':(!sC l ((k:Int) - 1))=true:=h.out
         rw [dv] at h'
         cases h'
        ·cbv
         refine ⟨⟨ik⟩,?_⟩
         cbv
         refine ⟨b1,⟨jx,rfl⟩,?_⟩
         cbv
         refine ⟨λh=>?_,λh=>?_⟩
         ·exfalso
          have h':(!b1)=true:=h.out
          rw [hb] at h'
          cases h'
         ·cbv
          refine ⟨λh=>?_,λh=>?_⟩
          ·skip
           cbv
           exact ⟨⟨k - 1,nd,d⟩,by have bg:=Rr;exact bJ,by exact ao,⟨WU⟩⟩
          ·exfalso
           have h':sC l ((k:Int) - 1)=false:=h.out
           rw [dv] at h'
           cases h'
       ·exfalso
        have h':b1=false:=h.out
        rw [hb] at h'
        cases h'
     ·have dv:sC l ((k:Int) - 1)=false:=h.out
      cbv
      refine ⟨⟨ik⟩,?_⟩
      cbv
      refine ⟨b1,⟨jx,rfl⟩,?_⟩
      cbv
      refine ⟨λh=>?_,λh=>?_⟩
      ·have hb:b1=true:=h.out
       cbv
       refine ⟨λh=>?_,λh=>?_⟩
       ·cbv
        refine ⟨⟨⟨ins,gs,outs,dr⟩,(k:Int) - 1⟩,⟨by exact aK,hn,s6⟩,?_⟩
        cbv
        refine ⟨λh=>?_,λh=>?_⟩
        ·skip
         cbv
         exact .mk' ⟨[],250⟩ ⟨by exact aK⟩ (Bi _)
        ·have cJ:yX ⟨ins,gs,outs,dr⟩ ((k:Int) - 1)=false:=h.out
         cbv
         refine ⟨⟨ik⟩,?_⟩
         cbv
         refine ⟨b1,⟨jx,rfl⟩,?_⟩
         cbv
         refine ⟨λh=>?_,λh=>?_⟩
         ·exfalso
          have h':(!b1)=true:=h.out
          rw [hb] at h'
          cases h'
         ·cbv
          refine ⟨λh=>?_,λh=>?_⟩
          ·exfalso
           have h':sC l ((k:Int) - 1)=true:=h.out
           rw [dv] at h'
           cases h'
          ·cbv
           refine ⟨λh=>?_,λh=>?_⟩
           ·skip
            cbv
            exact ⟨⟨k - 1,nd,d⟩,by have bg:=Rr;exact bJ,by exact ao,⟨WU⟩⟩
           ·have ka:2<=(k:Int) - 1:=by have h':aU ((k:Int) - 1) 2=false:=h.out;simp only [aU,decide_eq_false_iff_not] at h';omega
            have b9:=hST cJ ka
            have hD:∀z∈d++[(k:Int) - 1],2+(ins.length:Int)<=z/\z<=rt:=λz hz=>by
             rcases eP.1 hz with hz|hz
             ·exact hd z hz
             ·simp at hz;subst hz;exact ⟨b9,by omega⟩
            cbv
            refine ⟨[(k:Int) - 1],⟨by exact aK,by show (d.length+1)*8<=_;omega,by show d.length+1<=_;omega⟩,?_⟩
            cbv
            refine bV.rel Gw ⟨⟨ins,gs,outs,dr⟩,(k:Int) - 1⟩ (by exact aK) ⟨hn,s6⟩ λops kp=>?_
            have kp:CK ⟨ins,gs,outs,dr⟩ ((k:Int) - 1) ops:=kp.out
            have gv:=kp.len
            cbv
            refine Sat.cf (Pn 0 0) 7 10 [] (λx:Nat × List Bool=>[(10,.i .i64 λ_=>(x.1:Int))]) (λx=>[(3,.dyn 4 1 jb λ_=>x.2)])
             (λx=>x.1<=ops.length/\x.2.length=rt+1) (λx=>ops.length - x.1) (0,nd) (by exact ao) (by exact ao) ⟨cN _,gI⟩ ?_
            rintro ⟨i,nd⟩ ⟨hi,gI⟩
            simp only at hi gI
            have iB:=n0 i
            have mO:=cq (i:=i) (by omega)
            cbv
            refine ⟨λh=>?_,λh=>?_⟩
            ·(have h:=h.out;simp (disch:=exact aT) only [hS] at h)
             have bt:i < ops.length:=by exact aT
             have Fe:ops.length - (i+1) < ops.length - i:=by omega
             obtain ⟨op,fk⟩:=bD bt
             have WV:=kp.mem op (cb fk)
             have ahh:0<=op/\op.toNat < nd.length:=by exact aT
             obtain ⟨b2,jr⟩:=bD ahh.2
             have zg:(nd.set op.toNat true).length=rt+1:=by rw [km];exact gI
             cbv
             refine ⟨op,⟨iB,fk⟩,?_⟩
             cbv
             refine ⟨⟨ahh⟩,?_⟩
             cbv
             refine ⟨(b2,true),⟨jr,rfl,by exact aK⟩,?_⟩
             cbv
             exact ⟨(i+1,nd.set op.toNat true),by have bg:=mO;exact bJ,by exact ao,⟨⟨bt,zg⟩,Fe⟩⟩
            ·have arT:WS ins.length rt ⟨k - 1,nd,d++[(k:Int) - 1]⟩/\k - 1 < k:=⟨⟨by show k - 1<=rt+1;omega,gI,hD,by show (d++[(k:Int) - 1]).length+(k - 1)<=rt+1;rw [ib];simp only [rA];omega⟩,by omega⟩
             cbv
             exact ⟨⟨k - 1,nd,d++[(k:Int) - 1]⟩,by have bg:=Rr;exact bJ,by exact ao,⟨arT⟩⟩
       ·exfalso
        have h':(!sC l ((k:Int) - 1))=false:=h.out
        rw [dv] at h'
        cases h'
      ·have hb:b1=false:=h.out
       cbv
       refine ⟨⟨ik⟩,?_⟩
       cbv
       refine ⟨b1,⟨jx,rfl⟩,?_⟩
       cbv
       refine ⟨λh=>?_,λh=>?_⟩
       ·skip
        cbv
        exact ⟨⟨k - 1,nd,d⟩,by have bg:=Rr;exact bJ,by exact ao,⟨WU⟩⟩
       ·exfalso
        have h':(!b1)=false:=h.out
        rw [hb] at h'
        cases h'
    ·have arS:d.length<=601:=by omega
     have vy:IntKind.i64.wrap ((d.length:Int) - 1)=(d.length:Int) - 1:=by rw [cu (by omega) (by omega)]
     cbv
     refine Sat.cf (Pn 0 0) 6 11 [(.t 11,5)] (λx:Nat × List Int=>[(11,.own 5),(12,.i .i64 λ_=>(x.1:Int) - 1)]) (λx=>[(5,.dyn 3 1 bM λ_=>x.2)])
      (λx=>x.1<=d.length/\x.2.length+x.1<=d.length/\∀z∈x.2,z∈d) (λx=>x.1) (d.length,[]) (by have bg:=vy;exact bJ) (by exact ao) ⟨cR _,by simp,λz hz=>by simp at hz⟩ ?_
     rintro ⟨j,o⟩ ⟨hj,gv,Mh⟩
     simp only at hj gv Mh
     cbv
     refine ⟨λh=>?_,λh=>?_⟩
     ·have vz:1<=j:=by have:=h.out;simp only [cV,decide_eq_true_eq] at this;exact aT
      obtain ⟨z,hz⟩:=bD (l:=d) (i:=j - 1) (by omega)
      have Rm:IntKind.i64.wrap ((j:Int) - 1 - 1)=((j - 1:Nat):Int) - 1:=by rw [cu (by omega) (by omega)];omega
      have Dd:((j:Int) - 1).toNat=j - 1:=by omega
      have hjx:0<=(j:Int) - 1/\((j:Int) - 1).toNat < d.length:=by omega
      have hjz:d[((j:Int) - 1).toNat]?=some z:=by rw [Dd];exact hz
      have hJ:(j - 1<=d.length/\(o++[z]).length+(j - 1)<=d.length/\∀u∈o++[z],u∈d)/\j - 1 < j:=⟨⟨by omega,by rw [ib];simp only [rA];omega,λu hu=>by
       rcases eP.1 hu with hu|hu
       ·exact Mh u hu
       ·simp at hu;subst hu;exact cb hz⟩,by omega⟩
      cbv
      refine ⟨⟨hjx⟩,?_⟩
      cbv
      refine ⟨z,⟨hjz,rfl⟩,?_⟩
      cbv
      refine ⟨[z],⟨by exact aK,by show (o.length+1)*8<=_;omega,by show o.length+1<=_;omega⟩,?_⟩
      cbv
      exact ⟨(j - 1,o++[z]),by have bg:=Rm;exact bJ,by exact ao,⟨hJ⟩⟩
     ·have atH:Kb ⟨ins,gs,outs,dr⟩ ⟨root,l⟩ ⟨o,0⟩:=⟨λ_=>⟨nG,vo,by rw [<-hN];exact Rq,λv hv=>by
       have:=hd v (Mh v hv)
       exact ⟨this.1,by show v<=root;omega⟩,by show o.length<=1000;omega⟩⟩
      cbv
      exact .mk' ⟨o,0⟩ ⟨by exact aK⟩ atH
@[reducible] noncomputable def aqf:fK where
 α:=NC
 args x:=[.agg (sB x.n),.agg [.i .i64 (λ_=>x.c.root),.sl 1 bM (λ_=>x.c.l)]]
 pre x:=eX x.n/\x.c.l.length<=1000000
 β:=Int
 post x y:=y=0->yR x.c=true
 res x y:=.i .i64 (λ_=>y)
noncomputable def cCh (n m:Nat):Ctx:=fB n m [(238,Tryz.f238)] [] [238]
theorem arU (n m:Nat):CB PP (cCh n m):=fG n m ⟨fo Tryz.func238,trivial⟩ trivial
theorem an9:eG PP 185 aqf:=by
 refine iL (arU 0 0) (fo Tryz.func185) (λa=>⟨tQ a.n,⟨trivial,(λx=>(cQ x).1),trivial⟩,trivial⟩) (λa y=>trivial) ?_
 rintro ⟨n,⟨root,l⟩⟩ hx
 have hx:eX n/\l.length<=1000000:=hx
 refine ⟨?_⟩
 cbv
 refine bV.rel adJ ⟨n,⟨root,l⟩⟩ (by exact aK) ⟨hx⟩ λy hy=>?_
 have hy:Kb n ⟨root,l⟩ y:=hy.out
 cbv
 exact .mk' y.e ⟨by exact aK⟩ (λh=>(hy.ok h).1)
structure Tab where
 t:Int
 e:Int
structure U7 (c:Cut) (y:Tab):Prop where
 ok:c.l.length<=4->0<=y.t/\y.t < 2^(2^c.l.length)
@[reducible] noncomputable def aqg:fK where
 α:=NC
 args x:=[.agg (sB x.n),.agg [.i .i64 (λ_=>x.c.root),.sl 1 bM (λ_=>x.c.l)]]
 pre x:=eX x.n/\x.c.l.length<=1000000
 β:=Tab
 post x y:=U7 x.c y
 res x y:=.agg [.i .i64 (λ_=>y.t),.i .i64 (λ_=>y.e)]
theorem aqh {T i:Nat} (h:T < 2^i):T ||| 2^i < 2^(i+1):=Td (Tt h (GD (by decide) (N6 _))) (GD (by decide) (N6 _))
theorem ahi {a b:Nat} (ha:a < 65536) (hb:b < 65536):jd .or .i64 (a:Int) (b:Int)=((a ||| b:Nat):Int):=by
 have h:a ||| b < 65536:=Td (n:=16) ha hb
 unfold jd
 simp only
 have e:(BitVec.ofInt IntKind.i64.bits (a:Int) ||| BitVec.ofInt IntKind.i64.bits (b:Int)).toNat=a ||| b:=by
  rw [BitVec.toNat_or,BitVec.ofInt_natCast,BitVec.ofInt_natCast,BitVec.toNat_ofNat,BitVec.toNat_ofNat]
  show a % 2^64 ||| b % 2^64=a ||| b
  rw [Th (show a < 2^64 by omega),Th (show b < 2^64 by omega)]
 rw [e,cu (by omega) (by omega)]
theorem ahj {i:Nat} (h:i < 16):0<=IntKind.u64.wrap (i:Int)/\IntKind.i64.wrap (1*2^(min (IntKind.u64.wrap (i:Int)).toNat IntKind.i64.bits))=((2^i:Nat):Int):=by
 have:i=0\/i=1\/i=2\/i=3\/i=4\/i=5\/i=6\/i=7\/i=8\/i=9\/i=10\/i=11\/i=12\/i=13\/i=14\/i=15:=by omega
 rcases this with e|e|e|e|e|e|e|e|e|e|e|e|e|e|e|e<;>subst e<;>exact ⟨by decide,rfl⟩
structure TG where
 i:Nat
 t:Int
structure WW (n:Nat) (x:TG):Prop where
 i:x.i<=n
 lo:0<=x.t
 hi:x.t < 2^x.i
noncomputable def cTa (n m:Nat):Ctx:=fB n m [(238,Tryz.f238)] [(51,AF),(239,aeF)] [238]
theorem PQ (n m:Nat):CB PP (cTa n m):=fG n m ⟨fo Tryz.func238,trivial⟩ ⟨B9,an8,trivial⟩
theorem aoa:eG PP 184 aqg:=by
 refine iL (PQ 0 0) (fo Tryz.func184) (λa=>⟨tQ a.n,⟨trivial,(λx=>(cQ x).1),trivial⟩,trivial⟩) (λa y=>⟨trivial,trivial,trivial⟩) ?_
 rintro ⟨⟨ins,gs,outs,dr⟩,⟨root,l⟩⟩ hx
 obtain ⟨hn,hl⟩:eX ⟨ins,gs,outs,dr⟩/\l.length<=1000000:=hx
 have wH:2+ins.length+gs.length<=600:=hn.pF
 have Yv:∀(i:Nat) (g:Gate),gs[i]?=some g->tV (2+ins.length+i) g:=hn.gM
 have wV:=hl
 refine ⟨?_⟩
 cbv
 refine bV.rel adJ ⟨⟨ins,gs,outs,dr⟩,⟨root,l⟩⟩ (by exact aK) ⟨hn,wV⟩ λy hy=>?_
 have hy:Kb ⟨ins,gs,outs,dr⟩ ⟨root,l⟩ y:=hy.out
 cbv
 refine ⟨λh=>?_,λh=>?_⟩
 ·cbv
  exact .mk' ⟨0,y.e⟩ ⟨by exact aK⟩ ⟨λ_=>⟨j5 _,by show (0:Int) < 2^(2^l.length);exact Int.pow_pos (by decide)⟩⟩
 ·have he:y.e=0:=by have h':(!aV y.e 0)=false:=h.out;simpa [aV] using h'
  obtain ⟨nG,vo,Rq,afQ,qc⟩:=hy.ok he
  obtain ⟨gF,Rs⟩:=NL.1 nG
  simp only at gF Rs vo Rq afQ
  have nv:fR ⟨ins,gs,outs,dr⟩=((2+ins.length+gs.length:Nat):Int):=by unfold fR;simp only;omega
  obtain ⟨N,hN⟩:∃N,N=2+ins.length+gs.length:=⟨_,rfl⟩
  rw [<-hN] at nv
  have aBf:root < N:=by rw [<-nv];exact Rq
  have hw:IntKind.i64.wrap (1*2^(min (IntKind.u64.wrap (l.length:Int)).toNat IntKind.i64.bits))=((2^l.length:Nat):Int):=by
   have:l.length=0\/l.length=1\/l.length=2\/l.length=3\/l.length=4:=by omega
   rcases this with e|e|e|e|e<;>rw [e]<;>rfl
  have atI:2^l.length<=16:=by
   have:l.length=0\/l.length=1\/l.length=2\/l.length=3\/l.length=4:=by omega
   rcases this with e|e|e|e|e<;>rw [e]<;>decide
  have ql:0<=IntKind.u64.wrap (l.length:Int):=by
   have:l.length=0\/l.length=1\/l.length=2\/l.length=3\/l.length=4:=by omega
   rcases this with e|e|e|e|e<;>rw [e]<;>decide
  obtain ⟨P,hP⟩:∃P,P=2^l.length:=⟨_,rfl⟩
  rw [<-hP] at hw atI
  cbv
  refine Sat.cf (PQ 0 0) 5 7 [] (λx:TG=>[(7,.i .i64 λ_=>(x.i:Int))]) (λx=>[(4,.fix 326 [.i .i64 (λ_=>x.t),.ic .i64 0])])
   (λx=>WW P x) (λx=>P - x.i) ⟨0,0⟩ (by exact ao) (by exact ao) ⟨cN _,j5 _,by decide⟩ ?_
  rintro ⟨i,t⟩ ⟨hi,De,II⟩
  simp only at hi De II
  have iB:=n0 i
  have mO:=cq (i:=i) (by omega)
  have ta:(List.replicate (fR ⟨ins,gs,outs,dr⟩).toNat false).length=N:=by rw [sP,nv];rfl
  have hN2:2<=N/\N<=600:=by omega
  have h1N:(0:Int)<=1/\(1:Int).toNat < (List.replicate (fR ⟨ins,gs,outs,dr⟩).toNat false).length:=by rw [ta];exact ⟨by decide,by show 1 < N;omega⟩
  obtain ⟨b0,ef⟩:=bD h1N.2
  cbv
  refine ⟨⟨ql⟩,?_⟩
  cbv
  refine ⟨λh=>?_,λh=>?_⟩
  ·have Rt:i < P:=by have h':aU (i:Int) (IntKind.i64.wrap (1*2^(min (IntKind.u64.wrap (l.length:Int)).toNat IntKind.i64.bits)))=true:=h.out;rw [hw] at h';simp only [aU,decide_eq_true_eq] at h';exact aT
   have bh:P - (i+1) < P - i:=by omega
   cbv
   refine ⟨⟨ins,gs,outs,dr⟩,⟨by exact aK,by show 2+ins.length+gs.length<=_;omega⟩,?_⟩
   cbv
   refine ⟨⟨by show 0<=fR ⟨ins,gs,outs,dr⟩;rw [nv];exact aT,j5 _,by show (1:Int)*fR ⟨ins,gs,outs,dr⟩<=_;rw [nv];exact aT,by show fR ⟨ins,gs,outs,dr⟩<=_;rw [nv];exact aT⟩,?_⟩
   cbv
   refine ⟨⟨h1N⟩,?_⟩
   cbv
   refine ⟨(b0,true),⟨ef,rfl,by exact aK⟩,?_⟩
   cbv
   have atJ:((List.replicate (fR ⟨ins,gs,outs,dr⟩).toNat false).set (1:Int).toNat true).length=N:=by rw [km];exact ta
   refine Sat.cf (PQ 0 0) 6 9 [] (λx:Nat × List Bool=>[(9,.i .i64 λ_=>(x.1:Int))]) (λx=>[(5,.dyn 4 1 jb λ_=>x.2)])
    (λx=>x.1<=l.length/\x.2.length=N) (λx=>l.length - x.1) (0,(List.replicate (fR ⟨ins,gs,outs,dr⟩).toNat false).set (1:Int).toNat true) (by exact ao) (by exact ao) ⟨cN _,atJ⟩ ?_
   rintro ⟨k,v⟩ ⟨hk,hv⟩
   simp only at hk hv
   have gA:=n0 k
   have eT:=cq (i:=k) (by omega)
   cbv
   refine ⟨λh=>?_,λh=>?_⟩
   ·have dq:k < l.length:=by have h':aU (k:Int) (l.length:Int)=true:=h.out;simp only [aU,decide_eq_true_eq] at h';exact aT
    have Lk:l.length - (k+1) < l.length - k:=by omega
    obtain ⟨x,hx⟩:=bD dq
    have Yx:=gF k x hx
    have oR:0<=x/\x.toNat < v.length:=by exact aT
    obtain ⟨b,hb⟩:=bD oR.2
    have Yy:=(ahj (i:=k) (by omega)).1
    obtain ⟨bb,FR⟩:∃bb,bb=aV (jd .and .i64 ((i:Int).fdiv (2^(min (IntKind.u64.wrap (k:Int)).toNat IntKind.i64.bits))) 1) 1:=⟨_,rfl⟩
    have zg:(v.set x.toNat bb).length=N:=by rw [km];exact hv
    cbv
    refine ⟨x,⟨gA,hx⟩,?_⟩
    cbv
    refine ⟨⟨Yy⟩,?_⟩
    cbv
    refine ⟨⟨oR⟩,?_⟩
    cbv
    refine ⟨(b,bb),⟨hb,rfl,.cons (.b FR.symm) .nil⟩,?_⟩
    cbv
    exact ⟨(k+1,v.set x.toNat bb),by have bg:=eT;exact bJ,by exact ao,⟨⟨dq,zg⟩,Lk⟩⟩
   ·cbv
    refine Sat.cf (PQ 0 0) 6 9 [] (λx:Nat × List Bool=>[(10,.i .i64 λ_=>(x.1:Int))]) (λx=>[(5,.dyn 4 1 jb λ_=>x.2)])
     (λx=>x.1<=y.l.length/\x.2.length=N) (λx=>y.l.length - x.1) (0,v) (by exact ao) (by exact ao) ⟨cN _,hv⟩ ?_
    rintro ⟨j,v⟩ ⟨hj,hv⟩
    simp only at hj hv
    have iN:=n0 j
    have vz:=cq (i:=j) (by omega)
    cbv
    refine ⟨λh=>?_,λh=>?_⟩
    ·have er:j < y.l.length:=by have h':aU (j:Int) (y.l.length:Int)=true:=h.out;simp only [aU,decide_eq_true_eq] at h';exact aT
     have WX:y.l.length - (j+1) < y.l.length - j:=by omega
     obtain ⟨x,hx⟩:=bD er
     have Yx:=afQ x (cb hx)
     obtain ⟨g,hg⟩:=bD (l:=gs) (i:=(x - 2 - ins.length).toNat) (by exact aT)
     have G:=Yv _ g hg
     have gu:(0<=IntKind.i64.wrap (IntKind.i64.wrap (x - 2) - (ins.length:Int)))/\gs[(IntKind.i64.wrap (IntKind.i64.wrap (x - 2) - (ins.length:Int))).toNat]?=some g:=by
      rw [cu (n:=x - 2) (by exact aT) (by exact aT),cu (by exact aT) (by exact aT)];exact ⟨by exact aT,hg⟩
     have ha:=G.a
     have hb:=G.b
     have hc:=G.c
     have Df:0<=g.a/\g.a.toNat < v.length:=by exact aT
     have hbv:0<=g.b/\g.b.toNat < v.length:=by exact aT
     have oV:0<=g.c/\g.c.toNat < v.length:=by exact aT
     have oR:0<=x/\x.toNat < v.length:=by exact aT
     obtain ⟨ba,hba⟩:=bD Df.2
     obtain ⟨bb,FR⟩:=bD hbv.2
     obtain ⟨bc,hbc⟩:=bD oV.2
     obtain ⟨bx,wT⟩:=bD oR.2
     obtain ⟨r,hr⟩:∃r,r=PO g.op ba bb bc:=⟨_,rfl⟩
     have zg:(v.set x.toNat r).length=N:=by rw [km];exact hv
     cbv
     refine ⟨x,⟨iN,hx⟩,?_⟩
     cbv
     refine ⟨g,⟨gu⟩,?_⟩
     cbv
     refine ⟨x,⟨iN,hx⟩,?_⟩
     cbv
     refine ⟨⟨Df⟩,?_⟩
     cbv
     refine ⟨ba,⟨hba,rfl⟩,?_⟩
     cbv
     refine ⟨⟨hbv⟩,?_⟩
     cbv
     refine ⟨bb,⟨FR,rfl⟩,?_⟩
     cbv
     refine ⟨⟨oV⟩,?_⟩
     cbv
     refine ⟨bc,⟨hbc,rfl⟩,?_⟩
     cbv
     refine ⟨⟨g,ba,bb,bc⟩,⟨by exact aK,trivial⟩,?_⟩
     cbv
     refine ⟨⟨oR⟩,?_⟩
     cbv
     refine ⟨(bx,r),⟨wT,rfl,.cons (.b hr.symm) .nil⟩,?_⟩
     cbv
     exact ⟨(j+1,v.set x.toNat r),by have bg:=vz;exact bJ,by exact ao,⟨⟨er,zg⟩,WX⟩⟩
    ·have IB:0<=root/\root.toNat < v.length:=by exact aT
     obtain ⟨br,hbr⟩:=bD IB.2
     have eg:=ahj (i:=i) (by omega)
     have pB:((t.toNat:Nat):Int)=t:=by omega
     have Dg:t.toNat < 2^i:=by
      have h':((t.toNat:Nat):Int) < ((2^i:Nat):Int):=by rw [pB];push_cast;exact II
      omega
     have h16:2^i < 65536:=Nat.lt_of_lt_of_le (GD (by decide) (show i < 16 by omega)) (by decide)
     have hor:jd .or .i64 t (IntKind.i64.wrap (1*2^(min (IntKind.u64.wrap (i:Int)).toNat IntKind.i64.bits)))=((t.toNat ||| 2^i:Nat):Int):=by
      rw [eg.2,<-ahi (by omega) h16,pB]
     have hT1:WW P ⟨i+1,((t.toNat ||| 2^i:Nat):Int)⟩:=⟨Rt,GI _,by
      have:=aqh Dg
      show ((t.toNat ||| 2^i:Nat):Int) < 2^(i+1)
      exact_mod_cast this⟩
     have hT2:WW P ⟨i+1,t⟩:=⟨Rt,De,by
      show t < 2^(i+1)
      rw [Int.pow_succ]
      have:(0:Int) < 2^i:=Int.pow_pos (by decide)
      omega⟩
     cbv
     refine ⟨⟨IB⟩,?_⟩
     cbv
     refine ⟨br,⟨hbr,rfl⟩,?_⟩
     cbv
     refine ⟨λh=>?_,λh=>?_⟩
     ·cbv
      refine ⟨⟨eg.1⟩,?_⟩
      cbv
      exact ⟨⟨i+1,((t.toNat ||| 2^i:Nat):Int)⟩,by have bg:=mO;exact bJ,by have bg:=hor;exact bJ,⟨⟨hT1,bh⟩⟩⟩
     ·cbv
      exact ⟨⟨i+1,t⟩,by have bg:=mO;exact bJ,by exact ao,⟨⟨hT2,bh⟩⟩⟩
  ·have Rt:i=P:=by have h':aU (i:Int) (IntKind.i64.wrap (1*2^(min (IntKind.u64.wrap (l.length:Int)).toNat IntKind.i64.bits)))=false:=h.out;rw [hw] at h';simp only [aU,decide_eq_false_iff_not] at h';exact aT
   have hT:U7 ⟨root,l⟩ ⟨t,0⟩:=⟨λ_=>⟨De,by show t < 2^(2^l.length);rw [<-hP,<-Rt];exact II⟩⟩
   cbv
   exact .mk' ⟨t,0⟩ ⟨by exact aK⟩ hT
def Ff:List Int->List Int->Bool
 | x :: r,y :: s=>if x≠y then decide (x < y) else Ff r s
 | _,_=>false
def AT (a b:List Int):Bool:=if a.length≠b.length then decide (a.length < b.length) else Ff a b
theorem apd {a b:List Int} {i:Nat} {x y:Int} (hx:a[i]?=some x) (hy:b[i]?=some y):Ff (a.drop i) (b.drop i)=if x≠y then decide (x < y) else Ff (a.drop (i+1)) (b.drop (i+1)):=by
 obtain ⟨h1,e1⟩:=bW.1 hx
 obtain ⟨h2,e2⟩:=bW.1 hy
 rw [aaW h1,aaW h2,e1,e2]
 rfl
@[reducible] noncomputable def U8:Vc.Spec where
 α:=LL
 args x:=[.sl 1 bM (λ_=>x.a),.sl 1 bM (λ_=>x.b)]
 pre x:=x.a.length<=1000000/\x.b.length<=1000000
 res x:=.b (λ_=>AT x.a x.b)
theorem acD:cZ (PP ()) 183 U8:=by
 refine dT (iQ 0 0) (fo Tryz.func183) (λa=>⟨(λx=>(cQ x).1),(λx=>(cQ x).1),trivial⟩) (λa=>trivial) ?_
 rintro ⟨a,b⟩ hx
 obtain ⟨ha,hb⟩:a.length<=1000000/\b.length<=1000000:=hx
 refine ⟨?_⟩
 cbv
 refine ⟨λh=>?_,λh=>?_⟩
 ·have j7:a.length≠b.length:=by have:=h.out;simp [aV] at this;exact aT
  have e:aU (a.length:Int) (b.length:Int)=AT a b:=by unfold AT aU;rw [if_pos j7];simp
  cbv
  exact ⟨.b e⟩
 ·have j7:a.length=b.length:=by have:=h.out;simp [aV] at this;exact aT
  have e:AT a b=Ff a b:=by unfold AT;rw [if_neg (by simpa using j7)]
  cbv
  refine Sat.cf (iQ 0 0) 0 5 [] (λi:Nat=>[(5,.i .i64 λ_=>(i:Int))]) (λ_=>[]) (λi=>i<=a.length/\AT a b=Ff (a.drop i) (b.drop i)) (λi=>a.length - i) 0 (by exact ao) (by exact ao) ⟨by omega,by simpa using e⟩ ?_
  rintro i ⟨hi,he⟩
  cbv
  refine ⟨λh=>?_,λh=>?_⟩
  ·(have h:=h.out;simp (disch:=exact aT) only [hS] at h)
   have aR:i < a.length:=by exact aT
   have bh:a.length - (i+1) < a.length - i:=by omega
   obtain ⟨x,hx⟩:=bD aR
   obtain ⟨y,hy⟩:=bD (l:=b) (i:=i) (by omega)
   have hl:=apd hx hy
   have h1:=cq (i:=i) (by omega)
   have h0:=n0 i
   cbv
   refine ⟨x,⟨h0,hx⟩,?_⟩
   cbv
   refine ⟨y,⟨h0,hy⟩,?_⟩
   cbv
   refine ⟨λh=>?_,λh=>?_⟩
   ·have cO:x≠y:=by have:=h.out;simpa [aV] using this
    have e2:aU x y=AT a b:=by rw [he,hl,if_pos cO];rfl
    cbv
    refine ⟨x,⟨h0,hx⟩,?_⟩
    cbv
    refine ⟨y,⟨h0,hy⟩,?_⟩
    cbv
    exact ⟨.b e2⟩
   ·have cO:x=y:=by have:=h.out;simpa [aV] using this
    have e2:AT a b=Ff (a.drop (i+1)) (b.drop (i+1)):=by rw [he,hl,if_neg (by simpa using cO)]
    cbv
    exact ⟨i+1,by have bg:=h1;exact bJ,by exact ao,⟨⟨aR,e2⟩,bh⟩⟩
  ·(have h:=h.out;simp (disch:=exact aT) only [hS] at h)
   have b9:i=a.length:=by exact aT
   have e2:AT a b=false:=by rw [he,b9,List.drop_length];rfl
   cbv
   exact ⟨.bc e2.symm⟩
structure Po (l y:List (List Int)):Prop where
 len:y.length=l.length
 mem:∀z∈y,z∈l
@[reducible] noncomputable def atL:fK where
 α:=List (List Int)
 args x:=[.sl 1 jc (λ_=>x)]
 pre x:=x.length<=1000000000000/\∀y∈x,y.length<=1000000
 β:=List (List Int)
 post x y:=Po x y
 res x y:=.sl 1 jc (λ_=>y)
structure OG where
 i:Nat
 o:List (List Int)
structure ahk (l:List (List Int)) (x:OG):Prop where
 i:x.i<=l.length
 len:x.o.length=x.i
 mem:∀z∈x.o,z∈l
noncomputable def atN (n m:Nat):Ctx:=fB n m [] [(183,U8)] [] [] [4]
theorem U9 (n m:Nat):CB PP (atN n m):=fG n m trivial ⟨acD,trivial⟩
noncomputable def arV (n m:Nat):Ctx:=fB n m [] [(183,U8)]
theorem adK (n m:Nat):CB PP (arV n m):=fG n m trivial ⟨acD,trivial⟩
theorem aeH:eG PP 125 atL:=by
 refine iL (U9 0 0) (fo Tryz.func125) (λa=>⟨(λx=>(pW x).1),trivial⟩) (λa y=>(λx=>(pW x).1)) ?_
 intro (l:List (List Int)) hx
 obtain ⟨hl,IH⟩:l.length<=1000000000000/\∀y∈l,y.length<=1000000:=hx
 refine ⟨?_⟩
 cbv
 refine Sat.cf (U9 0 0) 1 3 [(.t 3,0)] (λx:OG=>[(3,.own 0),(4,.i .i64 λ_=>(x.i:Int))]) (λx=>[(0,.dyn 35 1 jc λ_=>x.o)])
  (λx=>ahk l x) (λx=>l.length - x.i) ⟨0,[]⟩ (by exact ao) (by exact ao) ⟨cN _,rfl,λz hz=>by simp at hz⟩ ?_
 rintro ⟨i,o⟩ ⟨hi,hlen,eV⟩
 simp only at hi hlen eV
 have h0:=n0 i
 have h1:=cq (i:=i) (by omega)
 cbv
 refine ⟨λh=>?_,λh=>?_⟩
 ·(have h:=h.out;simp (disch:=exact aT) only [hS] at h)
  have aR:i < l.length:=by exact aT
  obtain ⟨x,hx⟩:=bD aR
  have iI:=cb hx
  have qj:=IH x iI
  cbv
  refine Sat.cf (U9 0 0) 1 5 [] (λk:Nat=>[(5,.i .i64 λ_=>(k:Int))]) (λ_=>[]) (λk=>k<=o.length) (λk=>o.length - k) 0 (by exact ao) (by exact ao) (by omega) ?_
  intro k hk
  have Ru:(k:Int)<=(o.length:Int):=by omega
  have l1:((o.take k).drop 0).length=k:=by simp;omega
  have l2:((o.take o.length).drop k).length=o.length - k:=by simp
  have l3:([]++(o.take k).drop 0:List (List Int)).length=k:=by rw [jP];exact l1
  have l4:(([]++(o.take k).drop 0)++[x]:List (List Int)).length=k+1:=by rw [ib,l3];rfl
  have hO:ahk l ⟨i+1,(([]++(o.take k).drop 0)++[x])++(o.take o.length).drop k⟩:=⟨aR,by show ((([]++(o.take k).drop 0)++[x])++(o.take o.length).drop k).length=i+1;rw [ib,l4,l2];omega,λz hz=>by
   simp only [jP,eP,Ed] at hz
   rcases hz with (hz|rfl)|hz
   ·exact eV z (sQ (r9 hz))
   ·exact iI
   ·exact eV z (sQ (r9 hz))⟩
  have hmO:l.length - (i+1) < l.length - i:=by omega
  have gA:=n0 k
  have eT:=cq (i:=k) (by omega)
  cbv
  refine ⟨λh=>?_,λh=>?_⟩
  ·(have h:=h.out;simp (disch:=exact aT) only [hS] at h)
   have dq:k < o.length:=by exact aT
   obtain ⟨y,hy⟩:=bD dq
   have rS:=IH y (eV y (cb hy))
   have bh:k+1<=o.length/\o.length - (k+1) < o.length - k:=by omega
   cbv
   refine ⟨⟨gA,dq⟩,?_⟩
   cbv
   refine ⟨y,⟨hy,rfl⟩,?_⟩
   cbv
   refine ⟨x,⟨h0,hx⟩,?_⟩
   cbv
   refine ⟨⟨y,x⟩,⟨by exact aK,rS,qj⟩,?_⟩
   cbv
   refine ⟨λh=>?_,λh=>?_⟩
   ·cbv
    exact ⟨k+1,by have bg:=eT;exact bJ,by exact ao,⟨bh⟩⟩
   ·skip
    cbv
    refine ⟨⟨j5 _,gA,Ru⟩,?_⟩
    cbv
    refine ⟨(o.take k).drop 0,⟨by exact aK,by show (0+((o.take k).drop 0).length)*24<=_;omega,by show 0+((o.take k).drop 0).length<=_;omega⟩,?_⟩
    cbv
    refine ⟨x,⟨h0,hx⟩,?_⟩
    cbv
    refine ⟨[x],⟨by exact aK,by show (([]++(o.take k).drop 0:List (List Int)).length+1)*24<=_;omega,by show ([]++(o.take k).drop 0:List (List Int)).length+1<=_;omega⟩,?_⟩
    cbv
    refine ⟨⟨gA,Ru,j5 _⟩,?_⟩
    cbv
    refine ⟨(o.take o.length).drop k,⟨by exact aK,by show ((([]++(o.take k).drop 0)++[x]:List (List Int)).length+((o.take o.length).drop k).length)*24<=_;omega,by show (([]++(o.take k).drop 0)++[x]:List (List Int)).length+((o.take o.length).drop k).length<=_;omega⟩,?_⟩
    cbv
    refine Sat.kill 0 ?_
    refine Sat.wU (adK 0 0) ?_
    cbv
    exact ⟨⟨i+1,(([]++(o.take k).drop 0)++[x])++(o.take o.length).drop k⟩,by have bg:=h1;exact bJ,by exact ao,⟨hO,hmO⟩⟩
  ·skip
   cbv
   refine ⟨⟨j5 _,gA,Ru⟩,?_⟩
   cbv
   refine ⟨(o.take k).drop 0,⟨by exact aK,by show (0+((o.take k).drop 0).length)*24<=_;omega,by show 0+((o.take k).drop 0).length<=_;omega⟩,?_⟩
   cbv
   refine ⟨x,⟨h0,hx⟩,?_⟩
   cbv
   refine ⟨[x],⟨by exact aK,by show (([]++(o.take k).drop 0:List (List Int)).length+1)*24<=_;omega,by show ([]++(o.take k).drop 0:List (List Int)).length+1<=_;omega⟩,?_⟩
   cbv
   refine ⟨⟨gA,Ru,j5 _⟩,?_⟩
   cbv
   refine ⟨(o.take o.length).drop k,⟨by exact aK,by show ((([]++(o.take k).drop 0)++[x]:List (List Int)).length+((o.take o.length).drop k).length)*24<=_;omega,by show (([]++(o.take k).drop 0)++[x]:List (List Int)).length+((o.take o.length).drop k).length<=_;omega⟩,?_⟩
   cbv
   refine Sat.kill 0 ?_
   refine Sat.wU (adK 0 0) ?_
   cbv
   exact ⟨⟨i+1,(([]++(o.take k).drop 0)++[x])++(o.take o.length).drop k⟩,by have bg:=h1;exact bJ,by exact ao,⟨hO,hmO⟩⟩
 ·(have h:=h.out;simp (disch:=exact aT) only [hS] at h)
  have b9:i=l.length:=by exact aT
  cbv
  exact .mk' o ⟨by exact aK⟩ ⟨by show o.length=l.length;omega,eV⟩
end Go.Proofs.Pk
