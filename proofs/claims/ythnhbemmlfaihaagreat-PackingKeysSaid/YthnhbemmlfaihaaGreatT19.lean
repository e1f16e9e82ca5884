import Derived.Test.YthnhbemmlfaihaaGreatT18
set_option linter.unusedVariables false
set_option linter.unusedSimpArgs false
set_option maxRecDepth 10000
set_option maxHeartbeats 64000000
namespace Go.Vc
open Go Go.ChangeShapes Go.WideShapes Go.ChangeAt Go.RowKit
theorem PE {a b:Nat}:(Nat.beq a b=true)=(a=b):=propext ⟨oR,λh=>h ▸ Nat.beq_refl a⟩
inductive Ty where
 | int (k:IntKind)
 | bool
 | str
 | sl (e:Ty)
 | unit
 | pair (a b:Ty)
abbrev Ty.u7:Ty->Type
 | .int _=>Int
 | .bool=>Bool
 | .str=>ByteArray
 | .sl e=>List e.u7
 | .unit=>Unit
 | .pair a b=>a.u7 × b.u7
def Ty.size:Ty->Nat
 | .unit=>0
 | .pair a b=>a.size+b.size
 | _=>1
def Ty.cells:(T:Ty)->T.u7->List SV
 | .int k,n=>[.i k λ_=>n]
 | .bool,b=>[.b λ_=>b]
 | .str,s=>[.str λ_=>s]
 | .sl e,xs=>[.sl e.size e.cells λ_=>xs]
 | .unit,_=>[]
 | .pair a b,x=>a.cells x.1++b.cells x.2
def Ty.wf:(T:Ty)->T.u7->Prop
 | .int k,n=>k.min<=n/\n<=k.max
 | .bool,_=>True
 | .str,s=>s.size<=maxLen
 | .sl e,xs=>xs.length<=maxLen/\∀x∈xs,e.wf x
 | .unit,_=>True
 | .pair a b,x=>a.wf x.1/\b.wf x.2
def Ty.arg:(T:Ty)->T.u7->SV
 | .int k,n=>.i k λ_=>n
 | .bool,b=>.b λ_=>b
 | .str,s=>.str λ_=>s
 | .sl e,xs=>.sl e.size e.cells λ_=>xs
 | .unit,_=>.agg []
 | .pair a b,x=>.agg (a.cells x.1++b.cells x.2)
theorem Ty.lf:∀(T:Ty) (x:T.u7),dm (T.cells x)
 | .int k,n=>⟨trivial,trivial⟩
 | .bool,b=>⟨trivial,trivial⟩
 | .str,s=>⟨trivial,trivial⟩
 | .sl e,xs=>⟨λx=>e.lf x,trivial⟩
 | .unit,_=>trivial
 | .pair a b,x=>I5 (a.lf x.1) (b.lf x.2)
def xr (T:Ty):Nat->Ty
 | 0=>.unit
 | n+1=>.pair T (xr T n)
def DV (r:TypeId->Option Ty) (c:TypeId->Nat):Nat->List Field->Option Ty
 | _,[]=>some .unit
 | o,f :: fs =>
  match r f.type with
  | some T=>match Nat.beq f.offset o&&Nat.beq (c f.type) T.size with
   | true=>match DV r c (o+T.size) fs with
    | some U=>some (.pair T U)
    | none=>none
   | false=>none
  | none=>none
def xC (P:Program):Nat->TypeId->Option Ty
 | 0,_=>none
 | n+1,t=>match P.underlying t with
  | some (.int k)=>some (.int k)
  | some .bool=>some .bool
  | some .string=>some .str
  | some (.slice e)=>match xC P n e with
   | some T=>match Nat.beq (P.cellsOf e) T.size&&Nat.blt 0 T.size with
    | true=>some (.sl T)
    | false=>none
   | none=>none
  | some (.struct fs)=>match DV (xC P n) P.cellsOf 0 fs.toList with
   | some T=>match Nat.beq (P.cellsOf t) T.size with
    | true=>some T
    | false=>none
   | none=>none
  | some (.array m e)=>match xC P n e with
   | some T=>match Nat.beq (P.cellsOf e) T.size&&Nat.beq (P.cellsOf t) (m*T.size) with
    | true=>some (xr T m)
    | false=>none
   | none=>none
  | _=>none
theorem Zv {α:Type} {p:Nat->α->Prop}:∀(n:Nat),(∀i,i < n->∃y,p i y)->∃ys:List α,ys.length=n/\∀i y,ys[i]?=some y->p i y
 | 0,_=>⟨[],rfl,λi y h=>by simp at h⟩
 | n+1,h=>by
  obtain ⟨ys,h1,h2⟩:=Zv n λi hi=>h i (by omega)
  obtain ⟨y,hy⟩:=h n (by omega)
  refine ⟨ys++[y],by simp [h1],λi z hz=>?_⟩
  rw [DP] at hz
  split at hz
  ·exact h2 i z hz
  ·rename_i hi
   have:i=n:=by
    have:=(bX.1 hz).1
    simp at this;omega
   subst this
   simp [h1] at hz
   subst hz;exact hy
section
variable {H:Type} {enc:TypeId × Value->H} {P:Program} {W:World} {base:Nat} {sp:Nat->Bool} {held:Bool}
def UT (enc:TypeId × Value->H) (P:Program) (W:World) (base:Nat) (sp:Nat->Bool) (held:Bool) (m:Nat) (t:TypeId) (T:Ty):Prop :=
 ∀cs x,DataW.trod enc P W base sp held m t cs=some x->∃y:T.u7,T.wf y/\cs.length=T.size/\ez (jH W) (T.cells y) cs
theorem Zw {n m:Nat} (ih:∀t T,xC P n t=some T->UT enc P W base sp held m t T):∀(fs:List Field) (o:Nat) (T:Ty) (cs:List Value) (xs:List (DataW H × List MemPlace)),
  DV (xC P n) P.cellsOf o fs=some T->fs.mapM (λf=>DataW.trod enc P W base sp held m f.type ((cs.drop f.offset).take (P.cellsOf f.type)))=some xs->cs.length=o+T.size ->
  ∃y:T.u7,T.wf y/\ez (jH W) (T.cells y) (cs.drop o)
 | [],o,T,cs,xs,h,_,hl=>by
  simp [DV] at h;subst h
  refine ⟨(),trivial,?_⟩
  have:cs.drop o=[]:=by simp;simp [Ty.size] at hl;omega
  rw [this];simp [Ty.cells,a_]
 | f :: fs,o,T,cs,xs,h,hm,hl=>by
  unfold DV at h
  split at h<;>try (cases h;done)
  rename_i T1 h1
  split at h<;>try (cases h;done)
  rename_i h2
  split at h<;>try (cases h;done)
  rename_i U h3
  simp at h;subst h
  simp only [ei,PE] at h2
  rw [Je] at hm
  simp only [bind,Sd,pure,uE] at hm
  obtain ⟨a,ha,as,has,rfl⟩:=hm
  rw [h2.1,h2.2] at ha
  obtain ⟨y,fA,ja,xY⟩:=ih _ _ h1 _ _ ha
  simp only [Ty.size] at hl
  obtain ⟨z,iL,iB⟩:=Zw ih fs (o+T1.size) U cs as h3 has (by omega)
  refine ⟨(y,z),⟨fA,iL⟩,?_⟩
  have e:cs.drop o=(cs.drop o).take T1.size++cs.drop (o+T1.size):=by rw [<-List.drop_drop,List.take_append_drop]
  rw [e]
  exact jx xY iB
theorem aaH {m c:Nat} {e:TypeId} {T:Ty} (ih:UT enc P W base sp held m e T) (hc:c=T.size):∀(k o:Nat) (cs:List Value) (xs:List (DataW H × List MemPlace)),
  (List.range' o k).mapM (λi=>DataW.trod enc P W base sp held m e ((cs.drop (i*c)).take c))=some xs->cs.length=(o+k)*c ->
  ∃y:(xr T k).u7,(xr T k).wf y/\ez (jH W) ((xr T k).cells y) (cs.drop (o*c))
 | 0,o,cs,xs,_,hl=>by
  refine ⟨(),trivial,?_⟩
  have:cs.drop (o*c)=[]:=by simp;rw [hl];simp
  rw [this];simp [xr,Ty.cells,a_]
 | k+1,o,cs,xs,hm,hl=>by
  rw [List.range'_succ,Je] at hm
  simp only [bind,Sd,pure,uE] at hm
  obtain ⟨a,ha,as,has,rfl⟩:=hm
  obtain ⟨y,fA,ja,xY⟩:=ih _ _ ha
  obtain ⟨z,iL,iB⟩:=aaH ih hc k (o+1) cs as has (by rw [hl];congr 1;omega)
  refine ⟨(y,z),⟨fA,iL⟩,?_⟩
  have e:cs.drop (o*c)=(cs.drop (o*c)).take c++cs.drop ((o+1)*c):=by
   rw [show (o+1)*c=o*c+c by rw [Nat.add_mul];omega,<-List.drop_drop,List.take_append_drop]
  rw [e]
  exact jx xY iB
theorem Ty.abL (T:Ty):∀k,(xr T k).size=k*T.size
 | 0=>by simp [xr,Ty.size]
 | k+1=>by simp only [xr,Ty.size];rw [Ty.abL T k,Nat.add_mul];omega
theorem opens:∀(n:Nat) (t:TypeId) (T:Ty),xC P n t=some T->∀m,UT enc P W base sp held m t T
 | 0,t,T,h,_=>by cases h
 | n+1,t,T,h,0=>by
  intro cs x hx
  simp [DataW.trod] at hx
 | n+1,t,T,h,m+1=>by
  intro cs x hx
  unfold xC at h
  split at h
  ·rename_i k hk
   simp at h;subst h
   obtain ⟨z,rfl,_,hw⟩:=DataW.trod_int hk hx
   exact ⟨z,by simpa [Ty.wf,Lit.wf] using hw,rfl,by simp [Ty.cells,a_,rel]⟩
  ·rename_i hk
   simp at h;subst h
   obtain ⟨z,rfl,_⟩:=DataW.trod_bool hk hx
   exact ⟨z,trivial,rfl,by simp [Ty.cells,a_,rel]⟩
  ·rename_i hk
   simp at h;subst h
   obtain ⟨z,rfl,_,hw⟩:=DataW.trod_string hk hx
   exact ⟨z,hw,rfl,by simp [Ty.cells,a_,rel]⟩
  ·rename_i e hk
   split at h<;>try (cases h;done)
   rename_i E hE
   split at h<;>try (cases h;done)
   rename_i hc
   simp at h;subst h
   simp only [ei,PE,Gj] at hc
   obtain ⟨hc,xu⟩:=hc
   have lf:∀x:E.u7,dm (E.cells x):=E.lf
   rcases DataW.trod_slice hk hx with ⟨rfl,_⟩|⟨a,len,cap,elems,rest,k,_,rfl,_,hb,hle,hm,hlen,hel,_⟩
   ·refine ⟨[],⟨cJ _,by simp⟩,rfl,?_⟩
    simp only [Ty.cells,a_,rel]
    exact ⟨_,[],rfl,⟨⟨none,0,rfl,by simp,.inl trivial⟩,lf⟩,rfl⟩
   ·obtain ⟨ys,fA,ja⟩:=Zv (p:=λi (y:E.u7)=>E.wf y/\∃us,W.cells? base (a.add (i*E.size)) E.size=some us/\us.length=E.size/\ez (jH W) (E.cells y) us) len (λi hi=>by
     have h1:=hel i hi
     rw [eh (by omega),hc] at h1
     rw [Sd] at h1
     obtain ⟨us,h2,h3⟩:=h1
     obtain ⟨y,h4,h5,h6⟩:=opens n e E hE k us _ h3
     exact ⟨y,h4,us,h2,h5,h6⟩)
    refine ⟨ys,⟨by omega,λx hx=>?_⟩,rfl,?_⟩
    ·obtain ⟨i,hi⟩:=na hx
     exact (ja i x hi).1
    ·simp only [Ty.cells,a_,rel]
     refine ⟨_,[],rfl,⟨⟨some a,cap,by rw [fA],by rw [fA];exact hle,?_⟩,lf⟩,rfl⟩
     by_cases hz:ys=[]
     ·exact .inl hz
     right
     have h0:0 < ys.length:=by cases ys with|nil=>exact absurd rfl hz|cons=>simp
     have iw:a.spot=none:=by
      obtain ⟨_,us,h1,h2,_⟩:=ja 0 _ (eh h0)
      have h3:=(World.cells?_some h1).2.2 0 xu
      rw [Nat.zero_mul] at h3
      have pO:W.cell? ((a.add 0).add 0)=some us[0]:=by rw [h3,eh (by omega)]
      unfold World.cell? at pO
      split at pO
      ·cases a with
       | mk b o s=>cases s<;>simp_all [Addr.add]
      ·cases pO
     refine ⟨a,rfl,iw,λj x hx=>?_⟩
     obtain ⟨_,us,h1,h2,h3⟩:=ja j x hx
     refine ⟨us,h2,h3,λi u hu=>?_⟩
     have hi:i < E.size:=by rw [<-h2];exact (bX.1 hu).1
     have h4:=(World.cells?_some h1).2.2 i hi
     rw [hu,qR _ iw,uG] at h4
     exact ak8 h4
  ·rename_i fs hk
   split at h<;>try (cases h;done)
   rename_i U hU
   split at h<;>try (cases h;done)
   rename_i hc
   simp at h;subst h
   simp only [PE] at hc
   rw [DataW.trod_step] at hx
   unfold DataW.trodStep at hx
   simp only [hk] at hx
   split at hx<;>try (cases hx;done)
   rename_i hl
   simp only [aaj] at hx
   obtain ⟨xs,hx,_⟩:=hx
   obtain ⟨y,h1,h2⟩:=Zw (λt T hT=>opens n t T hT m) fs.toList 0 U cs xs hU hx (by omega)
   exact ⟨y,h1,by omega,by simpa using h2⟩
  ·rename_i k e hk
   split at h<;>try (cases h;done)
   rename_i E hE
   split at h<;>try (cases h;done)
   rename_i hc
   simp at h;subst h
   simp only [ei,PE] at hc
   rw [DataW.trod_step] at hx
   unfold DataW.trodStep at hx
   simp only [hk] at hx
   split at hx<;>try (cases hx;done)
   rename_i hl
   simp only [aaj] at hx
   obtain ⟨xs,hx,_⟩:=hx
   rw [hc.1,List.range_eq_range'] at hx
   obtain ⟨y,h1,h2⟩:=aaH (opens n e E hE m) rfl k 0 cs xs hx (by rw [hl,hc.2];simp)
   exact ⟨y,h1,by rw [Ty.abL];omega,by simpa using h2⟩
  ·cases h
theorem acH {n:Nat} {t:TypeId} {T:Ty} (hT:xC P n t=some T) {r:Reach} {b0:Nat} {v:Value} {d:DataW H} {ps:List MemPlace} (vY:Value.okWide P W r b0 t v) (hd:DataW.Trod enc P W base sp held t v d ps) :
  ∃y:T.u7,T.wf y/\ez (jH W) [T.arg y] [v]:=by
 obtain ⟨fuel,hf⟩:=hd
 obtain ⟨y,h1,h2,h3⟩:=opens n t T hT fuel _ _ hf
 refine ⟨y,h1,?_⟩
 have agg:∀cs:Array Value,v=.agg cs->ez (jH W) [SV.agg (T.cells y)] [v]:=by
  rintro cs rfl
  simp only [a_,rel]
  exact ⟨_,[],rfl,⟨cs.toList,rfl,h3⟩,rfl⟩
 have one:(∀cs:Array Value,v≠.agg cs)->ez (jH W) (T.cells y) [v]:=by
  intro hn
  have:v.cells.toList=[v]:=by
   cases v<;>try rfl
   rename_i cs;exact absurd rfl (hn cs)
  rw [this] at h3;exact h3
 cases n with
 | zero=>cases hT
 | succ n =>
  unfold xC at hT
  split at hT
  ·rename_i k hk
   simp at hT;subst hT
   obtain ⟨z,rfl⟩:=okWide_int hk vY
   exact one (by simp)
  ·rename_i hk
   simp at hT;subst hT
   obtain ⟨z,rfl⟩:=okWide_bool hk vY
   exact one (by simp)
  ·rename_i hk
   simp at hT;subst hT
   obtain ⟨z,rfl⟩:=okWide_string hk vY
   exact one (by simp)
  ·rename_i e hk
   split at hT<;>try (cases hT;done)
   split at hT<;>try (cases hT;done)
   simp at hT;subst hT
   obtain ⟨a,len,cap,rfl⟩:=okWide_slice hk vY
   exact one (by simp)
  ·rename_i fs hk
   have VU:∃cs,v=.agg cs:=by
    simp only [Value.okWide,hk] at vY
    obtain ⟨cs,h,_⟩:=vY
    exact ⟨cs,h⟩
   obtain ⟨cs,k8⟩:=VU
   split at hT<;>try (cases hT;done)
   rename_i U hU
   split at hT<;>try (cases hT;done)
   simp at hT;subst hT
   have:U.arg y=.agg (U.cells y):=by
    generalize fs.toList=l at hU
    cases l with
    | nil=>simp [DV] at hU;subst hU;rfl
    | cons f r =>
     unfold DV at hU
     split at hU<;>try (cases hU;done)
     split at hU<;>try (cases hU;done)
     split at hU<;>try (cases hU;done)
     simp at hU;subst hU;rfl
   rw [this]
   exact agg cs k8
  ·rename_i k e hk
   have VU:∃cs,v=.agg cs:=by
    simp only [Value.okWide,hk] at vY
    obtain ⟨cs,h,_⟩:=vY
    exact ⟨cs,h⟩
   obtain ⟨cs,k8⟩:=VU
   split at hT<;>try (cases hT;done)
   split at hT<;>try (cases hT;done)
   simp at hT;subst hT
   rename_i E _ _ _
   have:(xr E k).arg y=.agg ((xr E k).cells y):=by
    cases k<;>rfl
   rw [this]
   exact agg cs k8
  ·cases hT
end
theorem aU {p:Prop} (h:p:=by ((try simp only [Go.Vc.agf] at *);omega)):p:=h
theorem oo0 {p:Prop} (h:p:=by omega):p:=h
theorem dv {p:Prop} (h:p:=by (((repeat' first|exact dT.nil|exact Le.refl _|refine dT.cons ?_ ?_|exact Le.ic rfl|exact Le.bc rfl|exact Le.i rfl|exact Le.b rfl|exact Le.sl rfl|exact Le.mp rfl|exact Le.im rfl|exact Le.rO rfl|refine Le.di rfl (λ_=>?_)|refine Le.eH rfl (λ_ _=>rfl) (λ_=>?_) ?_|refine Le.agg ?_|refine Le.dE ?_|refine Le.fn ?_ ?_|refine Le.dC ?_|exact trivial|refine And.intro ?_ ?_|refine λ_=>?_|exact Le.any _))<;>(first|exact Le.i bj|exact Le.i lE|exact Le.i zk|exact Le.i H9|exact Le.i qi5|exact Le.i qi6|exact Le.i qi7|exact Le.sl dG|exact Le.sl pe|exact Le.sl xZ|exact Le.sl x3|exact Le.sl XC|exact Le.sl qs6|exact Le.sl qs7|exact cY.map g_|exact cY.map zm|exact cY.map qm3|exact cY.map qm4|exact cY.map qm5|exact cY.map qm6|exact cY.map qm7|exact cY.dyn jW|exact cY.dyn k_|exact cY.dyn tY|exact cY.dyn qd4|exact cY.dyn qd5|exact cY.dyn qd6|exact cY.dyn qd7|exact Le.ic nY|exact Le.ic H_|exact Le.ic XD|exact Le.ic XE|exact Le.ic qc5|exact Le.ic qc6|exact Le.ic qc7|exact Le.bc Ia|exact Le.bc XF|exact Le.bc qv3|exact Le.bc qv4|exact Le.bc qv5|exact Le.bc qv6|exact Le.bc qv7|exact Le.b jN|exact Le.b mB|exact Le.b qb3|exact Le.b qb4|exact Le.b qb5|exact Le.b qb6|exact Le.b qb7|exact Le.str LI|exact Le.str XG|exact Le.str qt3|exact Le.str qt4|exact Le.str qt5|exact Le.str qt6|exact Le.str qt7|exact Le.mp XH|exact Le.mp qp2|exact Le.mp qp3|exact Le.mp qp4|exact Le.mp qp5|exact Le.mp qp6|exact Le.mp qp7|exact dM|exact kq|exact oF|exact A5|exact qx5|exact qx6|exact qx7|exact OZ 2 A6|exact cY.map rfl|exact cY.dyn rfl|exact cY.iter rfl rfl (.inl rfl)|exact Le.i rfl|exact Le.sl rfl|exact Le.ic rfl|exact Le.i hL|exact Le.i hL.symm))):p:=h
theorem bH {p:Prop} (h:p:=by (((try cbv)<;>(repeat' (first|with_reducible exact trivial|with_reducible refine And.intro ?_ ?_))<;>(try first|exact cY.refl _|exact cY.dyn rfl|exact cY.map rfl|exact cY.iter rfl rfl (.inl rfl)|exact cY.iter rfl rfl (.inr rfl)|refine cY.fix ?_|refine cY.dyn ?_)<;>((repeat' first|exact dT.nil|exact Le.refl _|refine dT.cons ?_ ?_|exact Le.ic rfl|exact Le.bc rfl|exact Le.i rfl|exact Le.b rfl|exact Le.sl rfl|exact Le.mp rfl|exact Le.im rfl|exact Le.rO rfl|refine Le.di rfl (λ_=>?_)|refine Le.eH rfl (λ_ _=>rfl) (λ_=>?_) ?_|refine Le.agg ?_|refine Le.dE ?_|refine Le.fn ?_ ?_|refine Le.dC ?_|exact trivial|refine And.intro ?_ ?_|refine λ_=>?_|exact Le.any _)))<;>(first|exact Le.i bj|exact Le.i lE|exact Le.i zk|exact Le.i H9|exact Le.i qi5|exact Le.i qi6|exact Le.i qi7|exact Le.sl dG|exact Le.sl pe|exact Le.sl xZ|exact Le.sl x3|exact Le.sl XC|exact Le.sl qs6|exact Le.sl qs7|exact cY.map g_|exact cY.map zm|exact cY.map qm3|exact cY.map qm4|exact cY.map qm5|exact cY.map qm6|exact cY.map qm7|exact cY.dyn jW|exact cY.dyn k_|exact cY.dyn tY|exact cY.dyn qd4|exact cY.dyn qd5|exact cY.dyn qd6|exact cY.dyn qd7|exact Le.ic nY|exact Le.ic H_|exact Le.ic XD|exact Le.ic XE|exact Le.ic qc5|exact Le.ic qc6|exact Le.ic qc7|exact Le.bc Ia|exact Le.bc XF|exact Le.bc qv3|exact Le.bc qv4|exact Le.bc qv5|exact Le.bc qv6|exact Le.bc qv7|exact Le.b jN|exact Le.b mB|exact Le.b qb3|exact Le.b qb4|exact Le.b qb5|exact Le.b qb6|exact Le.b qb7|exact Le.str LI|exact Le.str XG|exact Le.str qt3|exact Le.str qt4|exact Le.str qt5|exact Le.str qt6|exact Le.str qt7|exact Le.mp XH|exact Le.mp qp2|exact Le.mp qp3|exact Le.mp qp4|exact Le.mp qp5|exact Le.mp qp6|exact Le.mp qp7|exact dM|exact kq|exact oF|exact A5|exact qx5|exact qx6|exact qx7|exact OZ 2 A6|exact cY.map rfl|exact cY.dyn rfl|exact cY.iter rfl rfl (.inl rfl)|exact Le.i rfl|exact Le.sl rfl|exact Le.ic rfl|exact Le.i hL|exact Le.i hL.symm))):p:=h
theorem cN {p:Prop} (h:p:=by (((try cbv)<;>((repeat' first|exact dT.nil|exact Le.refl _|refine dT.cons ?_ ?_|exact Le.ic rfl|exact Le.bc rfl|exact Le.i rfl|exact Le.b rfl|exact Le.sl rfl|exact Le.mp rfl|exact Le.im rfl|exact Le.rO rfl|refine Le.di rfl (λ_=>?_)|refine Le.eH rfl (λ_ _=>rfl) (λ_=>?_) ?_|refine Le.agg ?_|refine Le.dE ?_|refine Le.fn ?_ ?_|refine Le.dC ?_|exact trivial|refine And.intro ?_ ?_|refine λ_=>?_|exact Le.any _)))<;>(first|exact Le.i bj|exact Le.i lE|exact Le.i zk|exact Le.i H9|exact Le.i qi5|exact Le.i qi6|exact Le.i qi7|exact Le.sl dG|exact Le.sl pe|exact Le.sl xZ|exact Le.sl x3|exact Le.sl XC|exact Le.sl qs6|exact Le.sl qs7|exact cY.map g_|exact cY.map zm|exact cY.map qm3|exact cY.map qm4|exact cY.map qm5|exact cY.map qm6|exact cY.map qm7|exact cY.dyn jW|exact cY.dyn k_|exact cY.dyn tY|exact cY.dyn qd4|exact cY.dyn qd5|exact cY.dyn qd6|exact cY.dyn qd7|exact Le.ic nY|exact Le.ic H_|exact Le.ic XD|exact Le.ic XE|exact Le.ic qc5|exact Le.ic qc6|exact Le.ic qc7|exact Le.bc Ia|exact Le.bc XF|exact Le.bc qv3|exact Le.bc qv4|exact Le.bc qv5|exact Le.bc qv6|exact Le.bc qv7|exact Le.b jN|exact Le.b mB|exact Le.b qb3|exact Le.b qb4|exact Le.b qb5|exact Le.b qb6|exact Le.b qb7|exact Le.str LI|exact Le.str XG|exact Le.str qt3|exact Le.str qt4|exact Le.str qt5|exact Le.str qt6|exact Le.str qt7|exact Le.mp XH|exact Le.mp qp2|exact Le.mp qp3|exact Le.mp qp4|exact Le.mp qp5|exact Le.mp qp6|exact Le.mp qp7|exact dM|exact kq|exact oF|exact A5|exact qx5|exact qx6|exact qx7|exact OZ 2 A6|exact cY.map rfl|exact cY.dyn rfl|exact cY.iter rfl rfl (.inl rfl)|exact Le.i rfl|exact Le.sl rfl|exact Le.ic rfl|exact Le.i hL|exact Le.i hL.symm))):p:=h
theorem hS:(∀{a b:Int},cR a b=decide (a<=b))/\(∀{a b:Int},aS a b=decide (a < b))/\(∀{a b:Int},aV a b=(a == b)) /\
  (∀{n:Int},-9223372036854775808<=n->n<=9223372036854775807->IntKind.i64.wrap n=n)/\(∀{a b:Int},((a == b)=true)=(a=b))/\(∀{p:Prop} [Decidable p],(decide p=true)=p) /\
  (∀{p:Prop} [Decidable p],(decide p=false)=¬p)/\(∀{a:Bool},((!a)=true)=(a=false))/\(∀{a b:Int},((a == b)=false)=(a≠b))/\(∀{α:Type} {a b:α},(a≠b)=¬(a=b)) /\
  (∀{a b:Bool},((a&&b)=true)=(a=true/\b=true))/\(∀{a b:Bool},((a||b)=true)=(a=true\/b=true))/\(∀{α:Type} {a b:α},(if True then a else b)=a)/\(∀{α:Type} {a b:α},(if False then a else b)=b) /\
  (∀{a:Bool},(¬(a=true))=(a=false))/\((false=true)=False)/\((true=false)=False)/\(∀{a:Bool},(¬(a=false))=(a=true)):=by
 refine ⟨rfl,rfl,rfl,cz,?_,?_,?_,?_,?_,rfl,?_,?_,?_,?_,?_,?_,?_,?_⟩<;>intros<;>simp
theorem ltT {a b:Nat} (h:aS a b=true):a < b:=by simpa [aS] using h
theorem asn {a b:Int} (h:aS a b=true):a < b:=by simpa [aS] using h
theorem ltF {a b:Nat} (h:aS a b=false):b<=a:=by simpa [aS] using h
theorem agh {a b:Int} (h:aS a b=false):b<=a:=by simpa [aS] using h
theorem aso {a b:Int} (h:cR a b=true):a<=b:=by simpa [cR] using h
theorem agi {a b:Int} (h:cR a b=false):b < a:=by simpa [cR] using h
theorem eqT {a b:Int} (h:aV a b=true):a=b:=by simpa [aV] using h
theorem eqF {a b:Int} (h:aV a b=false):¬a=b:=by simpa [aV] using h
theorem neT {a b:Int} (h:(!aV a b)=true):¬a=b:=by simpa [aV] using h
theorem neF {a b:Int} (h:(!aV a b)=false):a=b:=by simpa [aV] using h
theorem bE {p:Prop} (g:p:=by first|exact asn h.out|exact ltT h.out|exact eqF h.out|exact eqT h.out|exact agh h.out|exact Int.not_lt.2 (agh h.out)|exact aso h.out|exact agi h.out|exact Int.not_le.2 (agi h.out)|exact neT h.out|exact neF h.out|(have h':=h.out;simp only [hS] at h';simp only [Go.Vc.agf] at *;omega)|(have h':=h.out;simpa [aS,cR,aV] using h')):p:=g
theorem cI {x:Unit->Bool} {A B:Prop} (b:B) (h:¬x ()=true:=by simp [aV,Expr.op]):(AT x->A)/\(AU x->B):=⟨λt=>absurd t.out h,λ_=>b⟩
theorem so {x:Unit->Bool} {A B:Prop} (a:A) (h:¬x ()=false:=by simp [aV,Expr.op]):(AT x->A)/\(AU x->B):=⟨λ_=>a,λt=>absurd t.out h⟩
@[reducible] def XI (T:TypeId->Option TI) (E:TypeId->Option iZ) (fs:List (Nat × Func)) (sp:List (Nat × Spec)) (io lp cut row emp:List Nat):Ctx :=
 { tt:=T,el:=E,sp:=λf=>u6 sp (id f),inl:=λf=>u6 fs (id f),io:=λf=>gF f io,lp:=λf=>gF f lp,cut:=λf=>gF f cut,row:=λt=>gF t row,emp:=λt=>gF t emp }
def CB (PP:Unit->Program) (X:Ctx):Prop:=X.Ok (PP ())/\oX X
theorem aeQ {PP:Unit->Program} {T:TypeId->Option TI} {E:TypeId->Option iZ} {fs:List (Nat × Func)} {sp:List (Nat × Spec)} {io lp cut row emp:List Nat} (ht:∀t i,T t=some i->oZ (PP ()) t i)
 (he:∀X:Ctx,X.tt=T->∀t e,E t=some e->J7 (PP ()) X t e) (hm:(PP ()).follows .mixedOrders=true) (hf:CU (λf fn=>nP (PP ()) f fn/\pJ fn=true) fs) (hs:CU (λf S=>cS (PP ()) f S) sp) :
 CB PP (XI T E fs sp io lp cut row emp):=⟨⟨ht,he _ rfl,NZ hs,λf fn h=>(NZ hf f fn h).1,hm⟩,λf fn h=>(NZ hf f fn h).2⟩
theorem fo {P : Program} {f : FuncId} {fn : Func} (h : P.funcs[f]? = some fn) (hb : (fn.body.isSome && !(fn.name == "runtime.NumGoroutine")) = true := by kernel_rfl) (hc : pJ fn = true := by kernel_rfl) : nP P f fn /\ pJ fn = true := ⟨TN h hb, hc⟩
section
variable {PP:Unit->Program} {X:Ctx} {fid:FuncId} {fn:Func}
theorem dP (B:CB PP X) (F:nP (PP ()) fid fn/\pJ fn=true) {S:Spec} (dn:∀a,dm (S.args a)) (iX:∀a,LF (S.res a)) (h0:∀a,S.pre a->aga PP X 2 fn (S.args a) (S.res a)) (nX:S.fr=false:=by rfl):cS (PP ()) fid S :=
 alG B.1 B.2 F.1 F.2 dn iX h0 nX
theorem Ov (B:CB PP X) (F:nP (PP ()) fid fn/\pJ fn=true) {S:Spec} (dn:∀a,dm (S.args a)) (iX:∀a,LF (S.res a)) (h0:∀a,S.pre a->aeP PP X 2 fn (S.args a) (S.res a)):cS (PP ()) fid S :=
 alk B.1 B.2 F.1 F.2 dn iX h0
theorem iI (B:CB PP X) (F:nP (PP ()) fid fn/\pJ fn=true) {S:fJ} (dn:∀a,dm (S.args a)) (iX:∀a y,LF (S.res a y)) (h0:∀a,S.pre a->aeO PP X 2 fn S a):eI PP fid S :=
 alj B.1 B.2 F.1 F.2 dn iX h0
theorem mA (B:CB PP X) (F:nP (PP ()) fid fn/\pJ fn=true) {Sp:mP} (hw:∀a y,Qv Sp.mv (Sp.io a) (Sp.j8 a y)=true) (hm:∀a,EV Sp.mv 0 (Sp.io a)=true/\tX (Sp.io a).length Sp.mv=true) (LH:Sp.mv.Nodup)
 (h0:∀a,Sp.pre a->age PP X 2 fn Sp a):iC PP fid Sp:=am4 B.1 B.2 F.1 F.2 hw hm LH h0
variable {S:List SV} {r:Bool} {s:St} {body:Code} {k:Exit->St->Prop}
theorem Sat.tZ (B:CB PP X) (h:xV S r PP X 2 body s k) (hc:codeOk body=true:=by kernel_rfl):Sat S r PP body s k:=Sat.go B.1 B.2 hc h
theorem Sat.GM (B:CB PP X) (n:Nat) (h:TK S r PP X 2 body n s k) (hc:codeOk body=true:=by kernel_rfl):Sat S r PP (.loop body) s k:=Sat.rounds B.1 B.2 hc n h
theorem Sat.azo (B:CB PP X) {α:Type} (n:Nat) (own:List (Place × Nat)) (I:α->St) (J:α->Prop) (μ:α->Nat) (x0:α) (h0:qH (s.cut n).t (I x0).t) (pT:nA (s.cut n).b (I x0).b) (hJ:J x0)
 (hr:∀x,J x->xV S r PP X 2 body (I x) (Ou S n own I J μ x k)) (hc:codeOk body=true:=by kernel_rfl) (hn:mS (Nat.ble n) S=false:=by rfl):Sat S r PP (.loop body) s k:=Sat.loop B.1 B.2 hc n own I J μ x0 h0 pT hJ hr hn
theorem Sat.ca (B:CB PP X) {α:Type} (n m:Nat) (own:List (Place × Nat)) (ut:α->List (Nat × SV)) (ub:α->List (Nat × Slot)) (J:α->Prop) (μ:α->Nat) (x0:α)
  (h0:qH (s.cut n).t (s.patch n m (ut x0) (ub x0)).t) (pT:nA (s.cut n).b (s.patch n m (ut x0) (ub x0)).b) (hJ:J x0)
  (hr:∀x,J x->xV S r PP X 2 body (s.patch n m (ut x) (ub x)) (Ou S n own (λx=>s.patch n m (ut x) (ub x)) J μ x k)) (hc:codeOk body=true:=by kernel_rfl) (hn:mS (Nat.ble n) S=false:=by rfl):Sat S r PP (.loop body) s k :=
 Sat.aqy B.1 B.2 hc n m own ut ub J μ x0 h0 pT hJ hr hn
end
end Go.Vc
