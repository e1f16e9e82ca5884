import Derived.Test.YthnhbemmlfaihaaGreatT19
import Derived.WalkKit
import Derived.Test.YthnhbemmlfaihaaGreatProg
set_option linter.unusedVariables false
set_option linter.unusedSimpArgs false
set_option maxRecDepth 10000
set_option maxHeartbeats 64000000
namespace Go.Proofs.Pk
open Go Go.Vc
structure bT where
 kind:Int
 i:Int
 bit:Int
 deriving DecidableEq
structure Gate where
 op:Int
 a:Int
 b:Int
 c:Int
 n:Int
 deriving DecidableEq
structure Cell where
 ins:List Int
 table:Int
 bZ:Int
structure Block where
 ins:List Int
 table:Int
 bZ:Int
 bf:Int
 key:Int
structure Net where
 ins:List bT
 gG:List Gate
 outs:List bT
 ay:List Int
structure gE where
 n:Int
 cells:List Cell
 ay:List Int
structure bq where
 ins:List bT
 blocks:List Block
 outs:List bT
 ay:List Int
inductive Expr where
 | mk (op k w:Int) (args:List Expr)
def Expr.op:Expr->Int|.mk o _ _ _=>o
def Expr.k:Expr->Int|.mk _ k _ _=>k
def Expr.w:Expr->Int|.mk _ _ w _=>w
def Expr.args:Expr->List Expr|.mk _ _ _ l=>l
structure nq where
 kind:Int
 src:ByteArray
 n:Int
structure s4 where
 name:ByteArray
 w:Int
 init:Int
 next:Expr
 sM:nq
structure Mem where
 name:ByteArray
 w:Int
 words:Int
 en:Expr
 ad:Expr
 da:Expr
 sM:nq
structure Take where
 chan:Int
 w:Int
 cond:Expr
structure rC where
 chan:Int
 w:Int
 cond:Expr
 data:Expr
structure ry where
 name:ByteArray
 clock:ByteArray
 aN:List s4
 bd:List Mem
 aZ:List Take
 dX:List rC
structure Head where
 has:Bool
 v:Int
structure js where
 aN:List Int
 bd:List (List Int)
structure Source where
 kind:Int
 n:Int
 deriving DecidableEq
structure Part where
 ins:List Source
 table:Int
 bZ:Int
 bf:Int
noncomputable def PP:Unit->Program:=λ_=>Tryz.prog
abbrev I0:Value:=.int .i64 0
abbrev U0:Value:=.int .u64 0
abbrev Y0:Value:=.int .u8 0
abbrev N0:Value:=.slice none 0 0
abbrev S0:Value:=.string ByteArray.empty
abbrev B0:Value:=.bool false
abbrev M0:Value:=.map none
@[reducible] def ti (d:TD) (s b:Nat) (z:Value):TI:={ d:=d,size:=s,bytes:=b,zero:=z }
@[reducible] def tF (d:TD) (s b:Nat) (z:Value) (k:Option (List IntKind)):TI:={ d:=d,size:=s,bytes:=b,zero:=z,flat:=true,kd:=k }
@[reducible] def tS (e:TypeId):TI:={ d:=.sl e,size:=1,bytes:=24,zero:=.slice none 0 0 }
def tt:TypeId->Option TI
 | 3=>some (ti (.int .i64) 1 8 I0)
 | 4=>some (ti (.bool) 1 1 B0)
 | 5=>some (ti (.int .u8) 1 1 Y0)
 | 9=>some (ti (.str) 1 16 S0)
 | 22=>some (tS 5)
 | 23=>some (ti (.st [(22,0,1)]) 1 24 (.agg #[N0]))
 | 24=>some (ti (.st [(22,0,1)]) 1 24 (.agg #[N0]))
 | 25=>some (ti (.st [(24,0,1),(22,1,1),(22,2,1),(22,3,1)]) 4 96 (.agg #[N0,N0,N0,N0]))
 | 26=>some (ti (.st [(24,0,1),(22,1,1),(22,2,1),(22,3,1)]) 4 96 (.agg #[N0,N0,N0,N0]))
 | 28=>some (tS 159)
 | 29=>some (tS 163)
 | 30=>some (tS 154)
 | 31=>some (tS 161)
 | 32=>some (ti (.st [(9,0,1),(9,1,1),(28,2,1),(29,3,1),(30,4,1),(31,5,1)]) 6 128 (.agg #[S0,S0,N0,N0,N0,N0]))
 | 33=>some (ti (.st [(9,0,1),(9,1,1),(28,2,1),(29,3,1),(30,4,1),(31,5,1)]) 6 128 (.agg #[S0,S0,N0,N0,N0,N0]))
 | 35=>some (tS 3)
 | 36=>some (tS 35)
 | 37=>some (ti (.st [(35,0,1),(36,1,1)]) 2 48 (.agg #[N0,N0]))
 | 38=>some (ti (.st [(35,0,1),(36,1,1)]) 2 48 (.agg #[N0,N0]))
 | 40=>some (tS 168)
 | 41=>some (tS 4)
 | 42=>some (ti (.st [(40,0,1),(41,1,1)]) 2 48 (.agg #[N0,N0]))
 | 43=>some (ti (.st [(40,0,1),(41,1,1)]) 2 48 (.agg #[N0,N0]))
 | 45=>some (tS 133)
 | 46=>some (tS 118)
 | 47=>some (ti (.st [(45,0,1),(46,1,1),(45,2,1),(35,3,1)]) 4 96 (.agg #[N0,N0,N0,N0]))
 | 48=>some (ti (.st [(45,0,1),(46,1,1),(45,2,1),(35,3,1)]) 4 96 (.agg #[N0,N0,N0,N0]))
 | 49=>some (tS 135)
 | 50=>some (ti (.st [(3,0,1),(49,1,1),(35,2,1)]) 3 56 (.agg #[I0,N0,N0]))
 | 51=>some (ti (.st [(3,0,1),(49,1,1),(35,2,1)]) 3 56 (.agg #[I0,N0,N0]))
 | 52=>some (ti (.st [(48,0,4),(51,4,3),(4,7,1)]) 8 160 (.agg #[N0,N0,N0,N0,I0,N0,N0,B0]))
 | 53=>some (ti (.st [(48,0,4),(51,4,3),(4,7,1)]) 8 160 (.agg #[N0,N0,N0,N0,I0,N0,N0,B0]))
 | 55=>some (tS 76)
 | 56=>some (ti (.st [(45,0,1),(55,1,1),(45,2,1),(35,3,1)]) 4 96 (.agg #[N0,N0,N0,N0]))
 | 57=>some (ti (.st [(45,0,1),(55,1,1),(45,2,1),(35,3,1)]) 4 96 (.agg #[N0,N0,N0,N0]))
 | 58=>some (ti (.int .i64) 1 8 I0)
 | 59=>some (ti (.st [(57,0,4),(58,4,1)]) 5 104 (.agg #[N0,N0,N0,N0,I0]))
 | 60=>some (ti (.st [(57,0,4),(58,4,1)]) 5 104 (.agg #[N0,N0,N0,N0,I0]))
 | 66=>some (ti (.st [(4,0,1),(38,1,2),(41,3,1),(40,4,1)]) 5 104 (.agg #[B0,N0,N0,N0,N0]))
 | 67=>some (ti (.st [(4,0,1),(38,1,2),(41,3,1),(40,4,1)]) 5 104 (.agg #[B0,N0,N0,N0,N0]))
 | 72=>some (tS 74)
 | 74=>some (ti (.int .u64) 1 8 U0)
 | 75=>some (ti (.st [(35,0,1),(3,1,1),(3,2,1),(3,3,1),(74,4,1)]) 5 56 (.agg #[N0,I0,I0,I0,U0]))
 | 76=>some (ti (.st [(35,0,1),(3,1,1),(3,2,1),(3,3,1),(74,4,1)]) 5 56 (.agg #[N0,I0,I0,I0,U0]))
 | 78=>some (ti (.arr 3 5) 3 3 (.agg #[Y0,Y0,Y0]))
 | 91=>some (ti (.st [(35,0,1),(36,1,1)]) 2 48 (.agg #[N0,N0]))
 | 92=>some (ti (.st [(35,0,1),(36,1,1)]) 2 48 (.agg #[N0,N0]))
 | 93=>some (ti (.st [(51,0,3),(92,3,2),(58,5,1)]) 6 112 (.agg #[I0,N0,N0,N0,N0,I0]))
 | 94=>some (ti (.st [(51,0,3),(92,3,2),(58,5,1)]) 6 112 (.agg #[I0,N0,N0,N0,N0,I0]))
 | 96=>some (ti (.st [(35,0,1),(36,1,1),(58,2,1)]) 3 56 (.agg #[N0,N0,I0]))
 | 97=>some (ti (.st [(35,0,1),(36,1,1),(58,2,1)]) 3 56 (.agg #[N0,N0,I0]))
 | 113=>some (tS 36)
 | 117=>some (tF (.st [(3,0,1),(3,1,1),(3,2,1),(3,3,1),(3,4,1)]) 5 40 (.agg #[I0,I0,I0,I0,I0]) none)
 | 118=>some (tF (.st [(3,0,1),(3,1,1),(3,2,1),(3,3,1),(3,4,1)]) 5 40 (.agg #[I0,I0,I0,I0,I0]) none)
 | 129=>some (ti (.arr 2 3) 2 16 (.agg #[I0,I0]))
 | 132=>some (tF (.st [(3,0,1),(3,1,1),(3,2,1)]) 3 24 (.agg #[I0,I0,I0]) (some [.i64,.i64,.i64]))
 | 133=>some (tF (.st [(3,0,1),(3,1,1),(3,2,1)]) 3 24 (.agg #[I0,I0,I0]) (some [.i64,.i64,.i64]))
 | 134=>some (ti (.st [(35,0,1),(3,1,1),(3,2,1)]) 3 40 (.agg #[N0,I0,I0]))
 | 135=>some (ti (.st [(35,0,1),(3,1,1),(3,2,1)]) 3 40 (.agg #[N0,I0,I0]))
 | 139=>some (ti (.st [(35,0,1),(35,1,1),(29,2,1),(4,3,1)]) 4 80 (.agg #[N0,N0,N0,B0]))
 | 140=>some (ti (.st [(35,0,1),(35,1,1),(29,2,1),(4,3,1)]) 4 80 (.agg #[N0,N0,N0,B0]))
 | 141=>some (ti (.st [(22,0,1),(3,1,1)]) 2 32 (.agg #[N0,I0]))
 | 142=>some (ti (.st [(22,0,1),(3,1,1)]) 2 32 (.agg #[N0,I0]))
 | 145=>some (ti (.st [(3,0,1),(9,1,1)]) 2 24 (.agg #[I0,S0]))
 | 146=>some (ti (.st [(3,0,1),(9,1,1)]) 2 24 (.agg #[I0,S0]))
 | 147=>some (tS 149)
 | 148=>some (ti (.st [(3,0,1),(9,1,1),(146,2,2),(146,4,2),(147,6,1)]) 7 96 (.agg #[I0,S0,I0,S0,I0,S0,N0]))
 | 149=>some (ti (.st [(3,0,1),(9,1,1),(146,2,2),(146,4,2),(147,6,1)]) 7 96 (.agg #[I0,S0,I0,S0,I0,S0,N0]))
 | 150=>some (ti (.st [(149,0,7),(142,7,2)]) 9 128 (.agg #[I0,S0,I0,S0,I0,S0,N0,N0,I0]))
 | 151=>some (ti (.st [(149,0,7),(142,7,2)]) 9 128 (.agg #[I0,S0,I0,S0,I0,S0,N0,N0,I0]))
 | 153=>some (ti (.st [(3,0,1),(3,1,1),(149,2,7)]) 9 112 (.agg #[I0,I0,I0,S0,I0,S0,I0,S0,N0]))
 | 154=>some (ti (.st [(3,0,1),(3,1,1),(149,2,7)]) 9 112 (.agg #[I0,I0,I0,S0,I0,S0,I0,S0,N0]))
 | 156=>some (ti (.st [(3,0,1),(9,1,1),(3,2,1)]) 3 32 (.agg #[I0,S0,I0]))
 | 157=>some (ti (.st [(3,0,1),(9,1,1),(3,2,1)]) 3 32 (.agg #[I0,S0,I0]))
 | 158=>some (ti (.st [(9,0,1),(3,1,1),(3,2,1),(149,3,7),(157,10,3)]) 13 160 (.agg #[S0,I0,I0,I0,S0,I0,S0,I0,S0,N0,I0,S0,I0]))
 | 159=>some (ti (.st [(9,0,1),(3,1,1),(3,2,1),(149,3,7),(157,10,3)]) 13 160 (.agg #[S0,I0,I0,I0,S0,I0,S0,I0,S0,N0,I0,S0,I0]))
 | 160=>some (ti (.st [(3,0,1),(3,1,1),(149,2,7),(149,9,7)]) 16 208 (.agg #[I0,I0,I0,S0,I0,S0,I0,S0,N0,I0,S0,I0,S0,I0,S0,N0]))
 | 161=>some (ti (.st [(3,0,1),(3,1,1),(149,2,7),(149,9,7)]) 16 208 (.agg #[I0,I0,I0,S0,I0,S0,I0,S0,N0,I0,S0,I0,S0,I0,S0,N0]))
 | 162=>some (ti (.st [(9,0,1),(3,1,1),(3,2,1),(149,3,7),(149,10,7),(149,17,7),(157,24,3)]) 27 352 (.agg #[S0,I0,I0,I0,S0,I0,S0,I0,S0,N0,I0,S0,I0,S0,I0,S0,N0,I0,S0,I0,S0,I0,S0,N0,I0,S0,I0]))
 | 163=>some (ti (.st [(9,0,1),(3,1,1),(3,2,1),(149,3,7),(149,10,7),(149,17,7),(157,24,3)]) 27 352 (.agg #[S0,I0,I0,I0,S0,I0,S0,I0,S0,N0,I0,S0,I0,S0,I0,S0,N0,I0,S0,I0,S0,I0,S0,N0,I0,S0,I0]))
 | 165=>some (ti (.int .u64) 1 8 U0)
 | 167=>some (ti (.st [(4,0,1),(3,1,1)]) 2 16 (.agg #[B0,I0]))
 | 168=>some (ti (.st [(4,0,1),(3,1,1)]) 2 16 (.agg #[B0,I0]))
 | 169=>some (ti (.st [(48,0,4),(58,4,1)]) 5 104 (.agg #[N0,N0,N0,N0,I0]))
 | 170=>some (ti (.st [(48,0,4),(58,4,1)]) 5 104 (.agg #[N0,N0,N0,N0,I0]))
 | 178=>some (ti (.st [(57,0,4)]) 4 96 (.agg #[N0,N0,N0,N0]))
 | 179=>some (ti (.st [(57,0,4)]) 4 96 (.agg #[N0,N0,N0,N0]))
 | 184=>some (ti (.map 3 4) 1 8 M0)
 | 191=>some (ti (.map 74 3) 1 8 M0)
 | 192=>some (ti (.map 74 4) 1 8 M0)
 | 199=>some (ti (.int .u64) 1 8 U0)
 | 213=>some (ti (.st [(3,0,1),(35,1,1)]) 2 32 (.agg #[I0,N0]))
 | 214=>some (ti (.st [(3,0,1),(35,1,1)]) 2 32 (.agg #[I0,N0]))
 | 216=>some (ti (.map 3 3) 1 8 M0)
 | 244=>some (ti (.map 133 3) 1 8 M0)
 | 252=>some (ti (.arr 3 3) 3 24 (.agg #[I0,I0,I0]))
 | 256=>some (ti (.map 259 4) 1 8 M0)
 | 257=>some (ti (.map 259 3) 1 8 M0)
 | 258=>some (tF (.st [(3,0,1),(3,1,1)]) 2 16 (.agg #[I0,I0]) (some [.i64,.i64]))
 | 259=>some (tF (.st [(3,0,1),(3,1,1)]) 2 16 (.agg #[I0,I0]) (some [.i64,.i64]))
 | 274=>some (ti (.st [(3,0,1),(46,1,1)]) 2 32 (.agg #[I0,N0]))
 | 275=>some (ti (.st [(3,0,1),(46,1,1)]) 2 32 (.agg #[I0,N0]))
 | 276=>some (ti (.st [(275,0,2),(35,2,1),(35,3,1),(36,4,1),(3,5,1)]) 6 112 (.agg #[I0,N0,N0,N0,N0,I0]))
 | 277=>some (ti (.st [(275,0,2),(35,2,1),(35,3,1),(36,4,1),(3,5,1)]) 6 112 (.agg #[I0,N0,N0,N0,N0,I0]))
 | 279=>some (ti (.st [(33,0,6),(45,6,1),(36,7,1)]) 8 176 (.agg #[S0,S0,N0,N0,N0,N0,N0,N0]))
 | 280=>some (ti (.st [(33,0,6),(45,6,1),(36,7,1)]) 8 176 (.agg #[S0,S0,N0,N0,N0,N0,N0,N0]))
 | 281=>some (ti (.st [(275,0,2),(45,2,1),(35,3,1)]) 4 80 (.agg #[I0,N0,N0,N0]))
 | 282=>some (ti (.st [(275,0,2),(45,2,1),(35,3,1)]) 4 80 (.agg #[I0,N0,N0,N0]))
 | 284=>some (ti (.st [(275,0,2),(3,2,1)]) 3 40 (.agg #[I0,N0,I0]))
 | 285=>some (ti (.st [(275,0,2),(3,2,1)]) 3 40 (.agg #[I0,N0,I0]))
 | 288=>some (ti (.st [(275,0,2),(35,2,1)]) 3 56 (.agg #[I0,N0,N0]))
 | 289=>some (ti (.st [(275,0,2),(35,2,1)]) 3 56 (.agg #[I0,N0,N0]))
 | 294=>some (tS 307)
 | 295=>some (tS 302)
 | 296=>some (ti (.arr 2 4) 2 2 (.agg #[B0,B0]))
 | 297=>some (ti (.st [(48,0,4),(244,4,1),(294,5,1),(295,6,1),(296,7,2),(216,9,1)]) 10 168 (.agg #[N0,N0,N0,N0,M0,N0,N0,B0,B0,M0]))
 | 298=>some (ti (.st [(48,0,4),(244,4,1),(294,5,1),(295,6,1),(296,7,2),(216,9,1)]) 10 168 (.agg #[N0,N0,N0,N0,M0,N0,N0,B0,B0,M0]))
 | 301=>some (tF (.st [(3,0,1),(3,1,1)]) 2 16 (.agg #[I0,I0]) (some [.i64,.i64]))
 | 302=>some (tF (.st [(3,0,1),(3,1,1)]) 2 16 (.agg #[I0,I0]) (some [.i64,.i64]))
 | 304=>some (ti (.arr 2 302) 4 32 (.agg #[I0,I0,I0,I0]))
 | 306=>some (ti (.st [(295,0,1),(3,1,1),(3,2,1),(3,3,1)]) 4 48 (.agg #[N0,I0,I0,I0]))
 | 307=>some (ti (.st [(295,0,1),(3,1,1),(3,2,1),(3,3,1)]) 4 48 (.agg #[N0,I0,I0,I0]))
 | 308=>some (ti (.map 302 302) 1 8 M0)
 | 325=>some (ti (.st [(3,0,1),(58,1,1)]) 2 16 (.agg #[I0,I0]))
 | 326=>some (ti (.st [(3,0,1),(58,1,1)]) 2 16 (.agg #[I0,I0]))
 | 345=>some (tS 9)
 | 356=>some (ti (.map 133 4) 1 8 M0)
 | 361=>some (ti (.st [(35,0,1),(58,1,1)]) 2 32 (.agg #[N0,I0]))
 | 362=>some (ti (.st [(35,0,1),(58,1,1)]) 2 32 (.agg #[N0,I0]))
 | 365=>some (ti (.arr 3 4) 3 3 (.agg #[B0,B0,B0]))
 | _=>none
theorem tiN {t:TypeId} {i:TI} (h1:i.flat=false) (h2:i.kd=none) (hz:(Tryz.prog.info? t).map (·.zero)=some (some i.zero)) (hb:Xz Tryz.prog t i=true):oZ Tryz.prog t i :=
 acF hz hb (λh=>by rw [h1] at h;cases h) (λ_ h=>by rw [h2] at h;cases h)
theorem aeR:∀t i,tt t=some i->oZ Tryz.prog t i:=by
 intro t i h
 unfold tt at h
 split at h
 all_goals cases h
 all_goals first|exact tiN rfl rfl (by kernel_rfl) (by kernel_rfl)|skip
 all_goals refine acF (by kernel_rfl) (by kernel_rfl) (λ_=>⟨rfl,λvs us w _ _ h1 h2 op x y fa=>ali (by kernel_rfl) (by kernel_rfl) (by kernel_rfl) (by kernel_rfl) vs us w h1 h2 op x y fa⟩) (λks h=>?_)
 all_goals cases h
 all_goals exact alI (by kernel_rfl) (by kernel_rfl) (by kernel_rfl)
def bJ (x:Int):List SV:=[.i .i64 λ_=>x]
theorem cM (x:Int):dm (bJ x)/\(bJ x).all SV.one=true:=⟨⟨trivial,trivial⟩,rfl⟩
def nN:iZ:=⟨Int,bJ,0⟩
def iF (x:Int):List SV:=[.i .u8 λ_=>x]
theorem rN (x:Int):dm (iF x)/\(iF x).all SV.one=true:=⟨⟨trivial,trivial⟩,rfl⟩
def aeS:iZ:=⟨Int,iF,0⟩
def iU (x:Bool):List SV:=[.b λ_=>x]
theorem tu (x:Bool):dm (iU x)/\(iU x).all SV.one=true:=⟨⟨trivial,trivial⟩,rfl⟩
def TO:iZ:=⟨Bool,iU,false⟩
def mf (x:Int):List SV:=[.i .u64 λ_=>x]
theorem N1 (x:Int):dm (mf x)/\(mf x).all SV.one=true:=⟨⟨trivial,trivial⟩,rfl⟩
def adD:iZ:=⟨Int,mf,0⟩
def iV (x:List Int):List SV:=[.sl 1 bJ (λ_=>x)]
theorem pK (x:List Int):dm (iV x)/\(iV x).all SV.one=true:=⟨⟨λy=>(cM y).1,trivial⟩,rfl⟩
def TP:iZ:=⟨List Int,iV,[]⟩
def GZ (x:List (List Int)):List SV:=[.sl 1 iV (λ_=>x)]
theorem aaI (x:List (List Int)):dm (GZ x)/\(GZ x).all SV.one=true:=⟨⟨λy=>(pK y).1,trivial⟩,rfl⟩
def am7:iZ:=⟨List (List Int),GZ,[]⟩
def dc (x:bT):List SV:=[.i .i64 (λ_=>x.kind),.i .i64 (λ_=>x.i),.i .i64 (λ_=>x.bit)]
theorem gL (x:bT):dm (dc x)/\(dc x).all SV.one=true:=⟨⟨trivial,trivial,trivial,trivial⟩,rfl⟩
def GN:iZ:=⟨bT,dc,⟨0,0,0⟩⟩
def dB (x:Gate):List SV:=[.i .i64 (λ_=>x.op),.i .i64 (λ_=>x.a),.i .i64 (λ_=>x.b),.i .i64 (λ_=>x.c),.i .i64 (λ_=>x.n)]
theorem eK (x:Gate):dm (dB x)/\(dB x).all SV.one=true:=⟨⟨trivial,trivial,trivial,trivial,trivial,trivial⟩,rfl⟩
def acI:iZ:=⟨Gate,dB,⟨0,0,0,0,0⟩⟩
def rf (x:Cell):List SV:=[.sl 1 bJ (λ_=>x.ins),.i .i64 (λ_=>x.table),.i .i64 (λ_=>x.bZ)]
theorem Af (x:Cell):dm (rf x)/\(rf x).all SV.one=true:=⟨⟨λy=>(cM y).1,trivial,trivial,trivial⟩,rfl⟩
def acJ:iZ:=⟨Cell,rf,⟨[],0,0⟩⟩
def oe (x:Block):List SV:=[.sl 1 bJ (λ_=>x.ins),.i .i64 (λ_=>x.table),.i .i64 (λ_=>x.bZ),.i .i64 (λ_=>x.bf),.i .u64 (λ_=>x.key)]
theorem Jj (x:Block):dm (oe x)/\(oe x).all SV.one=true:=⟨⟨λy=>(cM y).1,trivial,trivial,trivial,trivial,trivial⟩,rfl⟩
def abM:iZ:=⟨Block,oe,⟨[],0,0,0,0⟩⟩
def EA (x:Head):List SV:=[.b (λ_=>x.has),.i .i64 (λ_=>x.v)]
theorem NI (x:Head):dm (EA x)/\(EA x).all SV.one=true:=⟨⟨trivial,trivial,trivial⟩,rfl⟩
def acK:iZ:=⟨Head,EA,⟨false,0⟩⟩
def PF (x:ByteArray):List SV:=[.str (λ_=>x)]
theorem aoe (x:ByteArray):dm (PF x)/\(PF x).all SV.one=true:=⟨⟨trivial,trivial⟩,rfl⟩
def adE:iZ:=⟨ByteArray,PF,ByteArray.empty⟩
def l7 (x:Source):List SV:=[.i .i64 (λ_=>x.kind),.i .i64 (λ_=>x.n)]
theorem yr (x:Source):dm (l7 x)/\(l7 x).all SV.one=true:=⟨⟨trivial,trivial,trivial⟩,rfl⟩
def NA:iZ:=⟨Source,l7,⟨0,0⟩⟩
def uJ (x:Part):List SV:=[.sl 2 l7 (λ_=>x.ins),.i .i64 (λ_=>x.table),.i .i64 (λ_=>x.bZ),.i .i64 (λ_=>x.bf)]
theorem NJ (x:Part):dm (uJ x)/\(uJ x).all SV.one=true:=⟨⟨λy=>(yr y).1,trivial,trivial,trivial,trivial⟩,rfl⟩
def acL:iZ:=⟨Part,uJ,⟨[],0,0,0⟩⟩
def es:ByteArray:=ByteArray.empty
def cA:Nat->Expr->SV
 | 0,_=>.di
 | n+1,x=>.sl 7 (λy=>[.i .i64 (λ_=>y.op),.str (λ_=>es),.i .i64 (λ_=>y.k),.str (λ_=>es),.i .i64 (λ_=>y.w),.str (λ_=>es),cA n y]) (λ_=>x.args)
def cE (n:Nat) (x:Expr):List SV:=[.i .i64 (λ_=>x.op),.str (λ_=>es),.i .i64 (λ_=>x.k),.str (λ_=>es),.i .i64 (λ_=>x.w),.str (λ_=>es),cA n x]
theorem Ce:∀(n:Nat) (x:Expr),LF (cA n x)
 | 0,x=>trivial
 | n+1,x=>λy=>⟨trivial,trivial,trivial,trivial,trivial,trivial,Ce n y,trivial⟩
theorem JW (n:Nat) (x:Expr):(cA n x).one=true:=by cases n<;>rfl
theorem oo (n:Nat) (x:Expr):dm (cE n x)/\(cE n x).all SV.one=true :=
 ⟨⟨trivial,trivial,trivial,trivial,trivial,trivial,Ce n x,trivial⟩,by simp only [cE,DL,Jg,JW];rfl⟩
def KJ (n:Nat):iZ:=⟨Expr,cE n,.mk 0 0 0 []⟩
def uK (x:nq):List SV:=[.i .i64 (λ_=>x.kind),.str (λ_=>x.src),.i .i64 (λ_=>x.n)]
def y4 (n:Nat) (x:s4):List SV:=[.str (λ_=>x.name),.i .i64 (λ_=>x.w),.i .i64 (λ_=>x.init)]++cE n x.next++uK x.sM
def rZ (n:Nat) (x:Mem):List SV:=[.str (λ_=>x.name),.i .i64 (λ_=>x.w),.i .i64 (λ_=>x.words)]++cE n x.en++cE n x.ad++cE n x.da++uK x.sM
def yO (n:Nat) (x:Take):List SV:=[.i .i64 (λ_=>x.chan),.i .i64 (λ_=>x.w)]++cE n x.cond
def y5 (n:Nat) (x:rC):List SV:=[.i .i64 (λ_=>x.chan),.i .i64 (λ_=>x.w)]++cE n x.cond++cE n x.data
theorem GP (n:Nat) (x:s4):dm (y4 n x)/\(y4 n x).all SV.one=true:=by
 refine ⟨by simp [y4,uK,cE,dm,LF,Ce],?_⟩
 simp only [y4,uK,cE,DF,kQ,DL,Jg,JW];rfl
theorem GQ (n:Nat) (x:Mem):dm (rZ n x)/\(rZ n x).all SV.one=true:=by
 refine ⟨by simp [rZ,uK,cE,dm,LF,Ce],?_⟩
 simp only [rZ,uK,cE,DF,kQ,DL,Jg,JW];rfl
theorem Gy (n:Nat) (x:Take):dm (yO n x)/\(yO n x).all SV.one=true:=by
 refine ⟨by simp [yO,uK,cE,dm,LF,Ce],?_⟩
 simp only [yO,uK,cE,DF,kQ,DL,Jg,JW];rfl
theorem GR (n:Nat) (x:rC):dm (y5 n x)/\(y5 n x).all SV.one=true:=by
 refine ⟨by simp [y5,uK,cE,dm,LF,Ce],?_⟩
 simp only [y5,uK,cE,DF,kQ,DL,Jg,JW];rfl
def JX (n:Nat):iZ:=⟨s4,y4 n,⟨es,0,0,.mk 0 0 0 [],⟨0,es,0⟩⟩⟩
def JY (n:Nat):iZ:=⟨Mem,rZ n,⟨es,0,0,.mk 0 0 0 [],.mk 0 0 0 [],.mk 0 0 0 [],⟨0,es,0⟩⟩⟩
def JL (n:Nat):iZ:=⟨Take,yO n,⟨0,0,.mk 0 0 0 []⟩⟩
def JZ (n:Nat):iZ:=⟨rC,y5 n,⟨0,0,.mk 0 0 0 [],.mk 0 0 0 []⟩⟩
def el (n m:Nat):TypeId->Option iZ
 | 3=>some nN
 | 5=>some aeS
 | 4=>some TO
 | 74=>some adD
 | 35=>some TP
 | 36=>some am7
 | 133=>some GN
 | 118=>some acI
 | 135=>some acJ
 | 76=>some abM
 | 168=>some acK
 | 9=>some adE
 | 302=>some NA
 | 307=>some acL
 | 149=>some (KJ n)
 | 159=>some (JX m)
 | 163=>some (JY m)
 | 154=>some (JL m)
 | 161=>some (JZ m)
 | _=>none
theorem vF {η:Nat->Value} {q:Nat->Live} {H:bQ} {x:SV} {r:List SV} {v:Value} {vs:List Value} (h:rel η q H x v) (h':a_ η q H r vs):a_ η q H (x :: r) (v :: vs):=by
 simp only [a_];exact ⟨_,_,rfl,h,h'⟩
theorem Tg {η:Nat->Value} {q:Nat->Live} {H:bQ}:a_ η q H [] []:=by simp [a_]
theorem Gn {η:Nat->Value} {q:Nat->Live} {H:bQ} {T:Type} {sz:Nat} {c:T->List SV} (h:∀x,dm (c x)):rel η q H (.sl sz c (λ_=>[])) (N0):=by
 simp only [rel];exact ⟨⟨none,0,rfl,cP _,.inl (by simp)⟩,h⟩
theorem amf {H:bQ} (n:Nat):rel (λ_=>.nilIface) (λ_=>.un) H (cA n (.mk 0 0 0 [])) (N0):=by
 cases n with
 | zero=>simp [cA,rel]
 | succ n=>exact Gn λy=>(oo n y).1
theorem BD (H:bQ) (n:Nat):ez H (cE n (.mk 0 0 0 [])) [I0,S0,I0,S0,I0,S0,N0]:=by
 refine vF (by simp [rel,Expr.op]) (vF (by simp [rel,es]) (vF (by simp [rel,Expr.k]) (vF (by simp [rel,es]) (vF (by simp [rel,Expr.w]) (vF (by simp [rel,es]) (vF ?_ Tg))))))
 exact amf n
theorem aqA (H:bQ):ez H (iV []) [N0]:=vF (Gn λy=>(cM y).1) Tg
theorem apb (H:bQ):ez H (GZ []) [N0]:=vF (Gn λy=>(pK y).1) Tg
theorem aqB (H:bQ):ez H (rf ⟨[],0,0⟩) [N0,I0,I0]:=vF (Gn λy=>(cM y).1) (by simp [a_,rel])
theorem apc (H:bQ):ez H (oe ⟨[],0,0,0,0⟩) [N0,I0,I0,I0,U0]:=vF (Gn λy=>(cM y).1) (by simp [a_,rel])
theorem aqC (H:bQ):ez H (uJ ⟨[],0,0,0⟩) [N0,I0,I0,I0]:=vF (Gn λy=>(yr y).1) (by simp [a_,rel])
theorem Zx (H:bQ):ez H (uK ⟨0,es,0⟩) [I0,S0,I0]:=by simp [uK,a_,rel,es]
theorem zE (H:bQ) (n:Nat):ez H ((KJ n).c (KJ n).z) [I0,S0,I0,S0,I0,S0,N0]:=BD H n
theorem asp (H:bQ) (n:Nat):ez H ((JX n).c (JX n).z) [S0,I0,I0,I0,S0,I0,S0,I0,S0,N0,I0,S0,I0] :=
 jx (jx (s:=[_,_,_]) (v:=[_,_,_]) (by simp [a_,rel,JX,es]) (BD H n)) (Zx H)
theorem asq (H:bQ) (n:Nat):ez H ((JY n).c (JY n).z) [S0,I0,I0,I0,S0,I0,S0,I0,S0,N0,
  I0,S0,I0,S0,I0,S0,N0,I0,S0,I0,S0,I0,S0,N0,I0,S0,I0] :=
 jx (jx (jx (jx (s:=[_,_,_]) (v:=[_,_,_]) (by simp [a_,rel,JY,es]) (BD H n)) (BD H n)) (BD H n)) (Zx H)
theorem aqD (H:bQ) (n:Nat):ez H ((JL n).c (JL n).z) [I0,I0,I0,S0,I0,S0,I0,S0,N0] :=
 jx (s:=[_,_]) (v:=[_,_]) (by simp [a_,rel,JL]) (BD H n)
theorem asr (H:bQ) (n:Nat):ez H ((JZ n).c (JZ n).z) [I0,I0,I0,S0,I0,S0,I0,S0,N0,I0,S0,I0,S0,I0,S0,N0] :=
 jx (jx (s:=[_,_]) (v:=[_,_]) (by simp [a_,rel,JZ]) (BD H n)) (BD H n)
theorem adF {T:TypeId->Option TI} (hT:∀t i,tt t=some i->T t=some i) (n m:Nat) (X:Ctx) (h:X.tt=T) (t:TypeId) (E:iZ) (he:el n m t=some E):J7 Tryz.prog X t E:=by
 have h1:∀{t i j},tt t=some j->X.tt t=some i->i=j:=λh2 h3=>by rw [h,hT _ _ h2] at h3;cases h3;rfl
 unfold el at he
 split at he
 all_goals cases he
 all_goals
  refine ⟨⟨_,by rw [h];exact hT _ _ rfl⟩,λi hi x=>?_,?_,λi hi H=>?_⟩
  ·cases h1 rfl hi;first|rfl|(cases n<;>rfl)|(cases m<;>rfl)
  ·first|exact cM|exact rN|exact tu|exact N1|exact pK|exact aaI|exact gL|exact eK|exact Af|exact Jj|exact NI|exact aoe|exact yr|exact NJ|exact oo n|exact GP m|exact GQ m|exact Gy m|exact GR m
  ·cases h1 rfl hi;first|exact aqA H|exact apb H|exact aqB H|exact apc H|exact aqC H|exact zE H n|exact asp H m|exact asq H m|exact aqD H m|exact asr H m|(simp [nN,bJ,aeS,iF,TO,iU,adD,mf,GN,dc,acI,dB,acK,EA,adE,PF,NA,l7,a_,rel,Value.cells])
theorem aqE (n m:Nat) (X:Ctx) (h:X.tt=tt) (t:TypeId) (E:iZ) (he:el n m t=some E):J7 Tryz.prog X t E:=adF (λ_ _ h=>h) n m X h t E he
theorem mixed:Tryz.prog.follows .mixedOrders=true:=by kernel_rfl
@[reducible] def fl (n m:Nat) (fs:List (Nat × Func)) (sp:List (Nat × Vc.Spec)) (io lp cut row emp:List Nat:=[]):Ctx:=XI tt (el n m) fs sp io lp cut row emp
theorem fy (n m:Nat) {fs:List (Nat × Func)} {sp:List (Nat × Vc.Spec)} {io lp cut row emp:List Nat} (hf:CU (λf fn=>nP (PP ()) f fn/\pJ fn=true) fs) (hs:CU (λf S=>cS (PP ()) f S) sp):CB PP (fl n m fs sp io lp cut row emp):=aeQ aeR (aqE n m) mixed hf hs
def l9 (w:bT) (lo hi:Int):Prop:=lo<=w.kind/\w.kind<=hi/\0<=w.i/\0<=w.bit/\w.bit<=7
structure tA (t_:Int) (g:Gate):Prop where
 op:1<=g.op/\g.op<=7
 a:0<=g.a/\g.a < t_
 b:0<=g.b/\g.b < t_
 c:0<=g.c/\g.c < t_
 n:0<=g.n/\g.n < 64
structure eQ (n:Net):Prop where
 pf:2+n.ins.length+n.gG.length<=600
 ins:∀w∈n.ins,l9 w 1 4/\w.i<=31
 gG:∀(i:Nat) (g:Gate),n.gG[i]?=some g->tA (2+n.ins.length+i) g
 outs:∀w∈n.outs,l9 w 1 10/\(w.kind=1\/5<=w.kind)
 ind:n.ins.Nodup
 KK:n.outs.Nodup
 aN:∀w:bT,w.kind=1->(w∈n.ins↔w∈n.outs)
 o5:n.ay.length=n.outs.length
 ay:∀d∈n.ay,0<=d/\d < 2+n.ins.length+n.gG.length
structure J0 (t_:Int) (c:Cell):Prop where
 ins:∀s∈c.ins,0<=s/\s < t_
 u6:c.bZ=-1/\c.ins.length<=4/\0<=c.table/\c.table < 2^(2^c.ins.length)\/0<=c.bZ/\c.bZ<=63/\c.ins.length=3/\c.table=0
structure jz (n:Net) (m:gE):Prop where
 ni:m.n=n.ins.length
 dH:m.cells.length<=n.gG.length
 cells:∀(i:Nat) (c:Cell),m.cells[i]?=some c->J0 (2+n.ins.length+i) c
 o5:m.ay.length=n.outs.length
 ay:∀d∈m.ay,0<=d/\d < 2+n.ins.length+m.cells.length
def bq.sigs (p:bq):Int:=p.ins.length+2*p.blocks.length
def cK (n:Nat) (s:Int):Nat:=((s - n) / 2).toNat
def fj (n:Nat) (s:Int):Prop:=(s - n) % 2=1
structure kj (p:bq) (s:Int):Prop where
 lo:0<=s
 hi:s < p.sigs
 flip:(p.ins.length:Int)<=s->fj p.ins.length s->∃x,p.blocks[cK p.ins.length s]?=some x/\0<=x.bf
structure yG (x:Block):Prop where
 k:x.ins.length<=4
 bZ:-1<=x.bZ/\x.bZ<=63
 bf:-1<=x.bf/\x.bf<=255
 table:0<=x.table/\x.table < 2^(2^x.ins.length)
 read:0<=x.bZ->x.bf=-1/\x.ins.length<=3/\x.table=0
structure Shape (p:bq):Prop where
 dH:p.blocks.length<=600
 o5:p.ay.length=p.outs.length
 ay:∀s∈p.ay,kj p s
 ins:∀w∈p.ins,l9 w 2 4
 outs:∀w∈p.outs,l9 w 5 10
 formed:∀x∈p.blocks,yG x
 used:∀x∈p.blocks,∀s∈x.ins,kj p s
 aN:∀(i j:Nat) (x y:Block),p.blocks[i]?=some x->p.blocks[j]?=some y->0<=x.bf->x.bf=y.bf->i=j
def jy (p:bq) (r:Nat->Nat):Prop:=∀(b:Nat) (x:Block),p.blocks[b]?=some x->∀s∈x.ins,(p.ins.length:Int)<=s->¬fj p.ins.length s->r (cK p.ins.length s) < r b
structure PK where
 parts:List Part
 cells:List Source
 n0:Bool
 n1:Bool
 bK:Int->Option Int
def gw (w:bT):List Int:=[w.kind,w.i,w.bit]
def ga {K:Type} [DecidableEq K] (m:K->Option Int) (k:K) (v:Int):K->Option Int:=λj=>if j=k then some v else m j
def others (l:List bT):List bT:=l.filter (λw=>w.kind≠1)
def vJ (l:List bT):List Int->Option Int:=(l.foldl (λ(st:(List Int->Option Int) × Int) w=>if w.kind=1 then st else (ga st.1 (gw w) st.2,st.2+1)) (λ_=>none,0)).1
def lA (w:bT):Int:=8*w.i+w.bit
def gH (ins:List bT) (cells:List Source) (sig:Int):Source :=
 if sig < 2 then ⟨3,sig⟩
 else if sig - 2 < ins.length then
  let w:=ins.getD (sig - 2).toNat ⟨0,0,0⟩
  if w.kind=1 then ⟨1,lA w⟩ else ⟨0,(vJ ins (gw w)).getD 0⟩
 else cells.getD (sig - 2 - ins.length).toNat ⟨0,0⟩
def PK.add (k:PK) (x:Part):PK:={ k with parts:=k.parts++[x],bK:=if 0<=x.bf then ga k.bK x.bf k.parts.length else k.bK }
def PK.here (k:PK):Source:=⟨2,k.parts.length⟩
def xk:List Source->List Source
 | []=>[]
 | s :: r=>if s=⟨3,0⟩ then xk r else s :: r
def strip (bZ:Int) (l:List Source):List Source:=if 0<=bZ then (xk l.reverse).reverse else l
def VV (c:Cell) (l:List Source) (x:Part):Bool:=x.table == c.table&&x.bZ == c.bZ&&x.ins == l
def oq (v:Int) (l:List Source):Bool:=l.any λs=>s.kind == 3&&s.n == v
def ji (ins:List bT) (k:PK) (c:Cell):PK :=
 let l:=strip c.bZ (c.ins.map (gH ins k.cells))
 match k.parts.findIdx? (VV c l) with
 | some i=>{ k with cells:=k.cells++[⟨2,i⟩] }
 | none=>{ (k.add ⟨l,c.table,c.bZ,-1⟩) with cells:=k.cells++[k.here],n0:=k.n0||oq 0 l,n1:=k.n1||oq 1 l }
def An (l:List Part) (i:Nat) (code:Int):List Part:=l.modify i λx=>{ x with bf:=code }
def jR (k:PK) (s:Source) (code:Int):PK :=
 if s.kind=3 then k.add ⟨[],s.n,-1,code⟩
 else if s.kind=2/\(k.parts.getD s.n.toNat ⟨[],0,0,0⟩).bZ < 0/\(k.parts.getD s.n.toNat ⟨[],0,0,0⟩).bf < 0 then
  { k with parts:=An k.parts s.n.toNat code,bK:=ga k.bK code s.n }
 else k.add ⟨[s],2,-1,code⟩
def oy (ins:List bT) (k:PK) (wd:bT × Int):PK :=
 if wd.1.kind=1 then jR k (gH ins k.cells wd.2) (lA wd.1)
 else { k with n0:=k.n0||wd.2 == 0,n1:=k.n1||wd.2 == 1 }
def oh (k:PK) (v:Int) (b:Bool):PK:=if b then k.add ⟨[],v,-1,-1⟩ else k
structure TH where
 k:PK
 ay:List Source
 thr:List Int->Option Source
def AM (s:Source):List Int:=[s.kind,s.n]
def nr (ins:List bT) (t:TH) (wd:bT × Int):TH :=
 if wd.1.kind=1 then t
 else
  let s:=gH ins t.k.cells wd.2
  if s.kind=0 then match t.thr (AM s) with
   | some u=>{ t with ay:=t.ay++[u] }
   | none=>{ k:=t.k.add ⟨[s],2,-1,-1⟩,ay:=t.ay++[t.k.here],thr:=λj=>if j=AM s then some t.k.here else t.thr j }
  else { t with ay:=t.ay++[s] }
structure KL where
 c0:Int
 c1:Int
 t:TH
def ot (n:Net) (m:gE):KL :=
 let k1:=m.cells.foldl (ji n.ins) ⟨[],[],false,false,λ_=>none⟩
 let wd:=n.outs.zip m.ay
 let k2:=wd.foldl (oy n.ins) k1
 let k3:=oh k2 0 k2.n0
 let k4:=oh k3 1 k2.n1
 ⟨if k2.n0 then k2.parts.length else 0,if k2.n1 then k3.parts.length else 0,wd.foldl (nr n.ins) ⟨k4,[],λ_=>none⟩⟩
def PG (first:Int) (d:KL) (s:Source):Int :=
 if s.kind=1 then first+2*(d.t.k.bK s.n).getD 0+1
 else if s.kind=2 then first+2*s.n
 else if s.kind=3 then first+2*(if s.n=0 then d.c0 else d.c1)
 else s.n
def G0 (first:Int) (d:KL) (x:Part):Block:=⟨x.ins.map (PG first d),x.table,x.bZ,x.bf,0⟩
def lS (n:Net) (m:gE):bq :=
 let ins:=others n.ins
 let d:=ot n m
 ⟨ins,d.t.k.parts.map (G0 ins.length d),others n.outs,d.t.ay.map (PG ins.length d)⟩
def pN (ins:List bT) (np:Nat) (s:Source):Prop :=
 s.kind=0/\0<=s.n/\s.n < (others ins).length\/s.kind=1/\(∃w∈ins,w.kind=1/\s.n=lA w)\/s.kind=2/\0<=s.n/\s.n < np\/s.kind=3/\(s.n=0\/s.n=1)
theorem pN.mono {ins:List bT} {a b:Nat} {s:Source} (h:pN ins a s) (jT:a<=b):pN ins b s:=by
 rcases h with h|h|h|h
 ·exact .inl h
 ·exact .inr (.inl h)
 ·exact .inr (.inr (.inl ⟨h.1,h.2.1,by omega⟩))
 ·exact .inr (.inr (.inr h))
structure Ow (x:Part):Prop where
 k:x.ins.length<=4
 bZ:-1<=x.bZ/\x.bZ<=63
 bf:-1<=x.bf/\x.bf<=255
 table:0<=x.table/\x.table < 2^(2^x.ins.length)
 read:0<=x.bZ->x.bf=-1/\x.ins.length<=3/\x.table=0
structure oz (ins:List bT) (nc:Nat) (k:PK):Prop where
 nc:k.cells.length=nc
 cells:∀s∈k.cells,s.kind=2/\0<=s.n/\s.n < k.parts.length
 src:∀(b:Nat) (x:Part),k.parts[b]?=some x->Ow x/\∀s∈x.ins,pN ins b s
 lQ:∀x∈k.parts,∀s∈x.ins,s.kind=3->(s.n=0->k.n0=true)/\(s.n=1->k.n1=true)
 bK:∀(b:Nat) (x:Part),k.parts[b]?=some x->0<=x.bf->k.bK x.bf=some b
 back:∀c v,k.bK c=some v->∃b:Nat,v=b/\∃x,k.parts[b]?=some x/\x.bf=c/\0<=c
theorem am8 {a b:bT} (h:gw a=gw b):a=b:=by
 cases a;cases b;simp [gw] at h;simp [h]
def sG (st:(List Int->Option Int) × Int) (w:bT):(List Int->Option Int) × Int:=if w.kind=1 then st else (ga st.1 (gw w) st.2,st.2+1)
theorem amg (l:List bT):vJ l=(l.foldl sG (λ_=>none,0)).1:=rfl
theorem Th:∀(l:List bT) (st:(List Int->Option Int) × Int),0<=st.2->(∀k v,st.1 k=some v->0<=v/\v < st.2) ->
  (l.foldl sG st).2=st.2+(others l).length/\(∀k v,(l.foldl sG st).1 k=some v->0<=v/\v < st.2+(others l).length) /\
  (∀w∈l,w.kind≠1->∃v,(l.foldl sG st).1 (gw w)=some v)/\∀k v,st.1 k=some v->∃v,(l.foldl sG st).1 k=some v
 | [],st,h0,h=>⟨by simp [others],λk v hk=>by simpa [others] using h k v hk,by simp,λk v hk=>⟨v,hk⟩⟩
 | w :: r,st,h0,h=>by
  by_cases hw:w.kind=1
  ·have e:others (w :: r)=others r:=by simp [others,hw]
   have e2:sG st w=st:=by simp [sG,hw]
   obtain ⟨g1,g2,g3,g4⟩:=Th r st h0 h
   simp only [vz,e,e2]
   refine ⟨g1,g2,λx hx hk=>?_,g4⟩
   rcases er.1 hx with rfl|hx
   ·exact absurd hw hk
   ·exact g3 x hx hk
  ·have e:(others (w :: r)).length=(others r).length+1:=by simp [others,hw]
   have e2:sG st w=(ga st.1 (gw w) st.2,st.2+1):=by simp [sG,hw]
   obtain ⟨g1,g2,g3,g4⟩:=Th r (ga st.1 (gw w) st.2,st.2+1) (by show 0<=st.2+1;omega) (λk v hk=>by
    simp only [ga] at hk
    split at hk
    ·cases hk;exact ⟨h0,by show st.2 < st.2+1;omega⟩
    ·have:=h k v hk;exact ⟨this.1,by show v < st.2+1;omega⟩)
   simp only [vz,e,e2]
   simp only at g1 g2
   refine ⟨by rw [g1];push_cast;omega,λk v hk=>?_,λx hx hk=>?_,λk v hk=>?_⟩
   ·have:=g2 k v hk;push_cast;omega
   ·rcases er.1 hx with rfl|hx
    ·exact g4 (gw x) st.2 (by simp [ga])
    ·exact g3 x hx hk
   ·by_cases CV:k=gw w
    ·exact g4 k st.2 (by simp [ga,CV])
    ·exact g4 k v (by simp [ga,CV,hk])
theorem aaJ {l:List bT} {w:bT} (hw:w∈l) (hk:w.kind≠1):0<=(vJ l (gw w)).getD 0/\(vJ l (gw w)).getD 0 < (others l).length:=by
 obtain ⟨_,g2,g3,_⟩:=Th l (λ_=>none,0) (jI _) (λk v hk=>by cases hk)
 obtain ⟨v,hv⟩:=g3 w hw hk
 have:=g2 _ _ hv
 rw [amg,hv]
 simp only [nM]
 simp only [Int.zero_add] at this
 exact this
theorem JA {ins:List bT} {cells:List Source} {np:Nat} {sig:Int} (hc:∀s∈cells,s.kind=2/\0<=s.n/\s.n < np) (h0:0<=sig) (h1:sig < 2+ins.length+cells.length):pN ins np (gH ins cells sig):=by
 unfold gH
 split
 ·exact .inr (.inr (.inr ⟨rfl,by simp only;omega⟩))
 ·split
  ·rename_i h2 h3
   have aR:(sig - 2).toNat < ins.length:=by omega
   have e:ins.getD (sig - 2).toNat ⟨0,0,0⟩=ins[(sig - 2).toNat]:=by rw [gW,eh aR,nM]
   rw [e]
   have hm:ins[(sig - 2).toNat]∈ins:=DH aR
   simp only
   split
   ·rename_i hk
    exact .inr (.inl ⟨rfl,_,hm,hk,rfl⟩)
   ·rename_i hk
    exact .inl ⟨rfl,(aaJ hm hk).1,(aaJ hm hk).2⟩
  ·rename_i h2 h3
   have aR:(sig - 2 - ins.length).toNat < cells.length:=by omega
   have e:cells.getD (sig - 2 - ins.length).toNat ⟨0,0⟩=cells[(sig - 2 - ins.length).toNat]:=by rw [gW,eh aR,nM]
   rw [e]
   exact .inr (.inr (.inl (hc _ (DH aR))))
theorem alJ (l:List Source):∀s∈xk l,s∈l:=by
 induction l with
 | nil=>simp [xk]
 | cons x r ih =>
  intro s hs
  unfold xk at hs
  split at hs
  ·exact z7 _ (ih s hs)
  ·exact hs
theorem alK (l:List Source):(xk l).length<=l.length:=by
 induction l with
 | nil=>simp [xk]
 | cons x r ih=>unfold xk;split<;>simp<;>omega
theorem aaK {bZ:Int} {l:List Source}:∀s∈strip bZ l,s∈l:=by
 intro s hs
 unfold strip at hs
 split at hs
 ·exact List.mem_reverse.1 (alJ _ s (List.mem_reverse.1 hs))
 ·exact hs
theorem aaL (bZ:Int) (l:List Source):(strip bZ l).length<=l.length:=by
 unfold strip
 split
 ·simpa using alK l.reverse
 ·exact cP _
theorem aaM {bZ:Int} {l:List Source} (h:bZ < 0):strip bZ l=l:=if_neg (by omega)
theorem oz.add {ins:List bT} {nc:Nat} {k:PK} (h:oz ins nc k) {x:Part} (hx:Ow x) (hs:∀s∈x.ins,pN ins k.parts.length s) {a b:Bool} (ha:k.n0=true->a=true) (hb:k.n1=true->b=true)
  (hn:∀s∈x.ins,s.kind=3->(s.n=0->a=true)/\(s.n=1->b=true)) (hf:0<=x.bf->k.bK x.bf=none):oz ins nc { (k.add x) with n0:=a,n1:=b }:=by
 have qx:∀(i:Nat) (y:Part),(k.parts++[x])[i]?=some y->(k.parts[i]?=some y)\/(i=k.parts.length/\y=x):=by
  intro i y hy
  rw [DP] at hy
  split at hy
  ·exact .inl hy
  ·rename_i aR
   have hi:i - k.parts.length=0:=by
    have:=(bX.1 hy).1
    simp at this;omega
   rw [hi] at hy
   simp at hy
   exact .inr ⟨by omega,hy.symm⟩
 refine ⟨h.nc,λs iE=>?_,λi y hy=>?_,λy hy s iE hk=>?_,λi y hy hr=>?_,λc v oG=>?_⟩
 ·have:=h.cells s iE
  simp only [PK.add,fZ,nK]
  exact ⟨this.1,this.2.1,by push_cast;omega⟩
 ·rcases qx i y hy with hy|⟨rfl,rfl⟩
  ·exact h.src i y hy
  ·exact ⟨hx,hs⟩
 ·simp only [PK.add,List.mem_append,BI] at hy
  rcases hy with hy|rfl
  ·have:=h.lQ y hy s iE hk
   exact ⟨λe=>ha (this.1 e),λe=>hb (this.2 e)⟩
  ·exact hn s iE hk
 ·simp only [PK.add]
  rcases qx i y hy with hy|⟨rfl,rfl⟩
  ·have:=h.bK i y hy hr
   split
   ·rename_i gl
    have cZ:y.bf≠x.bf:=λe=>by rw [e,hf gl] at this;cases this
    simp [ga,cZ,this]
   ·exact this
  ·rw [if_pos hr];simp [ga]
 ·simp only [PK.add] at oG ⊢
  split at oG
  ·rename_i gl
   simp only [ga] at oG
   split at oG
   ·rename_i e
    cases oG
    exact ⟨k.parts.length,rfl,x,by simp,e.symm,by rw [e];exact gl⟩
   ·obtain ⟨b',h1,y,h2,h3⟩:=h.back c v oG
    exact ⟨b',h1,y,by rw [nJ (bX.1 h2).1];exact h2,h3⟩
  ·obtain ⟨b',h1,y,h2,h3⟩:=h.back c v oG
   exact ⟨b',h1,y,by rw [nJ (bX.1 h2).1];exact h2,h3⟩
theorem alm {α:Type} {p:α->Bool} {l:List α} {i:Nat} (h:l.findIdx? p=some i):i < l.length:=by
 rw [List.findIdx?_eq_some_iff_findIdx_eq] at h
 exact h.1
theorem am9 {ins:List bT} {nc:Nat} {k:PK} (h:oz ins nc k) (et:∀x∈k.parts,x.bf=-1) {c:Cell} (hc:J0 (2+ins.length+nc) c) :
  oz ins (nc+1) (ji ins k c)/\(∀x∈(ji ins k c).parts,x.bf=-1)/\(ji ins k c).parts.length<=k.parts.length+1:=by
 have hs:∀s∈c.ins.map (gH ins k.cells),pN ins k.parts.length s:=by
  intro s hs
  obtain ⟨g,hg,rfl⟩:=j3.1 hs
  have:=hc.ins g hg
  exact JA h.cells this.1 (by rw [h.nc];exact this.2)
 unfold ji
 simp only
 generalize hl:strip c.bZ (c.ins.map (gH ins k.cells))=l
 have Ib:∀s∈l,pN ins k.parts.length s:=λs h'=>hs s (by rw [<-hl] at h';exact aaK s h')
 have hlen:l.length<=c.ins.length:=by rw [<-hl];simpa using aaL c.bZ (c.ins.map (gH ins k.cells))
 split
 ·rename_i i hi
  have aR:=alm hi
  refine ⟨⟨by simp [h.nc],λs iE=>?_,h.src,h.lQ,h.bK,h.back⟩,et,by simp⟩
  simp only [List.mem_append,BI] at iE
  rcases iE with iE|rfl
  ·exact h.cells s iE
  ·exact ⟨rfl,by simp,by simp only;omega⟩
 ·have hp:Ow ⟨l,c.table,c.bZ,-1⟩:=by
   rcases hc.u6 with ⟨h1,h2,h3,h4⟩|⟨h1,h2,h3,h4⟩
   ·have e:l.length=c.ins.length:=by rw [<-hl,aaM (by omega)];simp
    exact ⟨by simp only;omega,by simp only;omega,by simp,by simp only [e];exact ⟨h3,h4⟩,λh0=>by simp only at h0;omega⟩
   ·refine ⟨by simp only;omega,by simp only;omega,by simp,?_,λ_=>⟨rfl,by simp only;omega,h4⟩⟩
    simp only [h4]
    exact ⟨by omega,Int.pow_pos (by decide)⟩
  have H:=h.add hp Ib (a:=k.n0||oq 0 l) (b:=k.n1||oq 1 l) (λe=>by simp [e]) (λe=>by simp [e]) (λs iE hk=>⟨λe=>by
    simp only [vA];right
    exact Jd.2 ⟨s,iE,by simp [hk,e]⟩,λe=>by
    simp only [vA];right
    exact Jd.2 ⟨s,iE,by simp [hk,e]⟩⟩) (λh0=>by simp at h0)
  refine ⟨⟨by simp [h.nc],λs iE=>?_,H.src,H.lQ,H.bK,H.back⟩,λx hx=>?_,by simp [PK.add]⟩
  ·simp only [List.mem_append,BI] at iE
   rcases iE with iE|rfl
   ·exact H.cells s iE
   ·exact ⟨rfl,by simp [PK.here],by simp [PK.here,PK.add];omega⟩
  ·simp only [PK.add,List.mem_append,BI] at hx
   rcases hx with hx|rfl
   ·exact et x hx
   ·rfl
structure Sc where
 aN:List Int
 aZ:List Int
 bd:List (Int × Int)
 data:Bool
def okW (w:Int):Prop:=1<=w/\w<=8
structure VW (sc:Sc):Prop where
 aN:∀w∈sc.aN,okW w
 aZ:∀w∈sc.aZ,okW w
 bd:∀m∈sc.bd,okW m.1
inductive WT (sc:Sc):Nat->Int->Expr->Prop
 | const {n:Nat} {w k:Int}:okW w->WT sc (n+1) w (.mk 1 k w [])
 | bf {n:Nat} {w:Int} (i:Nat):sc.aN[i]?=some w->WT sc (n+1) w (.mk 16 i 0 [])
 | data {n:Nat} {w:Int} (i:Nat):sc.data=true->sc.aZ[i]?=some w->WT sc (n+1) w (.mk 18 i 0 [])
 | not {n:Nat} {w:Int} {a:Expr}:WT sc n w a->WT sc (n+1) w (.mk 2 0 0 [a])
 | two {n:Nat} {w op:Int} {a b:Expr}:3<=op->op<=7->WT sc n w a->WT sc n w b->WT sc (n+1) w (.mk op 0 0 [a,b])
 | cmp {n:Nat} {v op:Int} {a b:Expr}:8<=op->op<=9->WT sc n v a->WT sc n v b->WT sc (n+1) 1 (.mk op 0 0 [a,b])
 | s5 {n:Nat} {w:Int} {c a b:Expr}:WT sc n 1 c->WT sc n w a->WT sc n w b->WT sc (n+1) w (.mk 10 0 0 [c,a,b])
 | cat {n:Nat} {v w:Int} {a b:Expr}:w=v+1->okW w->WT sc n v a->WT sc n 1 b->WT sc (n+1) w (.mk 11 0 0 [a,b])
 | slice {n:Nat} {v w k:Int} {a:Expr}:0<=k->k+w<=v->okW w->WT sc n v a->WT sc (n+1) w (.mk 12 k w [a])
 | ext {n:Nat} {v w:Int} {a:Expr}:v<=w->okW w->WT sc n v a->WT sc (n+1) w (.mk 13 0 w [a])
 | read {n:Nat} {v w words:Int} (i:Nat) {a:Expr}:sc.bd[i]?=some (w,words)->WT sc n v a->WT sc (n+1) w (.mk 17 i 0 [a])
theorem WT.wide {sc:Sc} (hs:VW sc):∀{n:Nat} {w:Int} {e:Expr},WT sc n w e->okW w
 | _,_,_,.const h=>h
 | _,_,_,.bf i h=>hs.aN _ (b_ h)
 | _,_,_,.data i _ h=>hs.aZ _ (b_ h)
 | _,_,_,.not h=>h.wide hs
 | _,_,_,.two _ _ h _=>h.wide hs
 | _,_,_,.cmp _ _ _ _=>⟨by omega,by omega⟩
 | _,_,_,.s5 _ h _=>h.wide hs
 | _,_,_,.cat _ h _ _=>h
 | _,_,_,.slice _ _ h _=>h
 | _,_,_,.ext _ h _=>h
 | _,_,_,.read i h _=>hs.bd _ (b_ h)
theorem WT.up {sc:Sc}:∀{n:Nat} {w:Int} {e:Expr},WT sc n w e->WT sc (n+1) w e
 | _,_,_,.const h=>.const h
 | _,_,_,.bf i h=>.bf i h
 | _,_,_,.data i h1 h=>.data i h1 h
 | _,_,_,.not h=>.not h.up
 | _,_,_,.two a b h1 h2=>.two a b h1.up h2.up
 | _,_,_,.cmp a b h1 h2=>.cmp a b h1.up h2.up
 | _,_,_,.s5 h1 h2 h3=>.s5 h1.up h2.up h3.up
 | _,_,_,.cat a b h1 h2=>.cat a b h1.up h2.up
 | _,_,_,.slice a b c h=>.slice a b c h.up
 | _,_,_,.ext a b h=>.ext a b h.up
 | _,_,_,.read i h h2=>.read i h h2.up
theorem WT.more {sc sc':Sc} (hr:sc'.aN=sc.aN) (hm:sc'.bd=sc.bd) (ht:sc.data=true->sc'.data=true/\sc'.aZ=sc.aZ):∀{n:Nat} {w:Int} {e:Expr},WT sc n w e->WT sc' n w e
 | _,_,_,.const h=>.const h
 | _,_,_,.bf i h=>.bf i (by rw [hr];exact h)
 | _,_,_,.data i h1 h=>.data i (ht h1).1 (by rw [(ht h1).2];exact h)
 | _,_,_,.not h=>.not (h.more hr hm ht)
 | _,_,_,.two a b h1 h2=>.two a b (h1.more hr hm ht) (h2.more hr hm ht)
 | _,_,_,.cmp a b h1 h2=>.cmp a b (h1.more hr hm ht) (h2.more hr hm ht)
 | _,_,_,.s5 h1 h2 h3=>.s5 (h1.more hr hm ht) (h2.more hr hm ht) (h3.more hr hm ht)
 | _,_,_,.cat a b h1 h2=>.cat a b (h1.more hr hm ht) (h2.more hr hm ht)
 | _,_,_,.slice a b c h=>.slice a b c (h.more hr hm ht)
 | _,_,_,.ext a b h=>.ext a b (h.more hr hm ht)
 | _,_,_,.read i h h2=>.read i (by rw [hm];exact h) (h2.more hr hm ht)
def nB (sc:Sc) (n:Nat):List Int->List Expr->Prop
 | [],[]=>True
 | w :: ws,e :: es=>WT sc n w e/\nB sc n ws es
 | _,_=>False
theorem WT.args {sc:Sc}:∀{n:Nat} {w:Int} {e:Expr},WT sc (n+1) w e->∃ws,nB sc n ws e.args
 | _,_,_,.const h=>⟨[],trivial⟩
 | _,_,_,.bf i h=>⟨[],trivial⟩
 | _,_,_,.data i h1 h=>⟨[],trivial⟩
 | _,_,_,.not h=>⟨[_],h,trivial⟩
 | _,_,_,.two a b h1 h2=>⟨[_,_],h1,h2,trivial⟩
 | _,_,_,.cmp a b h1 h2=>⟨[_,_],h1,h2,trivial⟩
 | _,_,_,.s5 h1 h2 h3=>⟨[_,_,_],h1,h2,h3,trivial⟩
 | _,_,_,.cat a b h1 h2=>⟨[_,_],h1,h2,trivial⟩
 | _,_,_,.slice a b c h=>⟨[_],h,trivial⟩
 | _,_,_,.ext a b h=>⟨[_],h,trivial⟩
 | _,_,_,.read i h h2=>⟨[_],h2,trivial⟩
theorem nB.get {sc:Sc} {n:Nat}:∀{ws:List Int} {es:List Expr},nB sc n ws es->∀(i:Nat) (e:Expr),es[i]?=some e->∃w,ws[i]?=some w/\WT sc n w e
 | [],[],_,i,e,h=>by simp at h
 | w :: ws,x :: es,h,0,e,he=>by simp at he;subst he;exact ⟨w,rfl,h.1⟩
 | w :: ws,x :: es,h,i+1,e,he=>by simpa using nB.get h.2 i e (by simpa using he)
theorem nB.len {sc:Sc} {n:Nat}:∀{ws:List Int} {es:List Expr},nB sc n ws es->ws.length=es.length
 | [],[],_=>rfl
 | w :: ws,x :: es,h=>by simp [nB.len h.2]
theorem WT.dH {sc:Sc}:∀{n:Nat} {w:Int} {e:Expr},WT sc n w e->e.args.length<=3
 | _,_,_,.const h=>by simp [Expr.args]
 | _,_,_,.bf i h=>by simp [Expr.args]
 | _,_,_,.data i h1 h=>by simp [Expr.args]
 | _,_,_,.not h=>by simp [Expr.args]
 | _,_,_,.two a b h1 h2=>by simp [Expr.args]
 | _,_,_,.cmp a b h1 h2=>by simp [Expr.args]
 | _,_,_,.s5 h1 h2 h3=>by simp [Expr.args]
 | _,_,_,.cat a b h1 h2=>by simp [Expr.args]
 | _,_,_,.slice a b c h=>by simp [Expr.args]
 | _,_,_,.ext a b h=>by simp [Expr.args]
 | _,_,_,.read i h h2=>by simp [Expr.args]
def nS (p:ry) (data:Bool):Sc:=⟨p.aN.map (·.w),p.aZ.map (·.w),p.bd.map λm=>(m.w,m.words),data⟩
structure qY (p:ry):Prop where
 aN:p.aN.length<=3/\∀r∈p.aN,1<=r.w/\r.w<=3/\WT (nS p true) 3 r.w r.next
 bd:p.bd.length<=1/\∀m∈p.bd,1<=m.w/\m.w<=2/\1<=m.words/\m.words<=4/\WT (nS p true) 3 1 m.en/\(∃v,WT (nS p true) 3 v m.ad)/\WT (nS p true) 3 m.w m.da
 aZ:p.aZ.length<=2/\∀t∈p.aZ,1<=t.w/\t.w<=2/\WT (nS p false) 3 1 t.cond
 dX:p.dX.length<=2/\∀t∈p.dX,1<=t.w/\t.w<=2/\WT (nS p true) 3 1 t.cond/\WT (nS p true) 3 t.w t.data
def kK (ins:Int) (gs:List Gate):Prop:=∀(i:Nat) (g:Gate),gs[i]?=some g->tA (2+ins+i) g
def cH (ins:Int) (gs:List Gate) (v:Int):Prop:=0<=v/\v < 2+ins+gs.length
theorem cH.mono {ins:Int} {gs cu:List Gate} {v:Int} (h:cH ins gs v) (hl:gs.length<=cu.length):cH ins cu v:=⟨h.1,by have:=h.2;omega⟩
theorem kK.nil (ins:Int):kK ins []:=λi g h=>by simp at h
theorem kK.add {ins:Int} {gs:List Gate} (h:kK ins gs) {g:Gate} (hg:tA (2+ins+gs.length) g):kK ins (gs++[g]):=by
 intro i x hx
 rw [DP] at hx
 split at hx
 ·exact h i x hx
 ·rename_i aR
  have hi:i - gs.length=0:=by
   have:=(bX.1 hx).1
   simp at this;omega
  rw [hi] at hx
  simp at hx
  subst hx
  have:(i:Int)=gs.length:=by omega
  rw [this];exact hg
end Go.Proofs.Pk
