import Derived.Test.YthnhbemmlfaihaaGreatT12
import Derived.WalkKit
import Derived.Test.YthnhbemmlfaihaaGreatProg
set_option linter.unusedVariables false
set_option linter.unusedSimpArgs false
set_option maxRecDepth 10000
set_option maxHeartbeats 64000000
namespace Go.Proofs.Pk
open Go Go.Vc
structure bU where
 kind:Int
 i:Int
 bit:Int
 deriving DecidableEq
structure Gate where
 op:Int
 a:Int
 b:Int
 c:Int
 n:Int
 deriving DecidableEq
structure Cell where
 ins:List Int
 table:Int
 b9:Int
structure Block where
 ins:List Int
 table:Int
 b9:Int
 bh:Int
 key:Int
structure Net where
 ins:List bU
 gP:List Gate
 outs:List bU
 ay:List Int
structure gL where
 n:Int
 cells:List Cell
 ay:List Int
structure bt where
 ins:List bU
 blocks:List Block
 outs:List bU
 ay:List Int
inductive Expr where
 | mk (op k w:Int) (args:List Expr)
def Expr.op:Expr->Int|.mk o _ _ _=>o
def Expr.k:Expr->Int|.mk _ k _ _=>k
def Expr.w:Expr->Int|.mk _ _ w _=>w
def Expr.args:Expr->List Expr|.mk _ _ _ l=>l
structure nI where
 kind:Int
 src:ByteArray
 n:Int
structure tE where
 name:ByteArray
 w:Int
 init:Int
 next:Expr
 tm:nI
structure Mem where
 name:ByteArray
 w:Int
 words:Int
 en:Expr
 ad:Expr
 da:Expr
 tm:nI
structure Take where
 chan:Int
 w:Int
 cond:Expr
structure rX where
 chan:Int
 w:Int
 cond:Expr
 data:Expr
structure rT where
 name:ByteArray
 clock:ByteArray
 aN:List tE
 bf:List Mem
 aZ:List Take
 ec:List rX
structure Head where
 has:Bool
 v:Int
structure jB where
 aN:List Int
 bf:List (List Int)
structure Source where
 kind:Int
 n:Int
 deriving DecidableEq
structure Part where
 ins:List Source
 table:Int
 b9:Int
 bh:Int
noncomputable def PP:Unit->Program:=λ_=>Tryz.prog
abbrev I0:Value:=.int .i64 0
abbrev U0:Value:=.int .u64 0
abbrev Y0:Value:=.int .u8 0
abbrev N0:Value:=.slice none 0 0
abbrev S0:Value:=.string ByteArray.empty
abbrev B0:Value:=.bool false
abbrev M0:Value:=.map none
@[reducible] def ti (d:TD) (s b:Nat) (z:Value):TI:={ d:=d,size:=s,bytes:=b,zero:=z }
@[reducible] def tF (d:TD) (s b:Nat) (z:Value) (k:Option (List IntKind)):TI:={ d:=d,size:=s,bytes:=b,zero:=z,flat:=true,kd:=k }
@[reducible] def tS (e:TypeId):TI:={ d:=.sl e,size:=1,bytes:=24,zero:=.slice none 0 0 }
def tt:TypeId->Option TI
 | 3=>some (ti (.int .i64) 1 8 I0)
 | 4=>some (ti (.bool) 1 1 B0)
 | 5=>some (ti (.int .u8) 1 1 Y0)
 | 9=>some (ti (.str) 1 16 S0)
 | 22=>some (tS 5)
 | 23=>some (ti (.st [(22,0,1)]) 1 24 (.agg #[N0]))
 | 24=>some (ti (.st [(22,0,1)]) 1 24 (.agg #[N0]))
 | 25=>some (ti (.st [(24,0,1),(22,1,1),(22,2,1),(22,3,1)]) 4 96 (.agg #[N0,N0,N0,N0]))
 | 26=>some (ti (.st [(24,0,1),(22,1,1),(22,2,1),(22,3,1)]) 4 96 (.agg #[N0,N0,N0,N0]))
 | 28=>some (tS 159)
 | 29=>some (tS 163)
 | 30=>some (tS 154)
 | 31=>some (tS 161)
 | 32=>some (ti (.st [(9,0,1),(9,1,1),(28,2,1),(29,3,1),(30,4,1),(31,5,1)]) 6 128 (.agg #[S0,S0,N0,N0,N0,N0]))
 | 33=>some (ti (.st [(9,0,1),(9,1,1),(28,2,1),(29,3,1),(30,4,1),(31,5,1)]) 6 128 (.agg #[S0,S0,N0,N0,N0,N0]))
 | 35=>some (tS 3)
 | 36=>some (tS 35)
 | 37=>some (ti (.st [(35,0,1),(36,1,1)]) 2 48 (.agg #[N0,N0]))
 | 38=>some (ti (.st [(35,0,1),(36,1,1)]) 2 48 (.agg #[N0,N0]))
 | 40=>some (tS 168)
 | 41=>some (tS 4)
 | 42=>some (ti (.st [(40,0,1),(41,1,1)]) 2 48 (.agg #[N0,N0]))
 | 43=>some (ti (.st [(40,0,1),(41,1,1)]) 2 48 (.agg #[N0,N0]))
 | 45=>some (tS 133)
 | 46=>some (tS 118)
 | 47=>some (ti (.st [(45,0,1),(46,1,1),(45,2,1),(35,3,1)]) 4 96 (.agg #[N0,N0,N0,N0]))
 | 48=>some (ti (.st [(45,0,1),(46,1,1),(45,2,1),(35,3,1)]) 4 96 (.agg #[N0,N0,N0,N0]))
 | 49=>some (tS 135)
 | 50=>some (ti (.st [(3,0,1),(49,1,1),(35,2,1)]) 3 56 (.agg #[I0,N0,N0]))
 | 51=>some (ti (.st [(3,0,1),(49,1,1),(35,2,1)]) 3 56 (.agg #[I0,N0,N0]))
 | 52=>some (ti (.st [(48,0,4),(51,4,3),(4,7,1)]) 8 160 (.agg #[N0,N0,N0,N0,I0,N0,N0,B0]))
 | 53=>some (ti (.st [(48,0,4),(51,4,3),(4,7,1)]) 8 160 (.agg #[N0,N0,N0,N0,I0,N0,N0,B0]))
 | 55=>some (tS 76)
 | 56=>some (ti (.st [(45,0,1),(55,1,1),(45,2,1),(35,3,1)]) 4 96 (.agg #[N0,N0,N0,N0]))
 | 57=>some (ti (.st [(45,0,1),(55,1,1),(45,2,1),(35,3,1)]) 4 96 (.agg #[N0,N0,N0,N0]))
 | 58=>some (ti (.int .i64) 1 8 I0)
 | 59=>some (ti (.st [(57,0,4),(58,4,1)]) 5 104 (.agg #[N0,N0,N0,N0,I0]))
 | 60=>some (ti (.st [(57,0,4),(58,4,1)]) 5 104 (.agg #[N0,N0,N0,N0,I0]))
 | 66=>some (ti (.st [(4,0,1),(38,1,2),(41,3,1),(40,4,1)]) 5 104 (.agg #[B0,N0,N0,N0,N0]))
 | 67=>some (ti (.st [(4,0,1),(38,1,2),(41,3,1),(40,4,1)]) 5 104 (.agg #[B0,N0,N0,N0,N0]))
 | 72=>some (tS 74)
 | 74=>some (ti (.int .u64) 1 8 U0)
 | 75=>some (ti (.st [(35,0,1),(3,1,1),(3,2,1),(3,3,1),(74,4,1)]) 5 56 (.agg #[N0,I0,I0,I0,U0]))
 | 76=>some (ti (.st [(35,0,1),(3,1,1),(3,2,1),(3,3,1),(74,4,1)]) 5 56 (.agg #[N0,I0,I0,I0,U0]))
 | 78=>some (ti (.arr 3 5) 3 3 (.agg #[Y0,Y0,Y0]))
 | 91=>some (ti (.st [(35,0,1),(36,1,1)]) 2 48 (.agg #[N0,N0]))
 | 92=>some (ti (.st [(35,0,1),(36,1,1)]) 2 48 (.agg #[N0,N0]))
 | 93=>some (ti (.st [(51,0,3),(92,3,2),(58,5,1)]) 6 112 (.agg #[I0,N0,N0,N0,N0,I0]))
 | 94=>some (ti (.st [(51,0,3),(92,3,2),(58,5,1)]) 6 112 (.agg #[I0,N0,N0,N0,N0,I0]))
 | 96=>some (ti (.st [(35,0,1),(36,1,1),(58,2,1)]) 3 56 (.agg #[N0,N0,I0]))
 | 97=>some (ti (.st [(35,0,1),(36,1,1),(58,2,1)]) 3 56 (.agg #[N0,N0,I0]))
 | 113=>some (tS 36)
 | 117=>some (tF (.st [(3,0,1),(3,1,1),(3,2,1),(3,3,1),(3,4,1)]) 5 40 (.agg #[I0,I0,I0,I0,I0]) none)
 | 118=>some (tF (.st [(3,0,1),(3,1,1),(3,2,1),(3,3,1),(3,4,1)]) 5 40 (.agg #[I0,I0,I0,I0,I0]) none)
 | 129=>some (ti (.arr 2 3) 2 16 (.agg #[I0,I0]))
 | 132=>some (tF (.st [(3,0,1),(3,1,1),(3,2,1)]) 3 24 (.agg #[I0,I0,I0]) (some [.i64,.i64,.i64]))
 | 133=>some (tF (.st [(3,0,1),(3,1,1),(3,2,1)]) 3 24 (.agg #[I0,I0,I0]) (some [.i64,.i64,.i64]))
 | 134=>some (ti (.st [(35,0,1),(3,1,1),(3,2,1)]) 3 40 (.agg #[N0,I0,I0]))
 | 135=>some (ti (.st [(35,0,1),(3,1,1),(3,2,1)]) 3 40 (.agg #[N0,I0,I0]))
 | 139=>some (ti (.st [(35,0,1),(35,1,1),(29,2,1),(4,3,1)]) 4 80 (.agg #[N0,N0,N0,B0]))
 | 140=>some (ti (.st [(35,0,1),(35,1,1),(29,2,1),(4,3,1)]) 4 80 (.agg #[N0,N0,N0,B0]))
 | 141=>some (ti (.st [(22,0,1),(3,1,1)]) 2 32 (.agg #[N0,I0]))
 | 142=>some (ti (.st [(22,0,1),(3,1,1)]) 2 32 (.agg #[N0,I0]))
 | 145=>some (ti (.st [(3,0,1),(9,1,1)]) 2 24 (.agg #[I0,S0]))
 | 146=>some (ti (.st [(3,0,1),(9,1,1)]) 2 24 (.agg #[I0,S0]))
 | 147=>some (tS 149)
 | 148=>some (ti (.st [(3,0,1),(9,1,1),(146,2,2),(146,4,2),(147,6,1)]) 7 96 (.agg #[I0,S0,I0,S0,I0,S0,N0]))
 | 149=>some (ti (.st [(3,0,1),(9,1,1),(146,2,2),(146,4,2),(147,6,1)]) 7 96 (.agg #[I0,S0,I0,S0,I0,S0,N0]))
 | 150=>some (ti (.st [(149,0,7),(142,7,2)]) 9 128 (.agg #[I0,S0,I0,S0,I0,S0,N0,N0,I0]))
 | 151=>some (ti (.st [(149,0,7),(142,7,2)]) 9 128 (.agg #[I0,S0,I0,S0,I0,S0,N0,N0,I0]))
 | 153=>some (ti (.st [(3,0,1),(3,1,1),(149,2,7)]) 9 112 (.agg #[I0,I0,I0,S0,I0,S0,I0,S0,N0]))
 | 154=>some (ti (.st [(3,0,1),(3,1,1),(149,2,7)]) 9 112 (.agg #[I0,I0,I0,S0,I0,S0,I0,S0,N0]))
 | 156=>some (ti (.st [(3,0,1),(9,1,1),(3,2,1)]) 3 32 (.agg #[I0,S0,I0]))
 | 157=>some (ti (.st [(3,0,1),(9,1,1),(3,2,1)]) 3 32 (.agg #[I0,S0,I0]))
 | 158=>some (ti (.st [(9,0,1),(3,1,1),(3,2,1),(149,3,7),(157,10,3)]) 13 160 (.agg #[S0,I0,I0,I0,S0,I0,S0,I0,S0,N0,I0,S0,I0]))
 | 159=>some (ti (.st [(9,0,1),(3,1,1),(3,2,1),(149,3,7),(157,10,3)]) 13 160 (.agg #[S0,I0,I0,I0,S0,I0,S0,I0,S0,N0,I0,S0,I0]))
 | 160=>some (ti (.st [(3,0,1),(3,1,1),(149,2,7),(149,9,7)]) 16 208 (.agg #[I0,I0,I0,S0,I0,S0,I0,S0,N0,I0,S0,I0,S0,I0,S0,N0]))
 | 161=>some (ti (.st [(3,0,1),(3,1,1),(149,2,7),(149,9,7)]) 16 208 (.agg #[I0,I0,I0,S0,I0,S0,I0,S0,N0,I0,S0,I0,S0,I0,S0,N0]))
 | 162=>some (ti (.st [(9,0,1),(3,1,1),(3,2,1),(149,3,7),(149,10,7),(149,17,7),(157,24,3)]) 27 352 (.agg #[S0,I0,I0,I0,S0,I0,S0,I0,S0,N0,I0,S0,I0,S0,I0,S0,N0,I0,S0,I0,S0,I0,S0,N0,I0,S0,I0]))
 | 163=>some (ti (.st [(9,0,1),(3,1,1),(3,2,1),(149,3,7),(149,10,7),(149,17,7),(157,24,3)]) 27 352 (.agg #[S0,I0,I0,I0,S0,I0,S0,I0,S0,N0,I0,S0,I0,S0,I0,S0,N0,I0,S0,I0,S0,I0,S0,N0,I0,S0,I0]))
 | 165=>some (ti (.int .u64) 1 8 U0)
 | 167=>some (ti (.st [(4,0,1),(3,1,1)]) 2 16 (.agg #[B0,I0]))
 | 168=>some (ti (.st [(4,0,1),(3,1,1)]) 2 16 (.agg #[B0,I0]))
 | 169=>some (ti (.st [(48,0,4),(58,4,1)]) 5 104 (.agg #[N0,N0,N0,N0,I0]))
 | 170=>some (ti (.st [(48,0,4),(58,4,1)]) 5 104 (.agg #[N0,N0,N0,N0,I0]))
 | 178=>some (ti (.st [(57,0,4)]) 4 96 (.agg #[N0,N0,N0,N0]))
 | 179=>some (ti (.st [(57,0,4)]) 4 96 (.agg #[N0,N0,N0,N0]))
 | 184=>some (ti (.map 3 4) 1 8 M0)
 | 191=>some (ti (.map 74 3) 1 8 M0)
 | 192=>some (ti (.map 74 4) 1 8 M0)
 | 199=>some (ti (.int .u64) 1 8 U0)
 | 213=>some (ti (.st [(3,0,1),(35,1,1)]) 2 32 (.agg #[I0,N0]))
 | 214=>some (ti (.st [(3,0,1),(35,1,1)]) 2 32 (.agg #[I0,N0]))
 | 216=>some (ti (.map 3 3) 1 8 M0)
 | 244=>some (ti (.map 133 3) 1 8 M0)
 | 252=>some (ti (.arr 3 3) 3 24 (.agg #[I0,I0,I0]))
 | 256=>some (ti (.map 259 4) 1 8 M0)
 | 257=>some (ti (.map 259 3) 1 8 M0)
 | 258=>some (tF (.st [(3,0,1),(3,1,1)]) 2 16 (.agg #[I0,I0]) (some [.i64,.i64]))
 | 259=>some (tF (.st [(3,0,1),(3,1,1)]) 2 16 (.agg #[I0,I0]) (some [.i64,.i64]))
 | 274=>some (ti (.st [(3,0,1),(46,1,1)]) 2 32 (.agg #[I0,N0]))
 | 275=>some (ti (.st [(3,0,1),(46,1,1)]) 2 32 (.agg #[I0,N0]))
 | 276=>some (ti (.st [(275,0,2),(35,2,1),(35,3,1),(36,4,1),(3,5,1)]) 6 112 (.agg #[I0,N0,N0,N0,N0,I0]))
 | 277=>some (ti (.st [(275,0,2),(35,2,1),(35,3,1),(36,4,1),(3,5,1)]) 6 112 (.agg #[I0,N0,N0,N0,N0,I0]))
 | 279=>some (ti (.st [(33,0,6),(45,6,1),(36,7,1)]) 8 176 (.agg #[S0,S0,N0,N0,N0,N0,N0,N0]))
 | 280=>some (ti (.st [(33,0,6),(45,6,1),(36,7,1)]) 8 176 (.agg #[S0,S0,N0,N0,N0,N0,N0,N0]))
 | 281=>some (ti (.st [(275,0,2),(45,2,1),(35,3,1)]) 4 80 (.agg #[I0,N0,N0,N0]))
 | 282=>some (ti (.st [(275,0,2),(45,2,1),(35,3,1)]) 4 80 (.agg #[I0,N0,N0,N0]))
 | 284=>some (ti (.st [(275,0,2),(3,2,1)]) 3 40 (.agg #[I0,N0,I0]))
 | 285=>some (ti (.st [(275,0,2),(3,2,1)]) 3 40 (.agg #[I0,N0,I0]))
 | 288=>some (ti (.st [(275,0,2),(35,2,1)]) 3 56 (.agg #[I0,N0,N0]))
 | 289=>some (ti (.st [(275,0,2),(35,2,1)]) 3 56 (.agg #[I0,N0,N0]))
 | 294=>some (tS 307)
 | 295=>some (tS 302)
 | 296=>some (ti (.arr 2 4) 2 2 (.agg #[B0,B0]))
 | 297=>some (ti (.st [(48,0,4),(244,4,1),(294,5,1),(295,6,1),(296,7,2),(216,9,1)]) 10 168 (.agg #[N0,N0,N0,N0,M0,N0,N0,B0,B0,M0]))
 | 298=>some (ti (.st [(48,0,4),(244,4,1),(294,5,1),(295,6,1),(296,7,2),(216,9,1)]) 10 168 (.agg #[N0,N0,N0,N0,M0,N0,N0,B0,B0,M0]))
 | 301=>some (tF (.st [(3,0,1),(3,1,1)]) 2 16 (.agg #[I0,I0]) (some [.i64,.i64]))
 | 302=>some (tF (.st [(3,0,1),(3,1,1)]) 2 16 (.agg #[I0,I0]) (some [.i64,.i64]))
 | 304=>some (ti (.arr 2 302) 4 32 (.agg #[I0,I0,I0,I0]))
 | 306=>some (ti (.st [(295,0,1),(3,1,1),(3,2,1),(3,3,1)]) 4 48 (.agg #[N0,I0,I0,I0]))
 | 307=>some (ti (.st [(295,0,1),(3,1,1),(3,2,1),(3,3,1)]) 4 48 (.agg #[N0,I0,I0,I0]))
 | 308=>some (ti (.map 302 302) 1 8 M0)
 | 325=>some (ti (.st [(3,0,1),(58,1,1)]) 2 16 (.agg #[I0,I0]))
 | 326=>some (ti (.st [(3,0,1),(58,1,1)]) 2 16 (.agg #[I0,I0]))
 | 345=>some (tS 9)
 | 356=>some (ti (.map 133 4) 1 8 M0)
 | 361=>some (ti (.st [(35,0,1),(58,1,1)]) 2 32 (.agg #[N0,I0]))
 | 362=>some (ti (.st [(35,0,1),(58,1,1)]) 2 32 (.agg #[N0,I0]))
 | 365=>some (ti (.arr 3 4) 3 3 (.agg #[B0,B0,B0]))
 | _=>none
theorem tiN {t:TypeId} {i:TI} (h1:i.flat=false) (h2:i.kd=none) (hz:(Tryz.prog.info? t).map (·.zero)=some (some i.zero)) (hb:Yu Tryz.prog t i=true):pz Tryz.prog t i :=
 adJ hz hb (λh=>by rw [h1] at h;cases h) (λ_ h=>by rw [h2] at h;cases h)
theorem afU:∀t i,tt t=some i->pz Tryz.prog t i:=by
 intro t i h
 unfold tt at h
 split at h
 all_goals cases h
 all_goals first|exact tiN rfl rfl (by kernel_rfl) (by kernel_rfl)|skip
 all_goals refine adJ (by kernel_rfl) (by kernel_rfl) (λ_=>⟨rfl,λvs us w _ _ h1 h2 op x y fg=>amu (by kernel_rfl) (by kernel_rfl) (by kernel_rfl) (by kernel_rfl) vs us w h1 h2 op x y fg⟩) (λks h=>?_)
 all_goals cases h
 all_goals exact amS (by kernel_rfl) (by kernel_rfl) (by kernel_rfl)
def bK (x:Int):List SV:=[.i .i64 λ_=>x]
theorem cP (x:Int):du (bK x)/\(bK x).all SV.one=true:=⟨⟨trivial,trivial⟩,rfl⟩
def n8:jh:=⟨Int,bK,0⟩
def iN (x:Int):List SV:=[.i .u8 λ_=>x]
theorem sq (x:Int):du (iN x)/\(iN x).all SV.one=true:=⟨⟨trivial,trivial⟩,rfl⟩
def afV:jh:=⟨Int,iN,0⟩
def jc (x:Bool):List SV:=[.b λ_=>x]
theorem tY (x:Bool):du (jc x)/\(jc x).all SV.one=true:=⟨⟨trivial,trivial⟩,rfl⟩
def UE:jh:=⟨Bool,jc,false⟩
def mH (x:Int):List SV:=[.i .u64 λ_=>x]
theorem OP (x:Int):du (mH x)/\(mH x).all SV.one=true:=⟨⟨trivial,trivial⟩,rfl⟩
def aeH:jh:=⟨Int,mH,0⟩
def jd (x:List Int):List SV:=[.sl 1 bK (λ_=>x)]
theorem qa (x:List Int):du (jd x)/\(jd x).all SV.one=true:=⟨⟨λy=>(cP y).1,trivial⟩,rfl⟩
def UF:jh:=⟨List Int,jd,[]⟩
def HD (x:List (List Int)):List SV:=[.sl 1 jd (λ_=>x)]
theorem abH (x:List (List Int)):du (HD x)/\(HD x).all SV.one=true:=⟨⟨λy=>(qa y).1,trivial⟩,rfl⟩
def aol:jh:=⟨List (List Int),HD,[]⟩
def dk (x:bU):List SV:=[.i .i64 (λ_=>x.kind),.i .i64 (λ_=>x.i),.i .i64 (λ_=>x.bit)]
theorem gU (x:bU):du (dk x)/\(dk x).all SV.one=true:=⟨⟨trivial,trivial,trivial,trivial⟩,rfl⟩
def Hs:jh:=⟨bU,dk,⟨0,0,0⟩⟩
def dE (x:Gate):List SV:=[.i .i64 (λ_=>x.op),.i .i64 (λ_=>x.a),.i .i64 (λ_=>x.b),.i .i64 (λ_=>x.c),.i .i64 (λ_=>x.n)]
theorem eO (x:Gate):du (dE x)/\(dE x).all SV.one=true:=⟨⟨trivial,trivial,trivial,trivial,trivial,trivial⟩,rfl⟩
def adM:jh:=⟨Gate,dE,⟨0,0,0,0,0⟩⟩
def rM (x:Cell):List SV:=[.sl 1 bK (λ_=>x.ins),.i .i64 (λ_=>x.table),.i .i64 (λ_=>x.b9)]
theorem AM (x:Cell):du (rM x)/\(rM x).all SV.one=true:=⟨⟨λy=>(cP y).1,trivial,trivial,trivial⟩,rfl⟩
def adN:jh:=⟨Cell,rM,⟨[],0,0⟩⟩
def oD (x:Block):List SV:=[.sl 1 bK (λ_=>x.ins),.i .i64 (λ_=>x.table),.i .i64 (λ_=>x.b9),.i .i64 (λ_=>x.bh),.i .u64 (λ_=>x.key)]
theorem JV (x:Block):du (oD x)/\(oD x).all SV.one=true:=⟨⟨λy=>(cP y).1,trivial,trivial,trivial,trivial,trivial⟩,rfl⟩
def acP:jh:=⟨Block,oD,⟨[],0,0,0,0⟩⟩
def Ff (x:Head):List SV:=[.b (λ_=>x.has),.i .i64 (λ_=>x.v)]
theorem Ox (x:Head):du (Ff x)/\(Ff x).all SV.one=true:=⟨⟨trivial,trivial,trivial⟩,rfl⟩
def adO:jh:=⟨Head,Ff,⟨false,0⟩⟩
def Qw (x:ByteArray):List SV:=[.str (λ_=>x)]
theorem apt (x:ByteArray):du (Qw x)/\(Qw x).all SV.one=true:=⟨⟨trivial,trivial⟩,rfl⟩
def aeI:jh:=⟨ByteArray,Qw,ByteArray.empty⟩
def mB (x:Source):List SV:=[.i .i64 (λ_=>x.kind),.i .i64 (λ_=>x.n)]
theorem yU (x:Source):du (mB x)/\(mB x).all SV.one=true:=⟨⟨trivial,trivial,trivial⟩,rfl⟩
def On:jh:=⟨Source,mB,⟨0,0⟩⟩
def vg (x:Part):List SV:=[.sl 2 mB (λ_=>x.ins),.i .i64 (λ_=>x.table),.i .i64 (λ_=>x.b9),.i .i64 (λ_=>x.bh)]
theorem Oy (x:Part):du (vg x)/\(vg x).all SV.one=true:=⟨⟨λy=>(yU y).1,trivial,trivial,trivial,trivial⟩,rfl⟩
def adP:jh:=⟨Part,vg,⟨[],0,0,0⟩⟩
def es:ByteArray:=ByteArray.empty
def cA:Nat->Expr->SV
 | 0,_=>.dp
 | n+1,x=>.sl 7 (λy=>[.i .i64 (λ_=>y.op),.str (λ_=>es),.i .i64 (λ_=>y.k),.str (λ_=>es),.i .i64 (λ_=>y.w),.str (λ_=>es),cA n y]) (λ_=>x.args)
def cE (n:Nat) (x:Expr):List SV:=[.i .i64 (λ_=>x.op),.str (λ_=>es),.i .i64 (λ_=>x.k),.str (λ_=>es),.i .i64 (λ_=>x.w),.str (λ_=>es),cA n x]
theorem CL:∀(n:Nat) (x:Expr),LF (cA n x)
 | 0,x=>trivial
 | n+1,x=>λy=>⟨trivial,trivial,trivial,trivial,trivial,trivial,CL n y,trivial⟩
theorem KA (n:Nat) (x:Expr):(cA n x).one=true:=by cases n<;>rfl
theorem oG (n:Nat) (x:Expr):du (cE n x)/\(cE n x).all SV.one=true :=
 ⟨⟨trivial,trivial,trivial,trivial,trivial,trivial,CL n x,trivial⟩,by simp only [cE,Er,JS,KA];rfl⟩
def Lt (n:Nat):jh:=⟨Expr,cE n,.mk 0 0 0 []⟩
def vh (x:nI):List SV:=[.i .i64 (λ_=>x.kind),.str (λ_=>x.src),.i .i64 (λ_=>x.n)]
def zD (n:Nat) (x:tE):List SV:=[.str (λ_=>x.name),.i .i64 (λ_=>x.w),.i .i64 (λ_=>x.init)]++cE n x.next++vh x.tm
def sF (n:Nat) (x:Mem):List SV:=[.str (λ_=>x.name),.i .i64 (λ_=>x.w),.i .i64 (λ_=>x.words)]++cE n x.en++cE n x.ad++cE n x.da++vh x.tm
def zn (n:Nat) (x:Take):List SV:=[.i .i64 (λ_=>x.chan),.i .i64 (λ_=>x.w)]++cE n x.cond
def zF (n:Nat) (x:rX):List SV:=[.i .i64 (λ_=>x.chan),.i .i64 (λ_=>x.w)]++cE n x.cond++cE n x.data
theorem Ht (n:Nat) (x:tE):du (zD n x)/\(zD n x).all SV.one=true:=by
 refine ⟨by simp [zD,vh,cE,du,LF,CL],?_⟩
 simp only [zD,vh,cE,Em,lg,Er,JS,KA];rfl
theorem Hu (n:Nat) (x:Mem):du (sF n x)/\(sF n x).all SV.one=true:=by
 refine ⟨by simp [sF,vh,cE,du,LF,CL],?_⟩
 simp only [sF,vh,cE,Em,lg,Er,JS,KA];rfl
theorem Hi (n:Nat) (x:Take):du (zn n x)/\(zn n x).all SV.one=true:=by
 refine ⟨by simp [zn,vh,cE,du,LF,CL],?_⟩
 simp only [zn,vh,cE,Em,lg,Er,JS,KA];rfl
theorem Hw (n:Nat) (x:rX):du (zF n x)/\(zF n x).all SV.one=true:=by
 refine ⟨by simp [zF,vh,cE,du,LF,CL],?_⟩
 simp only [zF,vh,cE,Em,lg,Er,JS,KA];rfl
def KC (n:Nat):jh:=⟨tE,zD n,⟨es,0,0,.mk 0 0 0 [],⟨0,es,0⟩⟩⟩
def KE (n:Nat):jh:=⟨Mem,sF n,⟨es,0,0,.mk 0 0 0 [],.mk 0 0 0 [],.mk 0 0 0 [],⟨0,es,0⟩⟩⟩
def Kp (n:Nat):jh:=⟨Take,zn n,⟨0,0,.mk 0 0 0 []⟩⟩
def KF (n:Nat):jh:=⟨rX,zF n,⟨0,0,.mk 0 0 0 [],.mk 0 0 0 []⟩⟩
def el (n m:Nat):TypeId->Option jh
 | 3=>some n8
 | 5=>some afV
 | 4=>some UE
 | 74=>some aeH
 | 35=>some UF
 | 36=>some aol
 | 133=>some Hs
 | 118=>some adM
 | 135=>some adN
 | 76=>some acP
 | 168=>some adO
 | 9=>some aeI
 | 302=>some On
 | 307=>some adP
 | 149=>some (Lt n)
 | 159=>some (KC m)
 | 163=>some (KE m)
 | 154=>some (Kp m)
 | 161=>some (KF m)
 | _=>none
theorem wc {η:Nat->Value} {q:Nat->Live} {H:bR} {x:SV} {r:List SV} {v:Value} {vs:List Value} (h:rel η q H x v) (h':bd η q H r vs):bd η q H (x :: r) (v :: vs):=by
 simp only [bd];exact ⟨_,_,rfl,h,h'⟩
theorem Ud {η:Nat->Value} {q:Nat->Live} {H:bR}:bd η q H [] []:=by simp [bd]
theorem G8 {η:Nat->Value} {q:Nat->Live} {H:bR} {T:Type} {sz:Nat} {c:T->List SV} (h:∀x,du (c x)):rel η q H (.sl sz c (λ_=>[])) (N0):=by
 simp only [rel];exact ⟨⟨none,0,rfl,cR _,.inl (by simp)⟩,h⟩
theorem anr {H:bR} (n:Nat):rel (λ_=>.nilIface) (λ_=>.un) H (cA n (.mk 0 0 0 [])) (N0):=by
 cases n with
 | zero=>simp [cA,rel]
 | succ n=>exact G8 λy=>(oG n y).1
theorem Ce (H:bR) (n:Nat):eB H (cE n (.mk 0 0 0 [])) [I0,S0,I0,S0,I0,S0,N0]:=by
 refine wc (by simp [rel,Expr.op]) (wc (by simp [rel,es]) (wc (by simp [rel,Expr.k]) (wc (by simp [rel,es]) (wc (by simp [rel,Expr.w]) (wc (by simp [rel,es]) (wc ?_ Ud))))))
 exact anr n
theorem arU (H:bR):eB H (jd []) [N0]:=wc (G8 λy=>(cP y).1) Ud
theorem aqr (H:bR):eB H (HD []) [N0]:=wc (G8 λy=>(qa y).1) Ud
theorem arV (H:bR):eB H (rM ⟨[],0,0⟩) [N0,I0,I0]:=wc (G8 λy=>(cP y).1) (by simp [bd,rel])
theorem aqs (H:bR):eB H (oD ⟨[],0,0,0,0⟩) [N0,I0,I0,I0,U0]:=wc (G8 λy=>(cP y).1) (by simp [bd,rel])
theorem arW (H:bR):eB H (vg ⟨[],0,0,0⟩) [N0,I0,I0,I0]:=wc (G8 λy=>(yU y).1) (by simp [bd,rel])
theorem aav (H:bR):eB H (vh ⟨0,es,0⟩) [I0,S0,I0]:=by simp [vh,bd,rel,es]
theorem zE (H:bR) (n:Nat):eB H ((Lt n).c (Lt n).z) [I0,S0,I0,S0,I0,S0,N0]:=Ce H n
theorem atI (H:bR) (n:Nat):eB H ((KC n).c (KC n).z) [S0,I0,I0,I0,S0,I0,S0,I0,S0,N0,I0,S0,I0] :=
 jG (jG (s:=[_,_,_]) (v:=[_,_,_]) (by simp [bd,rel,KC,es]) (Ce H n)) (aav H)
theorem atJ (H:bR) (n:Nat):eB H ((KE n).c (KE n).z) [S0,I0,I0,I0,S0,I0,S0,I0,S0,N0,
  I0,S0,I0,S0,I0,S0,N0,I0,S0,I0,S0,I0,S0,N0,I0,S0,I0] :=
 jG (jG (jG (jG (s:=[_,_,_]) (v:=[_,_,_]) (by simp [bd,rel,KE,es]) (Ce H n)) (Ce H n)) (Ce H n)) (aav H)
theorem arX (H:bR) (n:Nat):eB H ((Kp n).c (Kp n).z) [I0,I0,I0,S0,I0,S0,I0,S0,N0] :=
 jG (s:=[_,_]) (v:=[_,_]) (by simp [bd,rel,Kp]) (Ce H n)
theorem atL (H:bR) (n:Nat):eB H ((KF n).c (KF n).z) [I0,I0,I0,S0,I0,S0,I0,S0,N0,I0,S0,I0,S0,I0,S0,N0] :=
 jG (jG (s:=[_,_]) (v:=[_,_]) (by simp [bd,rel,KF]) (Ce H n)) (Ce H n)
theorem aeJ {T:TypeId->Option TI} (hT:∀t i,tt t=some i->T t=some i) (n m:Nat) (X:Ctx) (h:X.tt=T) (t:TypeId) (E:jh) (he:el n m t=some E):KN Tryz.prog X t E:=by
 have h1:∀{t i j},tt t=some j->X.tt t=some i->i=j:=λh2 h3=>by rw [h,hT _ _ h2] at h3;cases h3;rfl
 unfold el at he
 split at he
 all_goals cases he
 all_goals
  refine ⟨⟨_,by rw [h];exact hT _ _ rfl⟩,λi hi x=>?_,?_,λi hi H=>?_⟩
  ·cases h1 rfl hi;first|rfl|(cases n<;>rfl)|(cases m<;>rfl)
  ·first|exact cP|exact sq|exact tY|exact OP|exact qa|exact abH|exact gU|exact eO|exact AM|exact JV|exact Ox|exact apt|exact yU|exact Oy|exact oG n|exact Ht m|exact Hu m|exact Hi m|exact Hw m
  ·cases h1 rfl hi;first|exact arU H|exact aqr H|exact arV H|exact aqs H|exact arW H|exact zE H n|exact atI H m|exact atJ H m|exact arX H m|exact atL H m|(simp [n8,bK,afV,iN,UE,jc,aeH,mH,Hs,dk,adM,dE,adO,Ff,aeI,Qw,On,mB,bd,rel,Value.cells])
theorem arY (n m:Nat) (X:Ctx) (h:X.tt=tt) (t:TypeId) (E:jh) (he:el n m t=some E):KN Tryz.prog X t E:=aeJ (λ_ _ h=>h) n m X h t E he
theorem mixed:Tryz.prog.follows .mixedOrders=true:=by kernel_rfl
@[reducible] def fy (n m:Nat) (fs:List (Nat × Func)) (sp:List (Nat × Vc.Spec)) (io lp cut row emp:List Nat:=[]):Ctx:=YD tt (el n m) fs sp io lp cut row emp
theorem fF (n m:Nat) {fs:List (Nat × Func)} {sp:List (Nat × Vc.Spec)} {io lp cut row emp:List Nat} (hf:Dr (λf fn=>oa (PP ()) f fn/\p9 fn=true) fs) (hs:Dr (λf S=>cW (PP ()) f S) sp):CB PP (fy n m fs sp io lp cut row emp):=afT afU (arY n m) mixed hf hs
def mD (w:bU) (lo hi:Int):Prop:=lo<=w.kind/\w.kind<=hi/\0<=w.i/\0<=w.bit/\w.bit<=7
structure ud (uI:Int) (g:Gate):Prop where
 op:1<=g.op/\g.op<=7
 a:0<=g.a/\g.a < uI
 b:0<=g.b/\g.b < uI
 c:0<=g.c/\g.c < uI
 n:0<=g.n/\g.n < 64
structure eU (n:Net):Prop where
 pI:2+n.ins.length+n.gP.length<=600
 ins:∀w∈n.ins,mD w 1 4/\w.i<=31
 gP:∀(i:Nat) (g:Gate),n.gP[i]?=some g->ud (2+n.ins.length+i) g
 outs:∀w∈n.outs,mD w 1 10/\(w.kind=1\/5<=w.kind)
 ind:n.ins.Nodup
 Lu:n.outs.Nodup
 aN:∀w:bU,w.kind=1->(w∈n.ins↔w∈n.outs)
 pA:n.ay.length=n.outs.length
 ay:∀d∈n.ay,0<=d/\d < 2+n.ins.length+n.gP.length
structure KG (uI:Int) (c:Cell):Prop where
 ins:∀s∈c.ins,0<=s/\s < uI
 vD:c.b9=-1/\c.ins.length<=4/\0<=c.table/\c.table < 2^(2^c.ins.length)\/0<=c.b9/\c.b9<=63/\c.ins.length=3/\c.table=0
structure jI (n:Net) (m:gL):Prop where
 ni:m.n=n.ins.length
 dK:m.cells.length<=n.gP.length
 cells:∀(i:Nat) (c:Cell),m.cells[i]?=some c->KG (2+n.ins.length+i) c
 pA:m.ay.length=n.outs.length
 ay:∀d∈m.ay,0<=d/\d < 2+n.ins.length+m.cells.length
def bt.sigs (p:bt):Int:=p.ins.length+2*p.blocks.length
def cN (n:Nat) (s:Int):Nat:=((s - n) / 2).toNat
def fv (n:Nat) (s:Int):Prop:=(s - n) % 2=1
structure kD (p:bt) (s:Int):Prop where
 lo:0<=s
 hi:s < p.sigs
 flip:(p.ins.length:Int)<=s->fv p.ins.length s->∃x,p.blocks[cN p.ins.length s]?=some x/\0<=x.bh
structure zd (x:Block):Prop where
 k:x.ins.length<=4
 b9:-1<=x.b9/\x.b9<=63
 bh:-1<=x.bh/\x.bh<=255
 table:0<=x.table/\x.table < 2^(2^x.ins.length)
 read:0<=x.b9->x.bh=-1/\x.ins.length<=3/\x.table=0
structure Shape (p:bt):Prop where
 dK:p.blocks.length<=600
 pA:p.ay.length=p.outs.length
 ay:∀s∈p.ay,kD p s
 ins:∀w∈p.ins,mD w 2 4
 outs:∀w∈p.outs,mD w 5 10
 formed:∀x∈p.blocks,zd x
 used:∀x∈p.blocks,∀s∈x.ins,kD p s
 aN:∀(i j:Nat) (x y:Block),p.blocks[i]?=some x->p.blocks[j]?=some y->0<=x.bh->x.bh=y.bh->i=j
def jH (p:bt) (r:Nat->Nat):Prop:=∀(b:Nat) (x:Block),p.blocks[b]?=some x->∀s∈x.ins,(p.ins.length:Int)<=s->¬fv p.ins.length s->r (cN p.ins.length s) < r b
structure PK where
 parts:List Part
 cells:List Source
 n0:Bool
 n1:Bool
 bL:Int->Option Int
def gC (w:bU):List Int:=[w.kind,w.i,w.bit]
def gq {K:Type} [DecidableEq K] (m:K->Option Int) (k:K) (v:Int):K->Option Int:=λj=>if j=k then some v else m j
def others (l:List bU):List bU:=l.filter (λw=>w.kind≠1)
def wh (l:List bU):List Int->Option Int:=(l.foldl (λ(st:(List Int->Option Int) × Int) w=>if w.kind=1 then st else (gq st.1 (gC w) st.2,st.2+1)) (λ_=>none,0)).1
def lO (w:bU):Int:=8*w.i+w.bit
def gQ (ins:List bU) (cells:List Source) (sig:Int):Source :=
 if sig < 2 then ⟨3,sig⟩
 else if sig - 2 < ins.length then
  let w:=ins.getD (sig - 2).toNat ⟨0,0,0⟩
  if w.kind=1 then ⟨1,lO w⟩ else ⟨0,(wh ins (gC w)).getD 0⟩
 else cells.getD (sig - 2 - ins.length).toNat ⟨0,0⟩
def PK.add (k:PK) (x:Part):PK:={ k with parts:=k.parts++[x],bL:=if 0<=x.bh then gq k.bL x.bh k.parts.length else k.bL }
def PK.here (k:PK):Source:=⟨2,k.parts.length⟩
def xO:List Source->List Source
 | []=>[]
 | s :: r=>if s=⟨3,0⟩ then xO r else s :: r
def strip (b9:Int) (l:List Source):List Source:=if 0<=b9 then (xO l.reverse).reverse else l
def WS (c:Cell) (l:List Source) (x:Part):Bool:=x.table == c.table&&x.b9 == c.b9&&x.ins == l
def oH (v:Int) (l:List Source):Bool:=l.any λs=>s.kind == 3&&s.n == v
def jt (ins:List bU) (k:PK) (c:Cell):PK :=
 let l:=strip c.b9 (c.ins.map (gQ ins k.cells))
 match k.parts.findIdx? (WS c l) with
 | some i=>{ k with cells:=k.cells++[⟨2,i⟩] }
 | none=>{ (k.add ⟨l,c.table,c.b9,-1⟩) with cells:=k.cells++[k.here],n0:=k.n0||oH 0 l,n1:=k.n1||oH 1 l }
def AT (l:List Part) (i:Nat) (code:Int):List Part:=l.modify i λx=>{ x with bh:=code }
def j1 (k:PK) (s:Source) (code:Int):PK :=
 if s.kind=3 then k.add ⟨[],s.n,-1,code⟩
 else if s.kind=2/\(k.parts.getD s.n.toNat ⟨[],0,0,0⟩).b9 < 0/\(k.parts.getD s.n.toNat ⟨[],0,0,0⟩).bh < 0 then
  { k with parts:=AT k.parts s.n.toNat code,bL:=gq k.bL code s.n }
 else k.add ⟨[s],2,-1,code⟩
def oN (ins:List bU) (k:PK) (wd:bU × Int):PK :=
 if wd.1.kind=1 then j1 k (gQ ins k.cells wd.2) (lO wd.1)
 else { k with n0:=k.n0||wd.2 == 0,n1:=k.n1||wd.2 == 1 }
def oE (k:PK) (v:Int) (b:Bool):PK:=if b then k.add ⟨[],v,-1,-1⟩ else k
structure TH where
 k:PK
 ay:List Source
 thr:List Int->Option Source
def Bi (s:Source):List Int:=[s.kind,s.n]
def nJ (ins:List bU) (t:TH) (wd:bU × Int):TH :=
 if wd.1.kind=1 then t
 else
  let s:=gQ ins t.k.cells wd.2
  if s.kind=0 then match t.thr (Bi s) with
   | some u=>{ t with ay:=t.ay++[u] }
   | none=>{ k:=t.k.add ⟨[s],2,-1,-1⟩,ay:=t.ay++[t.k.here],thr:=λj=>if j=Bi s then some t.k.here else t.thr j }
  else { t with ay:=t.ay++[s] }
structure Lv where
 c0:Int
 c1:Int
 t:TH
def oI (n:Net) (m:gL):Lv :=
 let k1:=m.cells.foldl (jt n.ins) ⟨[],[],false,false,λ_=>none⟩
 let wd:=n.outs.zip m.ay
 let k2:=wd.foldl (oN n.ins) k1
 let k3:=oE k2 0 k2.n0
 let k4:=oE k3 1 k2.n1
 ⟨if k2.n0 then k2.parts.length else 0,if k2.n1 then k3.parts.length else 0,wd.foldl (nJ n.ins) ⟨k4,[],λ_=>none⟩⟩
def Qx (first:Int) (d:Lv) (s:Source):Int :=
 if s.kind=1 then first+2*(d.t.k.bL s.n).getD 0+1
 else if s.kind=2 then first+2*s.n
 else if s.kind=3 then first+2*(if s.n=0 then d.c0 else d.c1)
 else s.n
def HE (first:Int) (d:Lv) (x:Part):Block:=⟨x.ins.map (Qx first d),x.table,x.b9,x.bh,0⟩
def l9 (n:Net) (m:gL):bt :=
 let ins:=others n.ins
 let d:=oI n m
 ⟨ins,d.t.k.parts.map (HE ins.length d),others n.outs,d.t.ay.map (Qx ins.length d)⟩
def qf (ins:List bU) (np:Nat) (s:Source):Prop :=
 s.kind=0/\0<=s.n/\s.n < (others ins).length\/s.kind=1/\(∃w∈ins,w.kind=1/\s.n=lO w)\/s.kind=2/\0<=s.n/\s.n < np\/s.kind=3/\(s.n=0\/s.n=1)
theorem qf.mono {ins:List bU} {a b:Nat} {s:Source} (h:qf ins a s) (j3:a<=b):qf ins b s:=by
 rcases h with h|h|h|h
 ·exact .inl h
 ·exact .inr (.inl h)
 ·exact .inr (.inr (.inl ⟨h.1,h.2.1,by omega⟩))
 ·exact .inr (.inr (.inr h))
structure Ph (x:Part):Prop where
 k:x.ins.length<=4
 b9:-1<=x.b9/\x.b9<=63
 bh:-1<=x.bh/\x.bh<=255
 table:0<=x.table/\x.table < 2^(2^x.ins.length)
 read:0<=x.b9->x.bh=-1/\x.ins.length<=3/\x.table=0
structure oO (ins:List bU) (nc:Nat) (k:PK):Prop where
 nc:k.cells.length=nc
 cells:∀s∈k.cells,s.kind=2/\0<=s.n/\s.n < k.parts.length
 src:∀(b:Nat) (x:Part),k.parts[b]?=some x->Ph x/\∀s∈x.ins,qf ins b s
 l7:∀x∈k.parts,∀s∈x.ins,s.kind=3->(s.n=0->k.n0=true)/\(s.n=1->k.n1=true)
 bL:∀(b:Nat) (x:Part),k.parts[b]?=some x->0<=x.bh->k.bL x.bh=some b
 back:∀c v,k.bL c=some v->∃b:Nat,v=b/\∃x,k.parts[b]?=some x/\x.bh=c/\0<=c
theorem aom {a b:bU} (h:gC a=gC b):a=b:=by
 cases a;cases b;simp [gC] at h;simp [h]
def tc (st:(List Int->Option Int) × Int) (w:bU):(List Int->Option Int) × Int:=if w.kind=1 then st else (gq st.1 (gC w) st.2,st.2+1)
theorem ans (l:List bU):wh l=(l.foldl tc (λ_=>none,0)).1:=rfl
theorem Ue:∀(l:List bU) (st:(List Int->Option Int) × Int),0<=st.2->(∀k v,st.1 k=some v->0<=v/\v < st.2) ->
  (l.foldl tc st).2=st.2+(others l).length/\(∀k v,(l.foldl tc st).1 k=some v->0<=v/\v < st.2+(others l).length) /\
  (∀w∈l,w.kind≠1->∃v,(l.foldl tc st).1 (gC w)=some v)/\∀k v,st.1 k=some v->∃v,(l.foldl tc st).1 k=some v
 | [],st,h0,h=>⟨by simp [others],λk v hk=>by simpa [others] using h k v hk,by simp,λk v hk=>⟨v,hk⟩⟩
 | w :: r,st,h0,h=>by
  by_cases hw:w.kind=1
  ·have e:others (w :: r)=others r:=by simp [others,hw]
   have e2:tc st w=st:=by simp [tc,hw]
   obtain ⟨g1,g2,g3,g4⟩:=Ue r st h0 h
   simp only [vZ,e,e2]
   refine ⟨g1,g2,λx hx hk=>?_,g4⟩
   rcases ez.1 hx with rfl|hx
   ·exact absurd hw hk
   ·exact g3 x hx hk
  ·have e:(others (w :: r)).length=(others r).length+1:=by simp [others,hw]
   have e2:tc st w=(gq st.1 (gC w) st.2,st.2+1):=by simp [tc,hw]
   obtain ⟨g1,g2,g3,g4⟩:=Ue r (gq st.1 (gC w) st.2,st.2+1) (by show 0<=st.2+1;omega) (λk v hk=>by
    simp only [gq] at hk
    split at hk
    ·cases hk;exact ⟨h0,by show st.2 < st.2+1;omega⟩
    ·have:=h k v hk;exact ⟨this.1,by show v < st.2+1;omega⟩)
   simp only [vZ,e,e2]
   simp only at g1 g2
   refine ⟨by rw [g1];push_cast;omega,λk v hk=>?_,λx hx hk=>?_,λk v hk=>?_⟩
   ·have:=g2 k v hk;push_cast;omega
   ·rcases ez.1 hx with rfl|hx
    ·exact g4 (gC x) st.2 (by simp [gq])
    ·exact g3 x hx hk
   ·by_cases Ds:k=gC w
    ·exact g4 k st.2 (by simp [gq,Ds])
    ·exact g4 k v (by simp [gq,Ds,hk])
theorem abI {l:List bU} {w:bU} (hw:w∈l) (hk:w.kind≠1):0<=(wh l (gC w)).getD 0/\(wh l (gC w)).getD 0 < (others l).length:=by
 obtain ⟨_,g2,g3,_⟩:=Ue l (λ_=>none,0) (jR _) (λk v hk=>by cases hk)
 obtain ⟨v,hv⟩:=g3 w hw hk
 have:=g2 _ _ hv
 rw [ans,hv]
 simp only [n6]
 simp only [Int.zero_add] at this
 exact this
theorem Kc {ins:List bU} {cells:List Source} {np:Nat} {sig:Int} (hc:∀s∈cells,s.kind=2/\0<=s.n/\s.n < np) (h0:0<=sig) (h1:sig < 2+ins.length+cells.length):qf ins np (gQ ins cells sig):=by
 unfold gQ
 split
 ·exact .inr (.inr (.inr ⟨rfl,by simp only;omega⟩))
 ·split
  ·rename_i h2 h3
   have aR:(sig - 2).toNat < ins.length:=by omega
   have e:ins.getD (sig - 2).toNat ⟨0,0,0⟩=ins[(sig - 2).toNat]:=by rw [ig,ep aR,n6]
   rw [e]
   have hm:ins[(sig - 2).toNat]∈ins:=En aR
   simp only
   split
   ·rename_i hk
    exact .inr (.inl ⟨rfl,_,hm,hk,rfl⟩)
   ·rename_i hk
    exact .inl ⟨rfl,(abI hm hk).1,(abI hm hk).2⟩
  ·rename_i h2 h3
   have aR:(sig - 2 - ins.length).toNat < cells.length:=by omega
   have e:cells.getD (sig - 2 - ins.length).toNat ⟨0,0⟩=cells[(sig - 2 - ins.length).toNat]:=by rw [ig,ep aR,n6]
   rw [e]
   exact .inr (.inr (.inl (hc _ (En aR))))
theorem amT (l:List Source):∀s∈xO l,s∈l:=by
 induction l with
 | nil=>simp [xO]
 | cons x r ih =>
  intro s hs
  unfold xO at hs
  split at hs
  ·exact AB _ (ih s hs)
  ·exact hs
theorem amU (l:List Source):(xO l).length<=l.length:=by
 induction l with
 | nil=>simp [xO]
 | cons x r ih=>unfold xO;split<;>simp<;>omega
theorem abJ {b9:Int} {l:List Source}:∀s∈strip b9 l,s∈l:=by
 intro s hs
 unfold strip at hs
 split at hs
 ·exact List.mem_reverse.1 (amT _ s (List.mem_reverse.1 hs))
 ·exact hs
theorem abK (b9:Int) (l:List Source):(strip b9 l).length<=l.length:=by
 unfold strip
 split
 ·simpa using amU l.reverse
 ·exact cR _
theorem abL {b9:Int} {l:List Source} (h:b9 < 0):strip b9 l=l:=if_neg (by omega)
theorem oO.add {ins:List bU} {nc:Nat} {k:PK} (h:oO ins nc k) {x:Part} (hx:Ph x) (hs:∀s∈x.ins,qf ins k.parts.length s) {a b:Bool} (ha:k.n0=true->a=true) (hb:k.n1=true->b=true)
  (hn:∀s∈x.ins,s.kind=3->(s.n=0->a=true)/\(s.n=1->b=true)) (hf:0<=x.bh->k.bL x.bh=none):oO ins nc { (k.add x) with n0:=a,n1:=b }:=by
 have qU:∀(i:Nat) (y:Part),(k.parts++[x])[i]?=some y->(k.parts[i]?=some y)\/(i=k.parts.length/\y=x):=by
  intro i y hy
  rw [Ew] at hy
  split at hy
  ·exact .inl hy
  ·rename_i aR
   have hi:i - k.parts.length=0:=by
    have:=(bY.1 hy).1
    simp at this;omega
   rw [hi] at hy
   simp at hy
   exact .inr ⟨by omega,hy.symm⟩
 refine ⟨h.nc,λs iM=>?_,λi y hy=>?_,λy hy s iM hk=>?_,λi y hy hr=>?_,λc v oV=>?_⟩
 ·have:=h.cells s iM
  simp only [PK.add,gk,nZ]
  exact ⟨this.1,this.2.1,by push_cast;omega⟩
 ·rcases qU i y hy with hy|⟨rfl,rfl⟩
  ·exact h.src i y hy
  ·exact ⟨hx,hs⟩
 ·simp only [PK.add,List.mem_append,Ch] at hy
  rcases hy with hy|rfl
  ·have:=h.l7 y hy s iM hk
   exact ⟨λe=>ha (this.1 e),λe=>hb (this.2 e)⟩
  ·exact hn s iM hk
 ·simp only [PK.add]
  rcases qU i y hy with hy|⟨rfl,rfl⟩
  ·have:=h.bL i y hy hr
   split
   ·rename_i gz
    have cT:y.bh≠x.bh:=λe=>by rw [e,hf gz] at this;cases this
    simp [gq,cT,this]
   ·exact this
  ·rw [if_pos hr];simp [gq]
 ·simp only [PK.add] at oV ⊢
  split at oV
  ·rename_i gz
   simp only [gq] at oV
   split at oV
   ·rename_i e
    cases oV
    exact ⟨k.parts.length,rfl,x,by simp,e.symm,by rw [e];exact gz⟩
   ·obtain ⟨b',h1,y,h2,h3⟩:=h.back c v oV
    exact ⟨b',h1,y,by rw [nY (bY.1 h2).1];exact h2,h3⟩
  ·obtain ⟨b',h1,y,h2,h3⟩:=h.back c v oV
   exact ⟨b',h1,y,by rw [nY (bY.1 h2).1];exact h2,h3⟩
theorem amx {α:Type} {p:α->Bool} {l:List α} {i:Nat} (h:l.findIdx? p=some i):i < l.length:=by
 rw [List.findIdx?_eq_some_iff_findIdx_eq] at h
 exact h.1
theorem aon {ins:List bU} {nc:Nat} {k:PK} (h:oO ins nc k) (eA:∀x∈k.parts,x.bh=-1) {c:Cell} (hc:KG (2+ins.length+nc) c) :
  oO ins (nc+1) (jt ins k c)/\(∀x∈(jt ins k c).parts,x.bh=-1)/\(jt ins k c).parts.length<=k.parts.length+1:=by
 have hs:∀s∈c.ins.map (gQ ins k.cells),qf ins k.parts.length s:=by
  intro s hs
  obtain ⟨g,hg,rfl⟩:=kf.1 hs
  have:=hc.ins g hg
  exact Kc h.cells this.1 (by rw [h.nc];exact this.2)
 unfold jt
 simp only
 generalize hl:strip c.b9 (c.ins.map (gQ ins k.cells))=l
 have IY:∀s∈l,qf ins k.parts.length s:=λs h'=>hs s (by rw [<-hl] at h';exact abJ s h')
 have hlen:l.length<=c.ins.length:=by rw [<-hl];simpa using abK c.b9 (c.ins.map (gQ ins k.cells))
 split
 ·rename_i i hi
  have aR:=amx hi
  refine ⟨⟨by simp [h.nc],λs iM=>?_,h.src,h.l7,h.bL,h.back⟩,eA,by simp⟩
  simp only [List.mem_append,Ch] at iM
  rcases iM with iM|rfl
  ·exact h.cells s iM
  ·exact ⟨rfl,by simp,by simp only;omega⟩
 ·have hp:Ph ⟨l,c.table,c.b9,-1⟩:=by
   rcases hc.vD with ⟨h1,h2,h3,h4⟩|⟨h1,h2,h3,h4⟩
   ·have e:l.length=c.ins.length:=by rw [<-hl,abL (by omega)];simp
    exact ⟨by simp only;omega,by simp only;omega,by simp,by simp only [e];exact ⟨h3,h4⟩,λh0=>by simp only at h0;omega⟩
   ·refine ⟨by simp only;omega,by simp only;omega,by simp,?_,λ_=>⟨rfl,by simp only;omega,h4⟩⟩
    simp only [h4]
    exact ⟨by omega,Int.pow_pos (by decide)⟩
  have H:=h.add hp IY (a:=k.n0||oH 0 l) (b:=k.n1||oH 1 l) (λe=>by simp [e]) (λe=>by simp [e]) (λs iM hk=>⟨λe=>by
    simp only [v5];right
    exact JP.2 ⟨s,iM,by simp [hk,e]⟩,λe=>by
    simp only [v5];right
    exact JP.2 ⟨s,iM,by simp [hk,e]⟩⟩) (λh0=>by simp at h0)
  refine ⟨⟨by simp [h.nc],λs iM=>?_,H.src,H.l7,H.bL,H.back⟩,λx hx=>?_,by simp [PK.add]⟩
  ·simp only [List.mem_append,Ch] at iM
   rcases iM with iM|rfl
   ·exact H.cells s iM
   ·exact ⟨rfl,by simp [PK.here],by simp [PK.here,PK.add];omega⟩
  ·simp only [PK.add,List.mem_append,Ch] at hx
   rcases hx with hx|rfl
   ·exact eA x hx
   ·rfl
structure Sc where
 aN:List Int
 aZ:List Int
 bf:List (Int × Int)
 data:Bool
def okW (w:Int):Prop:=1<=w/\w<=8
structure WU (sc:Sc):Prop where
 aN:∀w∈sc.aN,okW w
 aZ:∀w∈sc.aZ,okW w
 bf:∀m∈sc.bf,okW m.1
inductive WT (sc:Sc):Nat->Int->Expr->Prop
 | const {n:Nat} {w k:Int}:okW w->WT sc (n+1) w (.mk 1 k w [])
 | bh {n:Nat} {w:Int} (i:Nat):sc.aN[i]?=some w->WT sc (n+1) w (.mk 16 i 0 [])
 | data {n:Nat} {w:Int} (i:Nat):sc.data=true->sc.aZ[i]?=some w->WT sc (n+1) w (.mk 18 i 0 [])
 | not {n:Nat} {w:Int} {a:Expr}:WT sc n w a->WT sc (n+1) w (.mk 2 0 0 [a])
 | two {n:Nat} {w op:Int} {a b:Expr}:3<=op->op<=7->WT sc n w a->WT sc n w b->WT sc (n+1) w (.mk op 0 0 [a,b])
 | cmp {n:Nat} {v op:Int} {a b:Expr}:8<=op->op<=9->WT sc n v a->WT sc n v b->WT sc (n+1) 1 (.mk op 0 0 [a,b])
 | tG {n:Nat} {w:Int} {c a b:Expr}:WT sc n 1 c->WT sc n w a->WT sc n w b->WT sc (n+1) w (.mk 10 0 0 [c,a,b])
 | cat {n:Nat} {v w:Int} {a b:Expr}:w=v+1->okW w->WT sc n v a->WT sc n 1 b->WT sc (n+1) w (.mk 11 0 0 [a,b])
 | slice {n:Nat} {v w k:Int} {a:Expr}:0<=k->k+w<=v->okW w->WT sc n v a->WT sc (n+1) w (.mk 12 k w [a])
 | ext {n:Nat} {v w:Int} {a:Expr}:v<=w->okW w->WT sc n v a->WT sc (n+1) w (.mk 13 0 w [a])
 | read {n:Nat} {v w words:Int} (i:Nat) {a:Expr}:sc.bf[i]?=some (w,words)->WT sc n v a->WT sc (n+1) w (.mk 17 i 0 [a])
theorem WT.wide {sc:Sc} (hs:WU sc):∀{n:Nat} {w:Int} {e:Expr},WT sc n w e->okW w
 | _,_,_,.const h=>h
 | _,_,_,.bh i h=>hs.aN _ (cb h)
 | _,_,_,.data i _ h=>hs.aZ _ (cb h)
 | _,_,_,.not h=>h.wide hs
 | _,_,_,.two _ _ h _=>h.wide hs
 | _,_,_,.cmp _ _ _ _=>⟨by omega,by omega⟩
 | _,_,_,.tG _ h _=>h.wide hs
 | _,_,_,.cat _ h _ _=>h
 | _,_,_,.slice _ _ h _=>h
 | _,_,_,.ext _ h _=>h
 | _,_,_,.read i h _=>hs.bf _ (cb h)
theorem WT.up {sc:Sc}:∀{n:Nat} {w:Int} {e:Expr},WT sc n w e->WT sc (n+1) w e
 | _,_,_,.const h=>.const h
 | _,_,_,.bh i h=>.bh i h
 | _,_,_,.data i h1 h=>.data i h1 h
 | _,_,_,.not h=>.not h.up
 | _,_,_,.two a b h1 h2=>.two a b h1.up h2.up
 | _,_,_,.cmp a b h1 h2=>.cmp a b h1.up h2.up
 | _,_,_,.tG h1 h2 h3=>.tG h1.up h2.up h3.up
 | _,_,_,.cat a b h1 h2=>.cat a b h1.up h2.up
 | _,_,_,.slice a b c h=>.slice a b c h.up
 | _,_,_,.ext a b h=>.ext a b h.up
 | _,_,_,.read i h h2=>.read i h h2.up
theorem WT.more {sc sc':Sc} (hr:sc'.aN=sc.aN) (hm:sc'.bf=sc.bf) (ht:sc.data=true->sc'.data=true/\sc'.aZ=sc.aZ):∀{n:Nat} {w:Int} {e:Expr},WT sc n w e->WT sc' n w e
 | _,_,_,.const h=>.const h
 | _,_,_,.bh i h=>.bh i (by rw [hr];exact h)
 | _,_,_,.data i h1 h=>.data i (ht h1).1 (by rw [(ht h1).2];exact h)
 | _,_,_,.not h=>.not (h.more hr hm ht)
 | _,_,_,.two a b h1 h2=>.two a b (h1.more hr hm ht) (h2.more hr hm ht)
 | _,_,_,.cmp a b h1 h2=>.cmp a b (h1.more hr hm ht) (h2.more hr hm ht)
 | _,_,_,.tG h1 h2 h3=>.tG (h1.more hr hm ht) (h2.more hr hm ht) (h3.more hr hm ht)
 | _,_,_,.cat a b h1 h2=>.cat a b (h1.more hr hm ht) (h2.more hr hm ht)
 | _,_,_,.slice a b c h=>.slice a b c (h.more hr hm ht)
 | _,_,_,.ext a b h=>.ext a b (h.more hr hm ht)
 | _,_,_,.read i h h2=>.read i (by rw [hm];exact h) (h2.more hr hm ht)
def nR (sc:Sc) (n:Nat):List Int->List Expr->Prop
 | [],[]=>True
 | w :: ws,e :: es=>WT sc n w e/\nR sc n ws es
 | _,_=>False
theorem WT.args {sc:Sc}:∀{n:Nat} {w:Int} {e:Expr},WT sc (n+1) w e->∃ws,nR sc n ws e.args
 | _,_,_,.const h=>⟨[],trivial⟩
 | _,_,_,.bh i h=>⟨[],trivial⟩
 | _,_,_,.data i h1 h=>⟨[],trivial⟩
 | _,_,_,.not h=>⟨[_],h,trivial⟩
 | _,_,_,.two a b h1 h2=>⟨[_,_],h1,h2,trivial⟩
 | _,_,_,.cmp a b h1 h2=>⟨[_,_],h1,h2,trivial⟩
 | _,_,_,.tG h1 h2 h3=>⟨[_,_,_],h1,h2,h3,trivial⟩
 | _,_,_,.cat a b h1 h2=>⟨[_,_],h1,h2,trivial⟩
 | _,_,_,.slice a b c h=>⟨[_],h,trivial⟩
 | _,_,_,.ext a b h=>⟨[_],h,trivial⟩
 | _,_,_,.read i h h2=>⟨[_],h2,trivial⟩
theorem nR.get {sc:Sc} {n:Nat}:∀{ws:List Int} {es:List Expr},nR sc n ws es->∀(i:Nat) (e:Expr),es[i]?=some e->∃w,ws[i]?=some w/\WT sc n w e
 | [],[],_,i,e,h=>by simp at h
 | w :: ws,x :: es,h,0,e,he=>by simp at he;subst he;exact ⟨w,rfl,h.1⟩
 | w :: ws,x :: es,h,i+1,e,he=>by simpa using nR.get h.2 i e (by simpa using he)
theorem nR.len {sc:Sc} {n:Nat}:∀{ws:List Int} {es:List Expr},nR sc n ws es->ws.length=es.length
 | [],[],_=>rfl
 | w :: ws,x :: es,h=>by simp [nR.len h.2]
theorem WT.dK {sc:Sc}:∀{n:Nat} {w:Int} {e:Expr},WT sc n w e->e.args.length<=3
 | _,_,_,.const h=>by simp [Expr.args]
 | _,_,_,.bh i h=>by simp [Expr.args]
 | _,_,_,.data i h1 h=>by simp [Expr.args]
 | _,_,_,.not h=>by simp [Expr.args]
 | _,_,_,.two a b h1 h2=>by simp [Expr.args]
 | _,_,_,.cmp a b h1 h2=>by simp [Expr.args]
 | _,_,_,.tG h1 h2 h3=>by simp [Expr.args]
 | _,_,_,.cat a b h1 h2=>by simp [Expr.args]
 | _,_,_,.slice a b c h=>by simp [Expr.args]
 | _,_,_,.ext a b h=>by simp [Expr.args]
 | _,_,_,.read i h h2=>by simp [Expr.args]
def oh (p:rT) (data:Bool):Sc:=⟨p.aN.map (·.w),p.aZ.map (·.w),p.bf.map λm=>(m.w,m.words),data⟩
structure rH (p:rT):Prop where
 aN:p.aN.length<=3/\∀r∈p.aN,1<=r.w/\r.w<=3/\WT (oh p true) 3 r.w r.next
 bf:p.bf.length<=1/\∀m∈p.bf,1<=m.w/\m.w<=2/\1<=m.words/\m.words<=4/\WT (oh p true) 3 1 m.en/\(∃v,WT (oh p true) 3 v m.ad)/\WT (oh p true) 3 m.w m.da
 aZ:p.aZ.length<=2/\∀t∈p.aZ,1<=t.w/\t.w<=2/\WT (oh p false) 3 1 t.cond
 ec:p.ec.length<=2/\∀t∈p.ec,1<=t.w/\t.w<=2/\WT (oh p true) 3 1 t.cond/\WT (oh p true) 3 t.w t.data
def k6 (ins:Int) (gs:List Gate):Prop:=∀(i:Nat) (g:Gate),gs[i]?=some g->ud (2+ins+i) g
def cJ (ins:Int) (gs:List Gate) (v:Int):Prop:=0<=v/\v < 2+ins+gs.length
theorem cJ.mono {ins:Int} {gs cw:List Gate} {v:Int} (h:cJ ins gs v) (hl:gs.length<=cw.length):cJ ins cw v:=⟨h.1,by have:=h.2;omega⟩
theorem k6.nil (ins:Int):k6 ins []:=λi g h=>by simp at h
theorem k6.add {ins:Int} {gs:List Gate} (h:k6 ins gs) {g:Gate} (hg:ud (2+ins+gs.length) g):k6 ins (gs++[g]):=by
 intro i x hx
 rw [Ew] at hx
 split at hx
 ·exact h i x hx
 ·rename_i aR
  have hi:i - gs.length=0:=by
   have:=(bY.1 hx).1
   simp at this;omega
  rw [hi] at hx
  simp at hx
  subst hx
  have:(i:Int)=gs.length:=by omega
  rw [this];exact hg
def iy (w:bU):Int :=
 if w.kind=1 then 16*w.i+w.bit
 else if w.kind=2 then 1000+32*w.i+w.bit
 else if w.kind=3 then 1000+32*w.i+16
 else if w.kind=4 then 2000+w.i
 else if w.kind=5 then 1000+w.i
 else if w.kind=6 then 2000+32*w.i
 else if w.kind=7 then 2000+32*w.i+16+w.bit
 else 3000+64*w.i+16*(w.kind - 8)+w.bit
def sR (c:Int) (l:List bU):Prop:=l.Pairwise (λa b=>iy a < iy b)/\∀w∈l,iy w < c
theorem sR.nil (c:Int):sR c []:=⟨List.Pairwise.nil,by simp⟩
theorem sR.up {c d:Int} {l:List bU} (h:sR c l) (Re:c<=d):sR d l:=⟨h.1,λw hw=>by have:=h.2 w hw;omega⟩
theorem sR.add {c d:Int} {l:List bU} (h:sR c l) {w:bU} (hc:c<=iy w) (hd:iy w < d):sR d (l++[w]):=by
 refine ⟨?_,λx hx=>?_⟩
 ·rw [oA]
  refine ⟨h.1,by simp,λa ha b hb=>?_⟩
  simp at hb;subst hb
  have:=h.2 a ha
  omega
 ·rcases List.mem_append.1 hx with hx|hx
  ·have:=h.2 x hx;omega
  ·simp at hx;subst hx;exact hd
theorem sR.nodup {c:Int} {l:List bU} (h:sR c l):l.Nodup:=by
 rw [JZ]
 exact h.1.imp λj3 e=>by rw [e] at j3;omega
def atN (rw:List Int) (i k:Int) (w:bU):Prop:=0<=w.i/\0<=w.bit/\((w.i < i/\∃W,rw[w.i.toNat]?=some W/\w.bit < W)\/w.i=i/\w.bit < k)
def rI (rw:List Int) (i k:Int) (l:List bU):Prop:=∀w:bU,w.kind=1->(w∈l↔atN rw i k w)
theorem rI.nil (rw:List Int):rI rw 0 0 []:=λw _=>⟨λh=>(by simp at h),λ⟨h0,h1,h⟩=>by rcases h with ⟨h,_⟩|⟨_,h⟩<;>omega⟩
theorem rI.bit {rw:List Int} {i k:Int} {l:List bU} (h:rI rw i k l) (h0:0<=i) (h1:0<=k):rI rw i (k+1) (l++[⟨1,i,k⟩]):=by
 intro w hw
 rw [List.mem_append,h w hw]
 constructor
 ·rintro (⟨a,b,c⟩|e)
  ·refine ⟨a,b,c.imp id λ⟨x,y⟩=>⟨x,by omega⟩⟩
  ·simp at e;subst e
   exact ⟨h0,h1,.inr ⟨rfl,by simp only;omega⟩⟩
 ·rintro ⟨a,b,c|⟨x,y⟩⟩
  ·exact .inl ⟨a,b,.inl c⟩
  ·by_cases hk:w.bit < k
   ·exact .inl ⟨a,b,.inr ⟨x,hk⟩⟩
   ·right
    have:w.bit=k:=by omega
    cases w
    simp only at *
    subst hw;subst x;subst this
    simp
theorem rI.next {rw:List Int} {i:Nat} {k:Int} {l:List bU} (h:rI rw i k l) (hk:rw[i]?=some k):rI rw (i+1:Nat) 0 l:=by
 intro w hw
 rw [h w hw]
 constructor
 ·rintro ⟨a,b,⟨c,d⟩|⟨c,d⟩⟩
  ·exact ⟨a,b,.inl ⟨by omega,d⟩⟩
  ·refine ⟨a,b,.inl ⟨by omega,k,?_,d⟩⟩
   have:w.i.toNat=i:=by omega
   rw [this];exact hk
 ·rintro ⟨a,b,⟨c,W,d,e⟩|⟨c,d⟩⟩
  ·by_cases hi:w.i < i
   ·exact ⟨a,b,.inl ⟨hi,W,d,e⟩⟩
   ·refine ⟨a,b,.inr ⟨by omega,?_⟩⟩
    have:w.i.toNat=i:=by omega
    rw [this,hk] at d
    cases d
    exact e
  ·omega
theorem rI.other {rw:List Int} {i k:Int} {l:List bU} (h:rI rw i k l) {x:bU} (hx:x.kind≠1):rI rw i k (l++[x]):=by
 intro w hw
 rw [List.mem_append,<-h w hw]
 constructor
 ·rintro (e|e)
  ·exact e
  ·simp at e;subst e;exact absurd hw hx
 ·exact .inl
structure afW (rw:List Int) (l:List bU):Prop where
 tH:∃c,sR c l
 mD:∀w∈l,mD w 1 4/\w.i<=31
 aN:rI rw rw.length 0 l
structure Vf (rw:List Int) (l:List bU):Prop where
 tH:∃c,sR c l
 mD:∀w∈l,Pk.mD w 1 10/\(w.kind=1\/5<=w.kind)
 aN:rI rw rw.length 0 l
theorem aoo {rw:List Int} {ins outs:List bU} {gP:List Gate} {ay:List Int} (hi:afW rw ins) (ho:Vf rw outs) (hg:k6 ins.length gP)
  (hl:ay.length=outs.length) (hd:∀d∈ay,cJ ins.length gP d) (hb:2+ins.length+gP.length<=600):eU ⟨ins,gP,outs,ay⟩ where
 pI:=hb
 ins:=hi.mD
 gP:=hg
 outs:=ho.mD
 ind:=by obtain ⟨c,h⟩:=hi.tH;exact h.nodup
 Lu:=by obtain ⟨c,h⟩:=ho.tH;exact h.nodup
 aN:=λw hw=>by rw [hi.aN w hw,ho.aN w hw]
 pA:=hl
 ay:=λd h=>hd d h
end Go.Proofs.Pk
