import Derived.Test.YthnhbemmlfaihaaGreatU7
import Derived.WalkKit
import Derived.Test.YthnhbemmlfaihaaGreatProg
set_option linter.unusedVariables false
set_option linter.unusedSimpArgs false
set_option maxRecDepth 10000
set_option maxHeartbeats 64000000
namespace Go.Proofs.Pk
open Go Go.Vc
structure bU where
 kind:Int
 i:Int
 bit:Int
 deriving DecidableEq
structure Gate where
 op:Int
 a:Int
 b:Int
 c:Int
 n:Int
 deriving DecidableEq
structure Cell where
 ins:List Int
 table:Int
 bR:Int
structure Block where
 ins:List Int
 table:Int
 bR:Int
 aZ:Int
 key:Int
structure Net where
 ins:List bU
 gM:List Gate
 outs:List bU
 ay:List Int
structure gD where
 n:Int
 cells:List Cell
 ay:List Int
structure bC where
 ins:List bU
 blocks:List Block
 outs:List bU
 ay:List Int
inductive Expr where
 | mk (op k w:Int) (args:List Expr)
def Expr.op:Expr->Int|.mk o _ _ _=>o
def Expr.k:Expr->Int|.mk _ k _ _=>k
def Expr.w:Expr->Int|.mk _ _ w _=>w
def Expr.args:Expr->List Expr|.mk _ _ _ l=>l
structure nI where
 kind:Int
 src:ByteArray
 n:Int
structure tv where
 name:ByteArray
 w:Int
 init:Int
 next:Expr
 s9:nI
structure Mem where
 name:ByteArray
 w:Int
 words:Int
 en:Expr
 ad:Expr
 da:Expr
 s9:nI
structure Take where
 chan:Int
 w:Int
 cond:Expr
structure rV where
 chan:Int
 w:Int
 cond:Expr
 data:Expr
structure rR where
 name:ByteArray
 clock:ByteArray
 aM:List tv
 bf:List Mem
 a8:List Take
 dZ:List rV
structure Head where
 has:Bool
 v:Int
structure jF where
 aM:List Int
 bf:List (List Int)
structure Source where
 kind:Int
 n:Int
 deriving DecidableEq
structure Part where
 ins:List Source
 table:Int
 bR:Int
 aZ:Int
noncomputable def PP:Unit->Program:=λ_=>Tryz.prog
abbrev I0:Value:=.int .i64 0
abbrev U0:Value:=.int .u64 0
abbrev Y0:Value:=.int .u8 0
abbrev N0:Value:=.slice none 0 0
abbrev S0:Value:=.string ByteArray.empty
abbrev B0:Value:=.bool false
abbrev M0:Value:=.map none
@[reducible] def ti (d:TD) (s b:Nat) (z:Value):TI:={ d:=d,size:=s,bytes:=b,zero:=z }
@[reducible] def tF (d:TD) (s b:Nat) (z:Value) (k:Option (List IntKind)):TI:={ d:=d,size:=s,bytes:=b,zero:=z,flat:=true,kd:=k }
@[reducible] def tS (e:TypeId):TI:={ d:=.sl e,size:=1,bytes:=24,zero:=.slice none 0 0 }
def tt:TypeId->Option TI
 | 3=>some (ti (.int .i64) 1 8 I0)
 | 4=>some (ti (.bool) 1 1 B0)
 | 5=>some (ti (.int .u8) 1 1 Y0)
 | 9=>some (ti (.str) 1 16 S0)
 | 22=>some (tS 5)
 | 23=>some (ti (.st [(22,0,1)]) 1 24 (.agg #[N0]))
 | 24=>some (ti (.st [(22,0,1)]) 1 24 (.agg #[N0]))
 | 25=>some (ti (.st [(24,0,1),(22,1,1),(22,2,1),(22,3,1)]) 4 96 (.agg #[N0,N0,N0,N0]))
 | 26=>some (ti (.st [(24,0,1),(22,1,1),(22,2,1),(22,3,1)]) 4 96 (.agg #[N0,N0,N0,N0]))
 | 28=>some (tS 159)
 | 29=>some (tS 163)
 | 30=>some (tS 154)
 | 31=>some (tS 161)
 | 32=>some (ti (.st [(9,0,1),(9,1,1),(28,2,1),(29,3,1),(30,4,1),(31,5,1)]) 6 128 (.agg #[S0,S0,N0,N0,N0,N0]))
 | 33=>some (ti (.st [(9,0,1),(9,1,1),(28,2,1),(29,3,1),(30,4,1),(31,5,1)]) 6 128 (.agg #[S0,S0,N0,N0,N0,N0]))
 | 35=>some (tS 3)
 | 36=>some (tS 35)
 | 37=>some (ti (.st [(35,0,1),(36,1,1)]) 2 48 (.agg #[N0,N0]))
 | 38=>some (ti (.st [(35,0,1),(36,1,1)]) 2 48 (.agg #[N0,N0]))
 | 40=>some (tS 168)
 | 41=>some (tS 4)
 | 42=>some (ti (.st [(40,0,1),(41,1,1)]) 2 48 (.agg #[N0,N0]))
 | 43=>some (ti (.st [(40,0,1),(41,1,1)]) 2 48 (.agg #[N0,N0]))
 | 45=>some (tS 133)
 | 46=>some (tS 118)
 | 47=>some (ti (.st [(45,0,1),(46,1,1),(45,2,1),(35,3,1)]) 4 96 (.agg #[N0,N0,N0,N0]))
 | 48=>some (ti (.st [(45,0,1),(46,1,1),(45,2,1),(35,3,1)]) 4 96 (.agg #[N0,N0,N0,N0]))
 | 49=>some (tS 135)
 | 50=>some (ti (.st [(3,0,1),(49,1,1),(35,2,1)]) 3 56 (.agg #[I0,N0,N0]))
 | 51=>some (ti (.st [(3,0,1),(49,1,1),(35,2,1)]) 3 56 (.agg #[I0,N0,N0]))
 | 52=>some (ti (.st [(48,0,4),(51,4,3),(4,7,1)]) 8 160 (.agg #[N0,N0,N0,N0,I0,N0,N0,B0]))
 | 53=>some (ti (.st [(48,0,4),(51,4,3),(4,7,1)]) 8 160 (.agg #[N0,N0,N0,N0,I0,N0,N0,B0]))
 | 55=>some (tS 76)
 | 56=>some (ti (.st [(45,0,1),(55,1,1),(45,2,1),(35,3,1)]) 4 96 (.agg #[N0,N0,N0,N0]))
 | 57=>some (ti (.st [(45,0,1),(55,1,1),(45,2,1),(35,3,1)]) 4 96 (.agg #[N0,N0,N0,N0]))
 | 58=>some (ti (.int .i64) 1 8 I0)
 | 59=>some (ti (.st [(57,0,4),(58,4,1)]) 5 104 (.agg #[N0,N0,N0,N0,I0]))
 | 60=>some (ti (.st [(57,0,4),(58,4,1)]) 5 104 (.agg #[N0,N0,N0,N0,I0]))
 | 66=>some (ti (.st [(4,0,1),(38,1,2),(41,3,1),(40,4,1)]) 5 104 (.agg #[B0,N0,N0,N0,N0]))
 | 67=>some (ti (.st [(4,0,1),(38,1,2),(41,3,1),(40,4,1)]) 5 104 (.agg #[B0,N0,N0,N0,N0]))
 | 72=>some (tS 74)
 | 74=>some (ti (.int .u64) 1 8 U0)
 | 75=>some (ti (.st [(35,0,1),(3,1,1),(3,2,1),(3,3,1),(74,4,1)]) 5 56 (.agg #[N0,I0,I0,I0,U0]))
 | 76=>some (ti (.st [(35,0,1),(3,1,1),(3,2,1),(3,3,1),(74,4,1)]) 5 56 (.agg #[N0,I0,I0,I0,U0]))
 | 78=>some (ti (.arr 3 5) 3 3 (.agg #[Y0,Y0,Y0]))
 | 91=>some (ti (.st [(35,0,1),(36,1,1)]) 2 48 (.agg #[N0,N0]))
 | 92=>some (ti (.st [(35,0,1),(36,1,1)]) 2 48 (.agg #[N0,N0]))
 | 93=>some (ti (.st [(51,0,3),(92,3,2),(58,5,1)]) 6 112 (.agg #[I0,N0,N0,N0,N0,I0]))
 | 94=>some (ti (.st [(51,0,3),(92,3,2),(58,5,1)]) 6 112 (.agg #[I0,N0,N0,N0,N0,I0]))
 | 96=>some (ti (.st [(35,0,1),(36,1,1),(58,2,1)]) 3 56 (.agg #[N0,N0,I0]))
 | 97=>some (ti (.st [(35,0,1),(36,1,1),(58,2,1)]) 3 56 (.agg #[N0,N0,I0]))
 | 113=>some (tS 36)
 | 117=>some (tF (.st [(3,0,1),(3,1,1),(3,2,1),(3,3,1),(3,4,1)]) 5 40 (.agg #[I0,I0,I0,I0,I0]) none)
 | 118=>some (tF (.st [(3,0,1),(3,1,1),(3,2,1),(3,3,1),(3,4,1)]) 5 40 (.agg #[I0,I0,I0,I0,I0]) none)
 | 129=>some (ti (.arr 2 3) 2 16 (.agg #[I0,I0]))
 | 132=>some (tF (.st [(3,0,1),(3,1,1),(3,2,1)]) 3 24 (.agg #[I0,I0,I0]) (some [.i64,.i64,.i64]))
 | 133=>some (tF (.st [(3,0,1),(3,1,1),(3,2,1)]) 3 24 (.agg #[I0,I0,I0]) (some [.i64,.i64,.i64]))
 | 134=>some (ti (.st [(35,0,1),(3,1,1),(3,2,1)]) 3 40 (.agg #[N0,I0,I0]))
 | 135=>some (ti (.st [(35,0,1),(3,1,1),(3,2,1)]) 3 40 (.agg #[N0,I0,I0]))
 | 139=>some (ti (.st [(35,0,1),(35,1,1),(29,2,1),(4,3,1)]) 4 80 (.agg #[N0,N0,N0,B0]))
 | 140=>some (ti (.st [(35,0,1),(35,1,1),(29,2,1),(4,3,1)]) 4 80 (.agg #[N0,N0,N0,B0]))
 | 141=>some (ti (.st [(22,0,1),(3,1,1)]) 2 32 (.agg #[N0,I0]))
 | 142=>some (ti (.st [(22,0,1),(3,1,1)]) 2 32 (.agg #[N0,I0]))
 | 145=>some (ti (.st [(3,0,1),(9,1,1)]) 2 24 (.agg #[I0,S0]))
 | 146=>some (ti (.st [(3,0,1),(9,1,1)]) 2 24 (.agg #[I0,S0]))
 | 147=>some (tS 149)
 | 148=>some (ti (.st [(3,0,1),(9,1,1),(146,2,2),(146,4,2),(147,6,1)]) 7 96 (.agg #[I0,S0,I0,S0,I0,S0,N0]))
 | 149=>some (ti (.st [(3,0,1),(9,1,1),(146,2,2),(146,4,2),(147,6,1)]) 7 96 (.agg #[I0,S0,I0,S0,I0,S0,N0]))
 | 150=>some (ti (.st [(149,0,7),(142,7,2)]) 9 128 (.agg #[I0,S0,I0,S0,I0,S0,N0,N0,I0]))
 | 151=>some (ti (.st [(149,0,7),(142,7,2)]) 9 128 (.agg #[I0,S0,I0,S0,I0,S0,N0,N0,I0]))
 | 153=>some (ti (.st [(3,0,1),(3,1,1),(149,2,7)]) 9 112 (.agg #[I0,I0,I0,S0,I0,S0,I0,S0,N0]))
 | 154=>some (ti (.st [(3,0,1),(3,1,1),(149,2,7)]) 9 112 (.agg #[I0,I0,I0,S0,I0,S0,I0,S0,N0]))
 | 156=>some (ti (.st [(3,0,1),(9,1,1),(3,2,1)]) 3 32 (.agg #[I0,S0,I0]))
 | 157=>some (ti (.st [(3,0,1),(9,1,1),(3,2,1)]) 3 32 (.agg #[I0,S0,I0]))
 | 158=>some (ti (.st [(9,0,1),(3,1,1),(3,2,1),(149,3,7),(157,10,3)]) 13 160 (.agg #[S0,I0,I0,I0,S0,I0,S0,I0,S0,N0,I0,S0,I0]))
 | 159=>some (ti (.st [(9,0,1),(3,1,1),(3,2,1),(149,3,7),(157,10,3)]) 13 160 (.agg #[S0,I0,I0,I0,S0,I0,S0,I0,S0,N0,I0,S0,I0]))
 | 160=>some (ti (.st [(3,0,1),(3,1,1),(149,2,7),(149,9,7)]) 16 208 (.agg #[I0,I0,I0,S0,I0,S0,I0,S0,N0,I0,S0,I0,S0,I0,S0,N0]))
 | 161=>some (ti (.st [(3,0,1),(3,1,1),(149,2,7),(149,9,7)]) 16 208 (.agg #[I0,I0,I0,S0,I0,S0,I0,S0,N0,I0,S0,I0,S0,I0,S0,N0]))
 | 162=>some (ti (.st [(9,0,1),(3,1,1),(3,2,1),(149,3,7),(149,10,7),(149,17,7),(157,24,3)]) 27 352 (.agg #[S0,I0,I0,I0,S0,I0,S0,I0,S0,N0,I0,S0,I0,S0,I0,S0,N0,I0,S0,I0,S0,I0,S0,N0,I0,S0,I0]))
 | 163=>some (ti (.st [(9,0,1),(3,1,1),(3,2,1),(149,3,7),(149,10,7),(149,17,7),(157,24,3)]) 27 352 (.agg #[S0,I0,I0,I0,S0,I0,S0,I0,S0,N0,I0,S0,I0,S0,I0,S0,N0,I0,S0,I0,S0,I0,S0,N0,I0,S0,I0]))
 | 165=>some (ti (.int .u64) 1 8 U0)
 | 167=>some (ti (.st [(4,0,1),(3,1,1)]) 2 16 (.agg #[B0,I0]))
 | 168=>some (ti (.st [(4,0,1),(3,1,1)]) 2 16 (.agg #[B0,I0]))
 | 169=>some (ti (.st [(48,0,4),(58,4,1)]) 5 104 (.agg #[N0,N0,N0,N0,I0]))
 | 170=>some (ti (.st [(48,0,4),(58,4,1)]) 5 104 (.agg #[N0,N0,N0,N0,I0]))
 | 178=>some (ti (.st [(57,0,4)]) 4 96 (.agg #[N0,N0,N0,N0]))
 | 179=>some (ti (.st [(57,0,4)]) 4 96 (.agg #[N0,N0,N0,N0]))
 | 184=>some (ti (.map 3 4) 1 8 M0)
 | 191=>some (ti (.map 74 3) 1 8 M0)
 | 192=>some (ti (.map 74 4) 1 8 M0)
 | 199=>some (ti (.int .u64) 1 8 U0)
 | 213=>some (ti (.st [(3,0,1),(35,1,1)]) 2 32 (.agg #[I0,N0]))
 | 214=>some (ti (.st [(3,0,1),(35,1,1)]) 2 32 (.agg #[I0,N0]))
 | 216=>some (ti (.map 3 3) 1 8 M0)
 | 244=>some (ti (.map 133 3) 1 8 M0)
 | 252=>some (ti (.arr 3 3) 3 24 (.agg #[I0,I0,I0]))
 | 256=>some (ti (.map 259 4) 1 8 M0)
 | 257=>some (ti (.map 259 3) 1 8 M0)
 | 258=>some (tF (.st [(3,0,1),(3,1,1)]) 2 16 (.agg #[I0,I0]) (some [.i64,.i64]))
 | 259=>some (tF (.st [(3,0,1),(3,1,1)]) 2 16 (.agg #[I0,I0]) (some [.i64,.i64]))
 | 274=>some (ti (.st [(3,0,1),(46,1,1)]) 2 32 (.agg #[I0,N0]))
 | 275=>some (ti (.st [(3,0,1),(46,1,1)]) 2 32 (.agg #[I0,N0]))
 | 276=>some (ti (.st [(275,0,2),(35,2,1),(35,3,1),(36,4,1),(3,5,1)]) 6 112 (.agg #[I0,N0,N0,N0,N0,I0]))
 | 277=>some (ti (.st [(275,0,2),(35,2,1),(35,3,1),(36,4,1),(3,5,1)]) 6 112 (.agg #[I0,N0,N0,N0,N0,I0]))
 | 279=>some (ti (.st [(33,0,6),(45,6,1),(36,7,1)]) 8 176 (.agg #[S0,S0,N0,N0,N0,N0,N0,N0]))
 | 280=>some (ti (.st [(33,0,6),(45,6,1),(36,7,1)]) 8 176 (.agg #[S0,S0,N0,N0,N0,N0,N0,N0]))
 | 281=>some (ti (.st [(275,0,2),(45,2,1),(35,3,1)]) 4 80 (.agg #[I0,N0,N0,N0]))
 | 282=>some (ti (.st [(275,0,2),(45,2,1),(35,3,1)]) 4 80 (.agg #[I0,N0,N0,N0]))
 | 284=>some (ti (.st [(275,0,2),(3,2,1)]) 3 40 (.agg #[I0,N0,I0]))
 | 285=>some (ti (.st [(275,0,2),(3,2,1)]) 3 40 (.agg #[I0,N0,I0]))
 | 288=>some (ti (.st [(275,0,2),(35,2,1)]) 3 56 (.agg #[I0,N0,N0]))
 | 289=>some (ti (.st [(275,0,2),(35,2,1)]) 3 56 (.agg #[I0,N0,N0]))
 | 294=>some (tS 307)
 | 295=>some (tS 302)
 | 296=>some (ti (.arr 2 4) 2 2 (.agg #[B0,B0]))
 | 297=>some (ti (.st [(48,0,4),(244,4,1),(294,5,1),(295,6,1),(296,7,2),(216,9,1)]) 10 168 (.agg #[N0,N0,N0,N0,M0,N0,N0,B0,B0,M0]))
 | 298=>some (ti (.st [(48,0,4),(244,4,1),(294,5,1),(295,6,1),(296,7,2),(216,9,1)]) 10 168 (.agg #[N0,N0,N0,N0,M0,N0,N0,B0,B0,M0]))
 | 301=>some (tF (.st [(3,0,1),(3,1,1)]) 2 16 (.agg #[I0,I0]) (some [.i64,.i64]))
 | 302=>some (tF (.st [(3,0,1),(3,1,1)]) 2 16 (.agg #[I0,I0]) (some [.i64,.i64]))
 | 304=>some (ti (.arr 2 302) 4 32 (.agg #[I0,I0,I0,I0]))
 | 306=>some (ti (.st [(295,0,1),(3,1,1),(3,2,1),(3,3,1)]) 4 48 (.agg #[N0,I0,I0,I0]))
 | 307=>some (ti (.st [(295,0,1),(3,1,1),(3,2,1),(3,3,1)]) 4 48 (.agg #[N0,I0,I0,I0]))
 | 308=>some (ti (.map 302 302) 1 8 M0)
 | 325=>some (ti (.st [(3,0,1),(58,1,1)]) 2 16 (.agg #[I0,I0]))
 | 326=>some (ti (.st [(3,0,1),(58,1,1)]) 2 16 (.agg #[I0,I0]))
 | 345=>some (tS 9)
 | 356=>some (ti (.map 133 4) 1 8 M0)
 | 361=>some (ti (.st [(35,0,1),(58,1,1)]) 2 32 (.agg #[N0,I0]))
 | 362=>some (ti (.st [(35,0,1),(58,1,1)]) 2 32 (.agg #[N0,I0]))
 | 365=>some (ti (.arr 3 4) 3 3 (.agg #[B0,B0,B0]))
 | _=>none
theorem tiN {t:TypeId} {i:TI} (h1:i.flat=false) (h2:i.kd=none) (hz:(Tryz.prog.info? t).map (·.zero)=some (some i.zero)) (hb:Yl Tryz.prog t i=true):px Tryz.prog t i :=
 adw hz hb (λh=>by rw [h1] at h;cases h) (λ_ h=>by rw [h2] at h;cases h)
theorem afL:∀t i,tt t=some i->px Tryz.prog t i:=by
 intro t i h
 unfold tt at h
 split at h
 all_goals cases h
 all_goals first|exact tiN rfl rfl (by kernel_rfl) (by kernel_rfl)|skip
 all_goals refine adw (by kernel_rfl) (by kernel_rfl) (λ_=>⟨rfl,λvs us w _ _ h1 h2 op x y fk=>aml (by kernel_rfl) (by kernel_rfl) (by kernel_rfl) (by kernel_rfl) vs us w h1 h2 op x y fk⟩) (λks h=>?_)
 all_goals cases h
 all_goals exact amE (by kernel_rfl) (by kernel_rfl) (by kernel_rfl)
def bM (x:Int):List SV:=[.i .i64 λ_=>x]
theorem cQ (x:Int):du (bM x)/\(bM x).all SV.one=true:=⟨⟨trivial,trivial⟩,rfl⟩
def oC:jh:=⟨Int,bM,0⟩
def jq (x:Int):List SV:=[.i .u8 λ_=>x]
theorem tU (x:Int):du (jq x)/\(jq x).all SV.one=true:=⟨⟨trivial,trivial⟩,rfl⟩
def afM:jh:=⟨Int,jq,0⟩
def jb (x:Bool):List SV:=[.b λ_=>x]
theorem tP (x:Bool):du (jb x)/\(jb x).all SV.one=true:=⟨⟨trivial,trivial⟩,rfl⟩
def Uu:jh:=⟨Bool,jb,false⟩
def mE (x:Int):List SV:=[.i .u64 λ_=>x]
theorem OP (x:Int):du (mE x)/\(mE x).all SV.one=true:=⟨⟨trivial,trivial⟩,rfl⟩
def aex:jh:=⟨Int,mE,0⟩
def jc (x:List Int):List SV:=[.sl 1 bM (λ_=>x)]
theorem pW (x:List Int):du (jc x)/\(jc x).all SV.one=true:=⟨⟨λy=>(cQ y).1,trivial⟩,rfl⟩
def Uv:jh:=⟨List Int,jc,[]⟩
def Hl (x:List (List Int)):List SV:=[.sl 1 jc (λ_=>x)]
theorem abq (x:List (List Int)):du (Hl x)/\(Hl x).all SV.one=true:=⟨⟨λy=>(pW y).1,trivial⟩,rfl⟩
def an4:jh:=⟨List (List Int),Hl,[]⟩
def dm (x:bU):List SV:=[.i .i64 (λ_=>x.kind),.i .i64 (λ_=>x.i),.i .i64 (λ_=>x.bit)]
theorem gS (x:bU):du (dm x)/\(dm x).all SV.one=true:=⟨⟨trivial,trivial,trivial,trivial⟩,rfl⟩
def Ha:jh:=⟨bU,dm,⟨0,0,0⟩⟩
def dD (x:Gate):List SV:=[.i .i64 (λ_=>x.op),.i .i64 (λ_=>x.a),.i .i64 (λ_=>x.b),.i .i64 (λ_=>x.c),.i .i64 (λ_=>x.n)]
theorem eO (x:Gate):du (dD x)/\(dD x).all SV.one=true:=⟨⟨trivial,trivial,trivial,trivial,trivial,trivial⟩,rfl⟩
def adB:jh:=⟨Gate,dD,⟨0,0,0,0,0⟩⟩
def rL (x:Cell):List SV:=[.sl 1 bM (λ_=>x.ins),.i .i64 (λ_=>x.table),.i .i64 (λ_=>x.bR)]
theorem Aw (x:Cell):du (rL x)/\(rL x).all SV.one=true:=⟨⟨λy=>(cQ y).1,trivial,trivial,trivial⟩,rfl⟩
def adC:jh:=⟨Cell,rL,⟨[],0,0⟩⟩
def ph (x:Block):List SV:=[.sl 1 bM (λ_=>x.ins),.i .i64 (λ_=>x.table),.i .i64 (λ_=>x.bR),.i .i64 (λ_=>x.aZ),.i .u64 (λ_=>x.key)]
theorem JJ (x:Block):du (ph x)/\(ph x).all SV.one=true:=⟨⟨λy=>(cQ y).1,trivial,trivial,trivial,trivial,trivial⟩,rfl⟩
def acA:jh:=⟨Block,ph,⟨[],0,0,0,0⟩⟩
def EP (x:Head):List SV:=[.b (λ_=>x.has),.i .i64 (λ_=>x.v)]
theorem Oy (x:Head):du (EP x)/\(EP x).all SV.one=true:=⟨⟨trivial,trivial,trivial⟩,rfl⟩
def adD:jh:=⟨Head,EP,⟨false,0⟩⟩
def Qx (x:ByteArray):List SV:=[.str (λ_=>x)]
theorem ao8 (x:ByteArray):du (Qx x)/\(Qx x).all SV.one=true:=⟨⟨trivial,trivial⟩,rfl⟩
def aey:jh:=⟨ByteArray,Qx,ByteArray.empty⟩
def my (x:Source):List SV:=[.i .i64 (λ_=>x.kind),.i .i64 (λ_=>x.n)]
theorem yH (x:Source):du (my x)/\(my x).all SV.one=true:=⟨⟨trivial,trivial,trivial⟩,rfl⟩
def Oq:jh:=⟨Source,my,⟨0,0⟩⟩
def u4 (x:Part):List SV:=[.sl 2 my (λ_=>x.ins),.i .i64 (λ_=>x.table),.i .i64 (λ_=>x.bR),.i .i64 (λ_=>x.aZ)]
theorem Oz (x:Part):du (u4 x)/\(u4 x).all SV.one=true:=⟨⟨λy=>(yH y).1,trivial,trivial,trivial,trivial⟩,rfl⟩
def adE:jh:=⟨Part,u4,⟨[],0,0,0⟩⟩
def es:ByteArray:=ByteArray.empty
def cA:Nat->Expr->SV
 | 0,_=>.dg
 | n+1,x=>.sl 7 (λy=>[.i .i64 (λ_=>y.op),.str (λ_=>es),.i .i64 (λ_=>y.k),.str (λ_=>es),.i .i64 (λ_=>y.w),.str (λ_=>es),cA n y]) (λ_=>x.args)
def cE (n:Nat) (x:Expr):List SV:=[.i .i64 (λ_=>x.op),.str (λ_=>es),.i .i64 (λ_=>x.k),.str (λ_=>es),.i .i64 (λ_=>x.w),.str (λ_=>es),cA n x]
theorem Cw:∀(n:Nat) (x:Expr),LF (cA n x)
 | 0,x=>trivial
 | n+1,x=>λy=>⟨trivial,trivial,trivial,trivial,trivial,trivial,Cw n y,trivial⟩
theorem Kl (n:Nat) (x:Expr):(cA n x).one=true:=by cases n<;>rfl
theorem oF (n:Nat) (x:Expr):du (cE n x)/\(cE n x).all SV.one=true :=
 ⟨⟨trivial,trivial,trivial,trivial,trivial,trivial,Cw n x,trivial⟩,by simp only [cE,DY,JG,Kl];rfl⟩
def Lg (n:Nat):jh:=⟨Expr,cE n,.mk 0 0 0 []⟩
def u5 (x:nI):List SV:=[.i .i64 (λ_=>x.kind),.str (λ_=>x.src),.i .i64 (λ_=>x.n)]
def zm (n:Nat) (x:tv):List SV:=[.str (λ_=>x.name),.i .i64 (λ_=>x.w),.i .i64 (λ_=>x.init)]++cE n x.next++u5 x.s9
def sA (n:Nat) (x:Mem):List SV:=[.str (λ_=>x.name),.i .i64 (λ_=>x.w),.i .i64 (λ_=>x.words)]++cE n x.en++cE n x.ad++cE n x.da++u5 x.s9
def y8 (n:Nat) (x:Take):List SV:=[.i .i64 (λ_=>x.chan),.i .i64 (λ_=>x.w)]++cE n x.cond
def zn (n:Nat) (x:rV):List SV:=[.i .i64 (λ_=>x.chan),.i .i64 (λ_=>x.w)]++cE n x.cond++cE n x.data
theorem Hb (n:Nat) (x:tv):du (zm n x)/\(zm n x).all SV.one=true:=by
 refine ⟨by simp [zm,u5,cE,du,LF,Cw],?_⟩
 simp only [zm,u5,cE,DV,jP,DY,JG,Kl];rfl
theorem Hd (n:Nat) (x:Mem):du (sA n x)/\(sA n x).all SV.one=true:=by
 refine ⟨by simp [sA,u5,cE,du,LF,Cw],?_⟩
 simp only [sA,u5,cE,DV,jP,DY,JG,Kl];rfl
theorem G3 (n:Nat) (x:Take):du (y8 n x)/\(y8 n x).all SV.one=true:=by
 refine ⟨by simp [y8,u5,cE,du,LF,Cw],?_⟩
 simp only [y8,u5,cE,DV,jP,DY,JG,Kl];rfl
theorem He (n:Nat) (x:rV):du (zn n x)/\(zn n x).all SV.one=true:=by
 refine ⟨by simp [zn,u5,cE,du,LF,Cw],?_⟩
 simp only [zn,u5,cE,DV,jP,DY,JG,Kl];rfl
def Km (n:Nat):jh:=⟨tv,zm n,⟨es,0,0,.mk 0 0 0 [],⟨0,es,0⟩⟩⟩
def Kn (n:Nat):jh:=⟨Mem,sA n,⟨es,0,0,.mk 0 0 0 [],.mk 0 0 0 [],.mk 0 0 0 [],⟨0,es,0⟩⟩⟩
def Ka (n:Nat):jh:=⟨Take,y8 n,⟨0,0,.mk 0 0 0 []⟩⟩
def Ko (n:Nat):jh:=⟨rV,zn n,⟨0,0,.mk 0 0 0 [],.mk 0 0 0 []⟩⟩
def el (n m:Nat):TypeId->Option jh
 | 3=>some oC
 | 5=>some afM
 | 4=>some Uu
 | 74=>some aex
 | 35=>some Uv
 | 36=>some an4
 | 133=>some Ha
 | 118=>some adB
 | 135=>some adC
 | 76=>some acA
 | 168=>some adD
 | 9=>some aey
 | 302=>some Oq
 | 307=>some adE
 | 149=>some (Lg n)
 | 159=>some (Km m)
 | 163=>some (Kn m)
 | 154=>some (Ka m)
 | 161=>some (Ko m)
 | _=>none
theorem v5 {η:Nat->Value} {q:Nat->Live} {H:bO} {x:SV} {r:List SV} {v:Value} {vs:List Value} (h:rel η q H x v) (h':a9 η q H r vs):a9 η q H (x :: r) (v :: vs):=by
 simp only [a9];exact ⟨_,_,rfl,h,h'⟩
theorem T7 {η:Nat->Value} {q:Nat->Live} {H:bO}:a9 η q H [] []:=by simp [a9]
theorem GS {η:Nat->Value} {q:Nat->Live} {H:bO} {T:Type} {sz:Nat} {c:T->List SV} (h:∀x,du (c x)):rel η q H (.sl sz c (λ_=>[])) (N0):=by
 simp only [rel];exact ⟨⟨none,0,rfl,cR _,.inl (by simp)⟩,h⟩
theorem am9 {H:bO} (n:Nat):rel (λ_=>.nilIface) (λ_=>.un) H (cA n (.mk 0 0 0 [])) (N0):=by
 cases n with
 | zero=>simp [cA,rel]
 | succ n=>exact GS λy=>(oF n y).1
theorem BW (H:bO) (n:Nat):eC H (cE n (.mk 0 0 0 [])) [I0,S0,I0,S0,I0,S0,N0]:=by
 refine v5 (by simp [rel,Expr.op]) (v5 (by simp [rel,es]) (v5 (by simp [rel,Expr.k]) (v5 (by simp [rel,es]) (v5 (by simp [rel,Expr.w]) (v5 (by simp [rel,es]) (v5 ?_ T7))))))
 exact am9 n
theorem arD (H:bO):eC H (jc []) [N0]:=v5 (GS λy=>(cQ y).1) T7
theorem ap7 (H:bO):eC H (Hl []) [N0]:=v5 (GS λy=>(pW y).1) T7
theorem arE (H:bO):eC H (rL ⟨[],0,0⟩) [N0,I0,I0]:=v5 (GS λy=>(cQ y).1) (by simp [a9,rel])
theorem ap8 (H:bO):eC H (ph ⟨[],0,0,0,0⟩) [N0,I0,I0,I0,U0]:=v5 (GS λy=>(cQ y).1) (by simp [a9,rel])
theorem arF (H:bO):eC H (u4 ⟨[],0,0,0⟩) [N0,I0,I0,I0]:=v5 (GS λy=>(yH y).1) (by simp [a9,rel])
theorem aah (H:bO):eC H (u5 ⟨0,es,0⟩) [I0,S0,I0]:=by simp [u5,a9,rel,es]
theorem zE (H:bO) (n:Nat):eC H ((Lg n).c (Lg n).z) [I0,S0,I0,S0,I0,S0,N0]:=BW H n
theorem ato (H:bO) (n:Nat):eC H ((Km n).c (Km n).z) [S0,I0,I0,I0,S0,I0,S0,I0,S0,N0,I0,S0,I0] :=
 jN (jN (s:=[_,_,_]) (v:=[_,_,_]) (by simp [a9,rel,Km,es]) (BW H n)) (aah H)
theorem atp (H:bO) (n:Nat):eC H ((Kn n).c (Kn n).z) [S0,I0,I0,I0,S0,I0,S0,I0,S0,N0,
  I0,S0,I0,S0,I0,S0,N0,I0,S0,I0,S0,I0,S0,N0,I0,S0,I0] :=
 jN (jN (jN (jN (s:=[_,_,_]) (v:=[_,_,_]) (by simp [a9,rel,Kn,es]) (BW H n)) (BW H n)) (BW H n)) (aah H)
theorem arG (H:bO) (n:Nat):eC H ((Ka n).c (Ka n).z) [I0,I0,I0,S0,I0,S0,I0,S0,N0] :=
 jN (s:=[_,_]) (v:=[_,_]) (by simp [a9,rel,Ka]) (BW H n)
theorem atq (H:bO) (n:Nat):eC H ((Ko n).c (Ko n).z) [I0,I0,I0,S0,I0,S0,I0,S0,N0,I0,S0,I0,S0,I0,S0,N0] :=
 jN (jN (s:=[_,_]) (v:=[_,_]) (by simp [a9,rel,Ko]) (BW H n)) (BW H n)
theorem aez {T:TypeId->Option TI} (hT:∀t i,tt t=some i->T t=some i) (n m:Nat) (X:Ctx) (h:X.tt=T) (t:TypeId) (E:jh) (he:el n m t=some E):Kz Tryz.prog X t E:=by
 have h1:∀{t i j},tt t=some j->X.tt t=some i->i=j:=λh2 h3=>by rw [h,hT _ _ h2] at h3;cases h3;rfl
 unfold el at he
 split at he
 all_goals cases he
 all_goals
  refine ⟨⟨_,by rw [h];exact hT _ _ rfl⟩,λi hi x=>?_,?_,λi hi H=>?_⟩
  ·cases h1 rfl hi;first|rfl|(cases n<;>rfl)|(cases m<;>rfl)
  ·first|exact cQ|exact tU|exact tP|exact OP|exact pW|exact abq|exact gS|exact eO|exact Aw|exact JJ|exact Oy|exact ao8|exact yH|exact Oz|exact oF n|exact Hb m|exact Hd m|exact G3 m|exact He m
  ·cases h1 rfl hi;first|exact arD H|exact ap7 H|exact arE H|exact ap8 H|exact arF H|exact zE H n|exact ato H m|exact atp H m|exact arG H m|exact atq H m|(simp [oC,bM,afM,jq,Uu,jb,aex,mE,Ha,dm,adB,dD,adD,EP,aey,Qx,Oq,my,a9,rel,Value.cells])
theorem arH (n m:Nat) (X:Ctx) (h:X.tt=tt) (t:TypeId) (E:jh) (he:el n m t=some E):Kz Tryz.prog X t E:=aez (λ_ _ h=>h) n m X h t E he
theorem mixed:Tryz.prog.follows .mixedOrders=true:=by kernel_rfl
@[reducible] def fB (n m:Nat) (fs:List (Nat × Func)) (sp:List (Nat × Vc.Spec)) (io lp cut row emp:List Nat:=[]):Ctx:=Ys tt (el n m) fs sp io lp cut row emp
theorem fG (n m:Nat) {fs:List (Nat × Func)} {sp:List (Nat × Vc.Spec)} {io lp cut row emp:List Nat} (hf:C9 (λf fn=>n5 (PP ()) f fn/\pV fn=true) fs) (hs:C9 (λf S=>cZ (PP ()) f S) sp):CB PP (fB n m fs sp io lp cut row emp):=afK afL (arH n m) mixed hf hs
theorem cq {i:Nat} (h:i < 4611686018427387904):IntKind.i64.wrap ((i:Int)+1)=((i+1:Nat):Int):=by rw [cu (by omega) (by omega)];rfl
theorem n0 (i:Nat):(0:Int)<=(i:Int):=GI _
theorem bD {α:Type} {l:List α} {i:Nat} (h:i < l.length):∃x,l[i]?=some x:=⟨_,eo h⟩
def sB (n:Net):List SV:=[.sl 3 dm (λ_=>n.ins),.sl 5 dD (λ_=>n.gM),.sl 3 dm (λ_=>n.outs),.sl 1 bM (λ_=>n.ay)]
theorem tQ (n:Net):du (sB n):=⟨λx=>(gS x).1,λx=>(eO x).1,λx=>(gS x).1,λx=>(cQ x).1,trivial⟩
def mB (w:bU) (lo hi:Int):Prop:=lo<=w.kind/\w.kind<=hi/\0<=w.i/\0<=w.bit/\w.bit<=7
structure tV (uA:Int) (g:Gate):Prop where
 op:1<=g.op/\g.op<=7
 a:0<=g.a/\g.a < uA
 b:0<=g.b/\g.b < uA
 c:0<=g.c/\g.c < uA
 n:0<=g.n/\g.n < 64
structure eX (n:Net):Prop where
 pF:2+n.ins.length+n.gM.length<=600
 ins:∀w∈n.ins,mB w 1 4/\w.i<=31
 gM:∀(i:Nat) (g:Gate),n.gM[i]?=some g->tV (2+n.ins.length+i) g
 outs:∀w∈n.outs,mB w 1 10/\(w.kind=1\/5<=w.kind)
 ind:n.ins.Nodup
 Lh:n.outs.Nodup
 aM:∀w:bU,w.kind=1->(w∈n.ins↔w∈n.outs)
 p8:n.ay.length=n.outs.length
 ay:∀d∈n.ay,0<=d/\d < 2+n.ins.length+n.gM.length
structure Kp (uA:Int) (c:Cell):Prop where
 ins:∀s∈c.ins,0<=s/\s < uA
 vw:c.bR=-1/\c.ins.length<=4/\0<=c.table/\c.table < 2^(2^c.ins.length)\/0<=c.bR/\c.bR<=63/\c.ins.length=3/\c.table=0
structure jG (n:Net) (m:gD):Prop where
 ni:m.n=n.ins.length
 dK:m.cells.length<=n.gM.length
 cells:∀(i:Nat) (c:Cell),m.cells[i]?=some c->Kp (2+n.ins.length+i) c
 p8:m.ay.length=n.outs.length
 ay:∀d∈m.ay,0<=d/\d < 2+n.ins.length+m.cells.length
def bC.sigs (p:bC):Int:=p.ins.length+2*p.blocks.length
def cS (n:Nat) (s:Int):Nat:=((s - n) / 2).toNat
def gk (n:Nat) (s:Int):Prop:=(s - n) % 2=1
structure k8 (p:bC) (s:Int):Prop where
 lo:0<=s
 hi:s < p.sigs
 flip:(p.ins.length:Int)<=s->gk p.ins.length s->∃x,p.blocks[cS p.ins.length s]?=some x/\0<=x.aZ
structure yV (x:Block):Prop where
 k:x.ins.length<=4
 bR:-1<=x.bR/\x.bR<=63
 aZ:-1<=x.aZ/\x.aZ<=255
 table:0<=x.table/\x.table < 2^(2^x.ins.length)
 read:0<=x.bR->x.aZ=-1/\x.ins.length<=3/\x.table=0
structure Shape (p:bC):Prop where
 dK:p.blocks.length<=600
 p8:p.ay.length=p.outs.length
 ay:∀s∈p.ay,k8 p s
 ins:∀w∈p.ins,mB w 2 4
 outs:∀w∈p.outs,mB w 5 10
 formed:∀x∈p.blocks,yV x
 used:∀x∈p.blocks,∀s∈x.ins,k8 p s
 aM:∀(i j:Nat) (x y:Block),p.blocks[i]?=some x->p.blocks[j]?=some y->0<=x.aZ->x.aZ=y.aZ->i=j
def k9 (p:bC) (r:Nat->Nat):Prop:=∀(b:Nat) (x:Block),p.blocks[b]?=some x->∀s∈x.ins,(p.ins.length:Int)<=s->¬gk p.ins.length s->r (cS p.ins.length s) < r b
structure PK where
 parts:List Part
 cells:List Source
 n0:Bool
 n1:Bool
 bL:Int->Option Int
def gG (w:bU):List Int:=[w.kind,w.i,w.bit]
def gn {K:Type} [DecidableEq K] (m:K->Option Int) (k:K) (v:Int):K->Option Int:=λj=>if j=k then some v else m j
def others (l:List bU):List bU:=l.filter (λw=>w.kind≠1)
def v9 (l:List bU):List Int->Option Int:=(l.foldl (λ(st:(List Int->Option Int) × Int) w=>if w.kind=1 then st else (gn st.1 (gG w) st.2,st.2+1)) (λ_=>none,0)).1
def lN (w:bU):Int:=8*w.i+w.bit
def gP (ins:List bU) (cells:List Source) (sig:Int):Source :=
 if sig < 2 then ⟨3,sig⟩
 else if sig - 2 < ins.length then
  let w:=ins.getD (sig - 2).toNat ⟨0,0,0⟩
  if w.kind=1 then ⟨1,lN w⟩ else ⟨0,(v9 ins (gG w)).getD 0⟩
 else cells.getD (sig - 2 - ins.length).toNat ⟨0,0⟩
def PK.add (k:PK) (x:Part):PK:={ k with parts:=k.parts++[x],bL:=if 0<=x.aZ then gn k.bL x.aZ k.parts.length else k.bL }
def PK.here (k:PK):Source:=⟨2,k.parts.length⟩
def xH:List Source->List Source
 | []=>[]
 | s :: r=>if s=⟨3,0⟩ then xH r else s :: r
def strip (bR:Int) (l:List Source):List Source:=if 0<=bR then (xH l.reverse).reverse else l
def WO (c:Cell) (l:List Source) (x:Part):Bool:=x.table == c.table&&x.bR == c.bR&&x.ins == l
def oG (v:Int) (l:List Source):Bool:=l.any λs=>s.kind == 3&&s.n == v
def jv (ins:List bU) (k:PK) (c:Cell):PK :=
 let l:=strip c.bR (c.ins.map (gP ins k.cells))
 match k.parts.findIdx? (WO c l) with
 | some i=>{ k with cells:=k.cells++[⟨2,i⟩] }
 | none=>{ (k.add ⟨l,c.table,c.bR,-1⟩) with cells:=k.cells++[k.here],n0:=k.n0||oG 0 l,n1:=k.n1||oG 1 l }
def AE (l:List Part) (i:Nat) (code:Int):List Part:=l.modify i λx=>{ x with aZ:=code }
def j4 (k:PK) (s:Source) (code:Int):PK :=
 if s.kind=3 then k.add ⟨[],s.n,-1,code⟩
 else if s.kind=2/\(k.parts.getD s.n.toNat ⟨[],0,0,0⟩).bR < 0/\(k.parts.getD s.n.toNat ⟨[],0,0,0⟩).aZ < 0 then
  { k with parts:=AE k.parts s.n.toNat code,bL:=gn k.bL code s.n }
 else k.add ⟨[s],2,-1,code⟩
def oN (ins:List bU) (k:PK) (wd:bU × Int):PK :=
 if wd.1.kind=1 then j4 k (gP ins k.cells wd.2) (lN wd.1)
 else { k with n0:=k.n0||wd.2 == 0,n1:=k.n1||wd.2 == 1 }
def oD (k:PK) (v:Int) (b:Bool):PK:=if b then k.add ⟨[],v,-1,-1⟩ else k
structure TH where
 k:PK
 ay:List Source
 thr:List Int->Option Source
def A0 (s:Source):List Int:=[s.kind,s.n]
def nJ (ins:List bU) (t:TH) (wd:bU × Int):TH :=
 if wd.1.kind=1 then t
 else
  let s:=gP ins t.k.cells wd.2
  if s.kind=0 then match t.thr (A0 s) with
   | some u=>{ t with ay:=t.ay++[u] }
   | none=>{ k:=t.k.add ⟨[s],2,-1,-1⟩,ay:=t.ay++[t.k.here],thr:=λj=>if j=A0 s then some t.k.here else t.thr j }
  else { t with ay:=t.ay++[s] }
structure Lj where
 c0:Int
 c1:Int
 t:TH
def oH (n:Net) (m:gD):Lj :=
 let k1:=m.cells.foldl (jv n.ins) ⟨[],[],false,false,λ_=>none⟩
 let wd:=n.outs.zip m.ay
 let k2:=wd.foldl (oN n.ins) k1
 let k3:=oD k2 0 k2.n0
 let k4:=oD k3 1 k2.n1
 ⟨if k2.n0 then k2.parts.length else 0,if k2.n1 then k3.parts.length else 0,wd.foldl (nJ n.ins) ⟨k4,[],λ_=>none⟩⟩
def Qy (first:Int) (d:Lj) (s:Source):Int :=
 if s.kind=1 then first+2*(d.t.k.bL s.n).getD 0+1
 else if s.kind=2 then first+2*s.n
 else if s.kind=3 then first+2*(if s.n=0 then d.c0 else d.c1)
 else s.n
def Hm (first:Int) (d:Lj) (x:Part):Block:=⟨x.ins.map (Qy first d),x.table,x.bR,x.aZ,0⟩
def l9 (n:Net) (m:gD):bC :=
 let ins:=others n.ins
 let d:=oH n m
 ⟨ins,d.t.k.parts.map (Hm ins.length d),others n.outs,d.t.ay.map (Qy ins.length d)⟩
def pZ (ins:List bU) (np:Nat) (s:Source):Prop :=
 s.kind=0/\0<=s.n/\s.n < (others ins).length\/s.kind=1/\(∃w∈ins,w.kind=1/\s.n=lN w)\/s.kind=2/\0<=s.n/\s.n < np\/s.kind=3/\(s.n=0\/s.n=1)
theorem pZ.mono {ins:List bU} {a b:Nat} {s:Source} (h:pZ ins a s) (j7:a<=b):pZ ins b s:=by
 rcases h with h|h|h|h
 ·exact .inl h
 ·exact .inr (.inl h)
 ·exact .inr (.inr (.inl ⟨h.1,h.2.1,by omega⟩))
 ·exact .inr (.inr (.inr h))
structure Pj (x:Part):Prop where
 k:x.ins.length<=4
 bR:-1<=x.bR/\x.bR<=63
 aZ:-1<=x.aZ/\x.aZ<=255
 table:0<=x.table/\x.table < 2^(2^x.ins.length)
 read:0<=x.bR->x.aZ=-1/\x.ins.length<=3/\x.table=0
structure oO (ins:List bU) (nc:Nat) (k:PK):Prop where
 nc:k.cells.length=nc
 cells:∀s∈k.cells,s.kind=2/\0<=s.n/\s.n < k.parts.length
 src:∀(b:Nat) (x:Part),k.parts[b]?=some x->Pj x/\∀s∈x.ins,pZ ins b s
 l7:∀x∈k.parts,∀s∈x.ins,s.kind=3->(s.n=0->k.n0=true)/\(s.n=1->k.n1=true)
 bL:∀(b:Nat) (x:Part),k.parts[b]?=some x->0<=x.aZ->k.bL x.aZ=some b
 back:∀c v,k.bL c=some v->∃b:Nat,v=b/\∃x,k.parts[b]?=some x/\x.aZ=c/\0<=c
theorem an5 {a b:bU} (h:gG a=gG b):a=b:=by
 cases a;cases b;simp [gG] at h;simp [h]
def s4 (st:(List Int->Option Int) × Int) (w:bU):(List Int->Option Int) × Int:=if w.kind=1 then st else (gn st.1 (gG w) st.2,st.2+1)
theorem ana (l:List bU):v9 l=(l.foldl s4 (λ_=>none,0)).1:=rfl
theorem T8:∀(l:List bU) (st:(List Int->Option Int) × Int),0<=st.2->(∀k v,st.1 k=some v->0<=v/\v < st.2) ->
  (l.foldl s4 st).2=st.2+(others l).length/\(∀k v,(l.foldl s4 st).1 k=some v->0<=v/\v < st.2+(others l).length) /\
  (∀w∈l,w.kind≠1->∃v,(l.foldl s4 st).1 (gG w)=some v)/\∀k v,st.1 k=some v->∃v,(l.foldl s4 st).1 k=some v
 | [],st,h0,h=>⟨by simp [others],λk v hk=>by simpa [others] using h k v hk,by simp,λk v hk=>⟨v,hk⟩⟩
 | w :: r,st,h0,h=>by
  by_cases hw:w.kind=1
  ·have e:others (w :: r)=others r:=by simp [others,hw]
   have e2:s4 st w=st:=by simp [s4,hw]
   obtain ⟨g1,g2,g3,g4⟩:=T8 r st h0 h
   simp only [As,e,e2]
   refine ⟨g1,g2,λx hx hk=>?_,g4⟩
   rcases eB.1 hx with rfl|hx
   ·exact absurd hw hk
   ·exact g3 x hx hk
  ·have e:(others (w :: r)).length=(others r).length+1:=by simp [others,hw]
   have e2:s4 st w=(gn st.1 (gG w) st.2,st.2+1):=by simp [s4,hw]
   obtain ⟨g1,g2,g3,g4⟩:=T8 r (gn st.1 (gG w) st.2,st.2+1) (by show 0<=st.2+1;omega) (λk v hk=>by
    simp only [gn] at hk
    split at hk
    ·cases hk;exact ⟨h0,by show st.2 < st.2+1;omega⟩
    ·have:=h k v hk;exact ⟨this.1,by show v < st.2+1;omega⟩)
   simp only [As,e,e2]
   simp only at g1 g2
   refine ⟨by rw [g1];push_cast;omega,λk v hk=>?_,λx hx hk=>?_,λk v hk=>?_⟩
   ·have:=g2 k v hk;push_cast;omega
   ·rcases eB.1 hx with rfl|hx
    ·exact g4 (gG x) st.2 (by simp [gn])
    ·exact g3 x hx hk
   ·by_cases Dc:k=gG w
    ·exact g4 k st.2 (by simp [gn,Dc])
    ·exact g4 k v (by simp [gn,Dc,hk])
theorem abr {l:List bU} {w:bU} (hw:w∈l) (hk:w.kind≠1):0<=(v9 l (gG w)).getD 0/\(v9 l (gG w)).getD 0 < (others l).length:=by
 obtain ⟨_,g2,g3,_⟩:=T8 l (λ_=>none,0) (j5 _) (λk v hk=>by cases hk)
 obtain ⟨v,hv⟩:=g3 w hw hk
 have:=g2 _ _ hv
 rw [ana,hv]
 simp only [pe]
 simp only [Int.zero_add] at this
 exact this
theorem J0 {ins:List bU} {cells:List Source} {np:Nat} {sig:Int} (hc:∀s∈cells,s.kind=2/\0<=s.n/\s.n < np) (h0:0<=sig) (h1:sig < 2+ins.length+cells.length):pZ ins np (gP ins cells sig):=by
 unfold gP
 split
 ·exact .inr (.inr (.inr ⟨rfl,by simp only;omega⟩))
 ·split
  ·rename_i h2 h3
   have aR:(sig - 2).toNat < ins.length:=by omega
   have e:ins.getD (sig - 2).toNat ⟨0,0,0⟩=ins[(sig - 2).toNat]:=by rw [iE,eo aR,pe]
   rw [e]
   have hm:ins[(sig - 2).toNat]∈ins:=GJ aR
   simp only
   split
   ·rename_i hk
    exact .inr (.inl ⟨rfl,_,hm,hk,rfl⟩)
   ·rename_i hk
    exact .inl ⟨rfl,(abr hm hk).1,(abr hm hk).2⟩
  ·rename_i h2 h3
   have aR:(sig - 2 - ins.length).toNat < cells.length:=by omega
   have e:cells.getD (sig - 2 - ins.length).toNat ⟨0,0⟩=cells[(sig - 2 - ins.length).toNat]:=by rw [iE,eo aR,pe]
   rw [e]
   exact .inr (.inr (.inl (hc _ (GJ aR))))
theorem amF (l:List Source):∀s∈xH l,s∈l:=by
 induction l with
 | nil=>simp [xH]
 | cons x r ih =>
  intro s hs
  unfold xH at hs
  split at hs
  ·exact An _ (ih s hs)
  ·exact hs
theorem amG (l:List Source):(xH l).length<=l.length:=by
 induction l with
 | nil=>simp [xH]
 | cons x r ih=>unfold xH;split<;>simp<;>omega
theorem abt {bR:Int} {l:List Source}:∀s∈strip bR l,s∈l:=by
 intro s hs
 unfold strip at hs
 split at hs
 ·exact List.mem_reverse.1 (amF _ s (List.mem_reverse.1 hs))
 ·exact hs
theorem abu (bR:Int) (l:List Source):(strip bR l).length<=l.length:=by
 unfold strip
 split
 ·simpa using amG l.reverse
 ·exact cR _
theorem abv {bR:Int} {l:List Source} (h:bR < 0):strip bR l=l:=if_neg (by omega)
theorem oO.add {ins:List bU} {nc:Nat} {k:PK} (h:oO ins nc k) {x:Part} (hx:Pj x) (hs:∀s∈x.ins,pZ ins k.parts.length s) {a b:Bool} (ha:k.n0=true->a=true) (hb:k.n1=true->b=true)
  (hn:∀s∈x.ins,s.kind=3->(s.n=0->a=true)/\(s.n=1->b=true)) (hf:0<=x.aZ->k.bL x.aZ=none):oO ins nc { (k.add x) with n0:=a,n1:=b }:=by
 have qS:∀(i:Nat) (y:Part),(k.parts++[x])[i]?=some y->(k.parts[i]?=some y)\/(i=k.parts.length/\y=x):=by
  intro i y hy
  rw [Ea] at hy
  split at hy
  ·exact .inl hy
  ·rename_i aR
   have hi:i - k.parts.length=0:=by
    have:=(bW.1 hy).1
    simp at this;omega
   rw [hi] at hy
   simp at hy
   exact .inr ⟨by omega,hy.symm⟩
 refine ⟨h.nc,λs kr=>?_,λi y hy=>?_,λy hy s kr hk=>?_,λi y hy hr=>?_,λc v oV=>?_⟩
 ·have:=h.cells s kr
  simp only [PK.add,ib,rA]
  exact ⟨this.1,this.2.1,by push_cast;omega⟩
 ·rcases qS i y hy with hy|⟨rfl,rfl⟩
  ·exact h.src i y hy
  ·exact ⟨hx,hs⟩
 ·simp only [PK.add,eP,Ed] at hy
  rcases hy with hy|rfl
  ·have:=h.l7 y hy s kr hk
   exact ⟨λe=>ha (this.1 e),λe=>hb (this.2 e)⟩
  ·exact hn s kr hk
 ·simp only [PK.add]
  rcases qS i y hy with hy|⟨rfl,rfl⟩
  ·have:=h.bL i y hy hr
   split
   ·rename_i gQ
    have cO:y.aZ≠x.aZ:=λe=>by rw [e,hf gQ] at this;cases this
    simp [gn,cO,this]
   ·exact this
  ·rw [if_pos hr];simp [gn]
 ·simp only [PK.add] at oV ⊢
  split at oV
  ·rename_i gQ
   simp only [gn] at oV
   split at oV
   ·rename_i e
    cases oV
    exact ⟨k.parts.length,rfl,x,by simp,e.symm,by rw [e];exact gQ⟩
   ·obtain ⟨b',h1,y,h2,h3⟩:=h.back c v oV
    exact ⟨b',h1,y,by rw [nV (bW.1 h2).1];exact h2,h3⟩
  ·obtain ⟨b',h1,y,h2,h3⟩:=h.back c v oV
   exact ⟨b',h1,y,by rw [nV (bW.1 h2).1];exact h2,h3⟩
theorem amm {α:Type} {p:α->Bool} {l:List α} {i:Nat} (h:l.findIdx? p=some i):i < l.length:=by
 rw [List.findIdx?_eq_some_iff_findIdx_eq] at h
 exact h.1
theorem an6 {ins:List bU} {nc:Nat} {k:PK} (h:oO ins nc k) (eA:∀x∈k.parts,x.aZ=-1) {c:Cell} (hc:Kp (2+ins.length+nc) c) :
  oO ins (nc+1) (jv ins k c)/\(∀x∈(jv ins k c).parts,x.aZ=-1)/\(jv ins k c).parts.length<=k.parts.length+1:=by
 have hs:∀s∈c.ins.map (gP ins k.cells),pZ ins k.parts.length s:=by
  intro s hs
  obtain ⟨g,hg,rfl⟩:=lX.1 hs
  have:=hc.ins g hg
  exact J0 h.cells this.1 (by rw [h.nc];exact this.2)
 unfold jv
 simp only
 generalize hl:strip c.bR (c.ins.map (gP ins k.cells))=l
 have IH:∀s∈l,pZ ins k.parts.length s:=λs h'=>hs s (by rw [<-hl] at h';exact abt s h')
 have hlen:l.length<=c.ins.length:=by rw [<-hl];simpa using abu c.bR (c.ins.map (gP ins k.cells))
 split
 ·rename_i i hi
  have aR:=amm hi
  refine ⟨⟨by simp [h.nc],λs kr=>?_,h.src,h.l7,h.bL,h.back⟩,eA,by simp⟩
  simp only [eP,Ed] at kr
  rcases kr with kr|rfl
  ·exact h.cells s kr
  ·exact ⟨rfl,by simp,by simp only;omega⟩
 ·have hp:Pj ⟨l,c.table,c.bR,-1⟩:=by
   rcases hc.vw with ⟨h1,h2,h3,h4⟩|⟨h1,h2,h3,h4⟩
   ·have e:l.length=c.ins.length:=by rw [<-hl,abv (by omega)];simp
    exact ⟨by simp only;omega,by simp only;omega,by simp,by simp only [e];exact ⟨h3,h4⟩,λh0=>by simp only at h0;omega⟩
   ·refine ⟨by simp only;omega,by simp only;omega,by simp,?_,λ_=>⟨rfl,by simp only;omega,h4⟩⟩
    simp only [h4]
    exact ⟨by omega,Int.pow_pos (by decide)⟩
  have H:=h.add hp IH (a:=k.n0||oG 0 l) (b:=k.n1||oG 1 l) (λe=>by simp [e]) (λe=>by simp [e]) (λs kr hk=>⟨λe=>by
    simp only [vU];right
    exact JC.2 ⟨s,kr,by simp [hk,e]⟩,λe=>by
    simp only [vU];right
    exact JC.2 ⟨s,kr,by simp [hk,e]⟩⟩) (λh0=>by simp at h0)
  refine ⟨⟨by simp [h.nc],λs kr=>?_,H.src,H.l7,H.bL,H.back⟩,λx hx=>?_,by simp [PK.add]⟩
  ·simp only [eP,Ed] at kr
   rcases kr with kr|rfl
   ·exact H.cells s kr
   ·exact ⟨rfl,by simp [PK.here],by simp [PK.here,PK.add];omega⟩
  ·simp only [PK.add,eP,Ed] at hx
   rcases hx with hx|rfl
   ·exact eA x hx
   ·rfl
structure Sc where
 aM:List Int
 a8:List Int
 bf:List (Int × Int)
 data:Bool
def okW (w:Int):Prop:=1<=w/\w<=8
structure WQ (sc:Sc):Prop where
 aM:∀w∈sc.aM,okW w
 a8:∀w∈sc.a8,okW w
 bf:∀m∈sc.bf,okW m.1
inductive WT (sc:Sc):Nat->Int->Expr->Prop
 | const {n:Nat} {w k:Int}:okW w->WT sc (n+1) w (.mk 1 k w [])
 | aZ {n:Nat} {w:Int} (i:Nat):sc.aM[i]?=some w->WT sc (n+1) w (.mk 16 i 0 [])
 | data {n:Nat} {w:Int} (i:Nat):sc.data=true->sc.a8[i]?=some w->WT sc (n+1) w (.mk 18 i 0 [])
 | not {n:Nat} {w:Int} {a:Expr}:WT sc n w a->WT sc (n+1) w (.mk 2 0 0 [a])
 | two {n:Nat} {w op:Int} {a b:Expr}:3<=op->op<=7->WT sc n w a->WT sc n w b->WT sc (n+1) w (.mk op 0 0 [a,b])
 | cmp {n:Nat} {v op:Int} {a b:Expr}:8<=op->op<=9->WT sc n v a->WT sc n v b->WT sc (n+1) 1 (.mk op 0 0 [a,b])
 | tx {n:Nat} {w:Int} {c a b:Expr}:WT sc n 1 c->WT sc n w a->WT sc n w b->WT sc (n+1) w (.mk 10 0 0 [c,a,b])
 | cat {n:Nat} {v w:Int} {a b:Expr}:w=v+1->okW w->WT sc n v a->WT sc n 1 b->WT sc (n+1) w (.mk 11 0 0 [a,b])
 | slice {n:Nat} {v w k:Int} {a:Expr}:0<=k->k+w<=v->okW w->WT sc n v a->WT sc (n+1) w (.mk 12 k w [a])
 | ext {n:Nat} {v w:Int} {a:Expr}:v<=w->okW w->WT sc n v a->WT sc (n+1) w (.mk 13 0 w [a])
 | read {n:Nat} {v w words:Int} (i:Nat) {a:Expr}:sc.bf[i]?=some (w,words)->WT sc n v a->WT sc (n+1) w (.mk 17 i 0 [a])
theorem WT.wide {sc:Sc} (hs:WQ sc):∀{n:Nat} {w:Int} {e:Expr},WT sc n w e->okW w
 | _,_,_,.const h=>h
 | _,_,_,.aZ i h=>hs.aM _ (cb h)
 | _,_,_,.data i _ h=>hs.a8 _ (cb h)
 | _,_,_,.not h=>h.wide hs
 | _,_,_,.two _ _ h _=>h.wide hs
 | _,_,_,.cmp _ _ _ _=>⟨by omega,by omega⟩
 | _,_,_,.tx _ h _=>h.wide hs
 | _,_,_,.cat _ h _ _=>h
 | _,_,_,.slice _ _ h _=>h
 | _,_,_,.ext _ h _=>h
 | _,_,_,.read i h _=>hs.bf _ (cb h)
theorem WT.up {sc:Sc}:∀{n:Nat} {w:Int} {e:Expr},WT sc n w e->WT sc (n+1) w e
 | _,_,_,.const h=>.const h
 | _,_,_,.aZ i h=>.aZ i h
 | _,_,_,.data i h1 h=>.data i h1 h
 | _,_,_,.not h=>.not h.up
 | _,_,_,.two a b h1 h2=>.two a b h1.up h2.up
 | _,_,_,.cmp a b h1 h2=>.cmp a b h1.up h2.up
 | _,_,_,.tx h1 h2 h3=>.tx h1.up h2.up h3.up
 | _,_,_,.cat a b h1 h2=>.cat a b h1.up h2.up
 | _,_,_,.slice a b c h=>.slice a b c h.up
 | _,_,_,.ext a b h=>.ext a b h.up
 | _,_,_,.read i h h2=>.read i h h2.up
theorem WT.more {sc sc':Sc} (hr:sc'.aM=sc.aM) (hm:sc'.bf=sc.bf) (ht:sc.data=true->sc'.data=true/\sc'.a8=sc.a8):∀{n:Nat} {w:Int} {e:Expr},WT sc n w e->WT sc' n w e
 | _,_,_,.const h=>.const h
 | _,_,_,.aZ i h=>.aZ i (by rw [hr];exact h)
 | _,_,_,.data i h1 h=>.data i (ht h1).1 (by rw [(ht h1).2];exact h)
 | _,_,_,.not h=>.not (h.more hr hm ht)
 | _,_,_,.two a b h1 h2=>.two a b (h1.more hr hm ht) (h2.more hr hm ht)
 | _,_,_,.cmp a b h1 h2=>.cmp a b (h1.more hr hm ht) (h2.more hr hm ht)
 | _,_,_,.tx h1 h2 h3=>.tx (h1.more hr hm ht) (h2.more hr hm ht) (h3.more hr hm ht)
 | _,_,_,.cat a b h1 h2=>.cat a b (h1.more hr hm ht) (h2.more hr hm ht)
 | _,_,_,.slice a b c h=>.slice a b c (h.more hr hm ht)
 | _,_,_,.ext a b h=>.ext a b (h.more hr hm ht)
 | _,_,_,.read i h h2=>.read i (by rw [hm];exact h) (h2.more hr hm ht)
def nN (sc:Sc) (n:Nat):List Int->List Expr->Prop
 | [],[]=>True
 | w :: ws,e :: es=>WT sc n w e/\nN sc n ws es
 | _,_=>False
theorem WT.args {sc:Sc}:∀{n:Nat} {w:Int} {e:Expr},WT sc (n+1) w e->∃ws,nN sc n ws e.args
 | _,_,_,.const h=>⟨[],trivial⟩
 | _,_,_,.aZ i h=>⟨[],trivial⟩
 | _,_,_,.data i h1 h=>⟨[],trivial⟩
 | _,_,_,.not h=>⟨[_],h,trivial⟩
 | _,_,_,.two a b h1 h2=>⟨[_,_],h1,h2,trivial⟩
 | _,_,_,.cmp a b h1 h2=>⟨[_,_],h1,h2,trivial⟩
 | _,_,_,.tx h1 h2 h3=>⟨[_,_,_],h1,h2,h3,trivial⟩
 | _,_,_,.cat a b h1 h2=>⟨[_,_],h1,h2,trivial⟩
 | _,_,_,.slice a b c h=>⟨[_],h,trivial⟩
 | _,_,_,.ext a b h=>⟨[_],h,trivial⟩
 | _,_,_,.read i h h2=>⟨[_],h2,trivial⟩
theorem nN.get {sc:Sc} {n:Nat}:∀{ws:List Int} {es:List Expr},nN sc n ws es->∀(i:Nat) (e:Expr),es[i]?=some e->∃w,ws[i]?=some w/\WT sc n w e
 | [],[],_,i,e,h=>by simp at h
 | w :: ws,x :: es,h,0,e,he=>by simp at he;subst he;exact ⟨w,rfl,h.1⟩
 | w :: ws,x :: es,h,i+1,e,he=>by simpa using nN.get h.2 i e (by simpa using he)
theorem nN.len {sc:Sc} {n:Nat}:∀{ws:List Int} {es:List Expr},nN sc n ws es->ws.length=es.length
 | [],[],_=>rfl
 | w :: ws,x :: es,h=>by simp [nN.len h.2]
theorem WT.dK {sc:Sc}:∀{n:Nat} {w:Int} {e:Expr},WT sc n w e->e.args.length<=3
 | _,_,_,.const h=>by simp [Expr.args]
 | _,_,_,.aZ i h=>by simp [Expr.args]
 | _,_,_,.data i h1 h=>by simp [Expr.args]
 | _,_,_,.not h=>by simp [Expr.args]
 | _,_,_,.two a b h1 h2=>by simp [Expr.args]
 | _,_,_,.cmp a b h1 h2=>by simp [Expr.args]
 | _,_,_,.tx h1 h2 h3=>by simp [Expr.args]
 | _,_,_,.cat a b h1 h2=>by simp [Expr.args]
 | _,_,_,.slice a b c h=>by simp [Expr.args]
 | _,_,_,.ext a b h=>by simp [Expr.args]
 | _,_,_,.read i h h2=>by simp [Expr.args]
def n8 (p:rR) (data:Bool):Sc:=⟨p.aM.map (·.w),p.a8.map (·.w),p.bf.map λm=>(m.w,m.words),data⟩
structure rG (p:rR):Prop where
 aM:p.aM.length<=3/\∀r∈p.aM,1<=r.w/\r.w<=3/\WT (n8 p true) 3 r.w r.next
 bf:p.bf.length<=1/\∀m∈p.bf,1<=m.w/\m.w<=2/\1<=m.words/\m.words<=4/\WT (n8 p true) 3 1 m.en/\(∃v,WT (n8 p true) 3 v m.ad)/\WT (n8 p true) 3 m.w m.da
 a8:p.a8.length<=2/\∀t∈p.a8,1<=t.w/\t.w<=2/\WT (n8 p false) 3 1 t.cond
 dZ:p.dZ.length<=2/\∀t∈p.dZ,1<=t.w/\t.w<=2/\WT (n8 p true) 3 1 t.cond/\WT (n8 p true) 3 t.w t.data
def kT (ins:Int) (gs:List Gate):Prop:=∀(i:Nat) (g:Gate),gs[i]?=some g->tV (2+ins+i) g
def cI (ins:Int) (gs:List Gate) (v:Int):Prop:=0<=v/\v < 2+ins+gs.length
theorem cI.mono {ins:Int} {gs cw:List Gate} {v:Int} (h:cI ins gs v) (hl:gs.length<=cw.length):cI ins cw v:=⟨h.1,by have:=h.2;omega⟩
theorem kT.nil (ins:Int):kT ins []:=λi g h=>by simp at h
theorem kT.add {ins:Int} {gs:List Gate} (h:kT ins gs) {g:Gate} (hg:tV (2+ins+gs.length) g):kT ins (gs++[g]):=by
 intro i x hx
 rw [Ea] at hx
 split at hx
 ·exact h i x hx
 ·rename_i aR
  have hi:i - gs.length=0:=by
   have:=(bW.1 hx).1
   simp at this;omega
  rw [hi] at hx
  simp at hx
  subst hx
  have:(i:Int)=gs.length:=by omega
  rw [this];exact hg
def iu (w:bU):Int :=
 if w.kind=1 then 16*w.i+w.bit
 else if w.kind=2 then 1000+32*w.i+w.bit
 else if w.kind=3 then 1000+32*w.i+16
 else if w.kind=4 then 2000+w.i
 else if w.kind=5 then 1000+w.i
 else if w.kind=6 then 2000+32*w.i
 else if w.kind=7 then 2000+32*w.i+16+w.bit
 else 3000+64*w.i+16*(w.kind - 8)+w.bit
def sK (c:Int) (l:List bU):Prop:=l.Pairwise (λa b=>iu a < iu b)/\∀w∈l,iu w < c
theorem sK.nil (c:Int):sK c []:=⟨List.Pairwise.nil,by simp⟩
theorem sK.up {c d:Int} {l:List bU} (h:sK c l) (Rh:c<=d):sK d l:=⟨h.1,λw hw=>by have:=h.2 w hw;omega⟩
theorem sK.add {c d:Int} {l:List bU} (h:sK c l) {w:bU} (hc:c<=iu w) (hd:iu w < d):sK d (l++[w]):=by
 refine ⟨?_,λx hx=>?_⟩
 ·rw [ow]
  refine ⟨h.1,by simp,λa ha b hb=>?_⟩
  simp at hb;subst hb
  have:=h.2 a ha
  omega
 ·rcases eP.1 hx with hx|hx
  ·have:=h.2 x hx;omega
  ·simp at hx;subst hx;exact hd
theorem sK.nodup {c:Int} {l:List bU} (h:sK c l):l.Nodup:=by
 rw [JN]
 exact h.1.imp λj7 e=>by rw [e] at j7;omega
def atr (rw:List Int) (i k:Int) (w:bU):Prop:=0<=w.i/\0<=w.bit/\((w.i < i/\∃W,rw[w.i.toNat]?=some W/\w.bit < W)\/w.i=i/\w.bit < k)
def rH (rw:List Int) (i k:Int) (l:List bU):Prop:=∀w:bU,w.kind=1->(w∈l↔atr rw i k w)
theorem rH.nil (rw:List Int):rH rw 0 0 []:=λw _=>⟨λh=>(by simp at h),λ⟨h0,h1,h⟩=>by rcases h with ⟨h,_⟩|⟨_,h⟩<;>omega⟩
theorem rH.bit {rw:List Int} {i k:Int} {l:List bU} (h:rH rw i k l) (h0:0<=i) (h1:0<=k):rH rw i (k+1) (l++[⟨1,i,k⟩]):=by
 intro w hw
 rw [eP,h w hw]
 constructor
 ·rintro (⟨a,b,c⟩|e)
  ·refine ⟨a,b,c.imp id λ⟨x,y⟩=>⟨x,by omega⟩⟩
  ·simp at e;subst e
   exact ⟨h0,h1,.inr ⟨rfl,by simp only;omega⟩⟩
 ·rintro ⟨a,b,c|⟨x,y⟩⟩
  ·exact .inl ⟨a,b,.inl c⟩
  ·by_cases hk:w.bit < k
   ·exact .inl ⟨a,b,.inr ⟨x,hk⟩⟩
   ·right
    have:w.bit=k:=by omega
    cases w
    simp only at *
    subst hw;subst x;subst this
    simp
theorem rH.next {rw:List Int} {i:Nat} {k:Int} {l:List bU} (h:rH rw i k l) (hk:rw[i]?=some k):rH rw (i+1:Nat) 0 l:=by
 intro w hw
 rw [h w hw]
 constructor
 ·rintro ⟨a,b,⟨c,d⟩|⟨c,d⟩⟩
  ·exact ⟨a,b,.inl ⟨by omega,d⟩⟩
  ·refine ⟨a,b,.inl ⟨by omega,k,?_,d⟩⟩
   have:w.i.toNat=i:=by omega
   rw [this];exact hk
 ·rintro ⟨a,b,⟨c,W,d,e⟩|⟨c,d⟩⟩
  ·by_cases hi:w.i < i
   ·exact ⟨a,b,.inl ⟨hi,W,d,e⟩⟩
   ·refine ⟨a,b,.inr ⟨by omega,?_⟩⟩
    have:w.i.toNat=i:=by omega
    rw [this,hk] at d
    cases d
    exact e
  ·omega
theorem rH.other {rw:List Int} {i k:Int} {l:List bU} (h:rH rw i k l) {x:bU} (hx:x.kind≠1):rH rw i k (l++[x]):=by
 intro w hw
 rw [eP,<-h w hw]
 constructor
 ·rintro (e|e)
  ·exact e
  ·simp at e;subst e;exact absurd hw hx
 ·exact .inl
structure afN (rw:List Int) (l:List bU):Prop where
 tz:∃c,sK c l
 mB:∀w∈l,mB w 1 4/\w.i<=31
 aM:rH rw rw.length 0 l
structure U3 (rw:List Int) (l:List bU):Prop where
 tz:∃c,sK c l
 mB:∀w∈l,Pk.mB w 1 10/\(w.kind=1\/5<=w.kind)
 aM:rH rw rw.length 0 l
theorem an7 {rw:List Int} {ins outs:List bU} {gM:List Gate} {ay:List Int} (hi:afN rw ins) (ho:U3 rw outs) (hg:kT ins.length gM)
  (hl:ay.length=outs.length) (hd:∀d∈ay,cI ins.length gM d) (hb:2+ins.length+gM.length<=600):eX ⟨ins,gM,outs,ay⟩ where
 pF:=hb
 ins:=hi.mB
 gM:=hg
 outs:=ho.mB
 ind:=by obtain ⟨c,h⟩:=hi.tz;exact h.nodup
 Lh:=by obtain ⟨c,h⟩:=ho.tz;exact h.nodup
 aM:=λw hw=>by rw [hi.aM w hw,ho.aM w hw]
 p8:=hl
 ay:=λd h=>hd d h
noncomputable def cB0 (n m:Nat):Ctx:=fB n m [] []
theorem iQ (n m:Nat):CB PP (cB0 n m):=fG n m trivial trivial
structure BN where
 ins:Int
 gs:List Gate
 n:Int
structure eD (ins:Int) (gs:List Gate):Prop where
 ok:kT ins gs
 ins:0<=ins/\ins<=1000
 len:gs.length<=1000000000
def lZ (ins:Int) (gs:List Gate) (n:Int):Int:=if 0<=n - 2 - ins then match gs[(n - 2 - ins).toNat]? with
 | some g=>if g.op=1 then g.a else -1
 | none=>-1
 else -1
theorem abw {ins:Int} {gs:List Gate} (h:kT ins gs) (n:Int):lZ ins gs n=-1\/cI ins gs (lZ ins gs n):=by
 unfold lZ
 split
 ·split
  ·rename_i h0 g hg
   split
   ·have:=(h _ g hg).a
    have hl:=(bW.1 hg).1
    exact .inr ⟨this.1,by omega⟩
   ·exact .inl rfl
  ·exact .inl rfl
 ·exact .inl rfl
@[reducible] noncomputable def Pl:Vc.Spec where
 α:=BN
 args x:=[.agg [.i .i64 (λ_=>x.ins),.sl 5 dD (λ_=>x.gs)],.i .i64 (λ_=>x.n)]
 pre x:=eD x.ins x.gs/\cI x.ins x.gs x.n
 res x:=.i .i64 (λ_=>lZ x.ins x.gs x.n)
theorem T9:cZ (PP ()) 253 Pl:=by
 refine dT (iQ 0 0) (fo Tryz.func253) (λa=>⟨⟨trivial,(λx=>(eO x).1),trivial⟩,trivial,trivial⟩) (λa=>trivial) ?_
 rintro ⟨ins,gs,n⟩ hx
 obtain ⟨⟨cg,hi,hl⟩,hn⟩:eD ins gs/\cI ins gs n:=hx
 refine ⟨?_⟩
 unfold cI at hn
 cbv
 refine ⟨λh=>?_,λh=>?_⟩
 ·(have h:=h.out;simp (disch:=exact aT) only [hS] at h)
  obtain ⟨g,hg⟩:∃g,gs[(n - 2 - ins).toNat]?=some g:=⟨_,eo (by exact aT)⟩
  have G:=cg _ g hg
  have ha:=G.a
  have gu:(0<=(IntKind.i64.wrap (IntKind.i64.wrap (n - 2) - ins)))/\gs[(IntKind.i64.wrap (IntKind.i64.wrap (n - 2) - ins)).toNat]?=some g:=by
   simp (disch:=exact aT) only [cu];exact ⟨by exact aT,hg⟩
  cbv
  refine ⟨g,⟨gu⟩,?_⟩
  cbv
  refine ⟨λh=>?_,λh=>?_⟩
  ·(have h:=h.out;simp (disch:=exact aT) only [hS] at h)
   cbv
   refine ⟨g,⟨gu⟩,?_⟩
   cbv
   exact ⟨.i (by show _=lZ _ _ _;unfold lZ;rw [if_pos (by exact aT),hg];simp only;rw [if_pos h])⟩
  ·(have h:=h.out;simp (disch:=exact aT) only [hS] at h)
   cbv
   exact ⟨.ic (by show _=lZ _ _ _;unfold lZ;rw [if_pos (by exact aT),hg];simp only;rw [if_neg h])⟩
 ·(have h:=h.out;simp (disch:=exact aT) only [hS] at h)
  cbv
  exact ⟨.ic (by show _=lZ _ _ _;unfold lZ;rw [if_neg h])⟩
@[reducible] noncomputable def ats:fK where
 α:=BN × Int
 args x:=[.agg [.i .i64 (λ_=>x.1.ins),.sl 5 dD (λ_=>x.1.gs)],.i .i64 (λ_=>x.1.n),.i .i64 (λ_=>x.2)]
 pre x:=eD x.1.ins x.1.gs/\cI x.1.ins x.1.gs x.1.n/\cI x.1.ins x.1.gs x.2
 β:=Bool
 post x y:=True
 res x y:=.b (λ_=>y)
noncomputable def cB1 (n m:Nat):Ctx:=fB n m [] [(253,Pl)]
theorem afO (n m:Nat):CB PP (cB1 n m):=fG n m trivial ⟨T9,trivial⟩
theorem U4:eG PP 226 ats:=by
 refine iL (afO 0 0) (fo Tryz.func226) (λa=>⟨⟨trivial,(λx=>(eO x).1),trivial⟩,trivial,trivial,trivial⟩) (λa y=>trivial) ?_
 rintro ⟨⟨ins,gs,n⟩,m⟩ hx
 obtain ⟨hb,hn,hm⟩:eD ins gs/\cI ins gs n/\cI ins gs m:=hx
 refine ⟨?_⟩
 cbv
 obtain ⟨y,hy⟩:∃y,y=lZ ins gs n:=⟨_,rfl⟩
 refine ⟨⟨ins,gs,n⟩,⟨by exact aK,hb,hn⟩,?_⟩
 cbv
 refine ⟨λh=>?_,λh=>?_⟩
 ·cbv
  exact .mk' true ⟨by exact aK⟩ trivial
 ·cbv
  refine ⟨⟨ins,gs,m⟩,⟨by exact aK,hb,hm⟩,?_⟩
  cbv
  exact .mk' _ ⟨.refl _⟩ trivial
structure BG where
 ins:Int
 gs:List Gate
 g:Gate
structure qh where
 gs:List Gate
 n:Int
structure dU (ins:Int) (gs:List Gate) (k:Nat) (y:qh):Prop where
 ok:kT ins y.gs
 lo:gs.length<=y.gs.length
 hi:y.gs.length<=gs.length+k
 n:cI ins y.gs y.n
@[reducible] noncomputable def arI:fK where
 α:=BG
 args x:=[.agg [.i .i64 (λ_=>x.ins),.sl 5 dD (λ_=>x.gs)],.agg (dD x.g)]
 pre x:=eD x.ins x.gs/\tV (2+x.ins+x.gs.length) x.g
 β:=qh
 post x y:=dU x.ins x.gs 1 y
 res x y:=.agg [.i .i64 (λ_=>x.ins),.sl 5 dD (λ_=>y.gs),.i .i64 (λ_=>y.n)]
theorem Ep:eG PP 227 arI:=by
 refine iL (iQ 0 0) (fo Tryz.func227) (λa=>⟨⟨trivial,(λx=>(eO x).1),trivial⟩,(eO a.g).1,trivial⟩) (λa y=>⟨trivial,(λx=>(eO x).1),trivial,trivial⟩) ?_
 rintro ⟨ins,gs,g⟩ hx
 obtain ⟨⟨cg,hi,hl⟩,hg⟩:eD ins gs/\tV (2+ins+gs.length) g:=hx
 refine ⟨?_⟩
 cbv
 refine Sat.cf (iQ 0 0) 3 5 [] (λi:Nat=>[(5,.i .i64 λ_=>(i:Int))]) (λ_=>[]) (λi=>i<=gs.length) (λi=>gs.length - i) 0 (by exact ao) (by exact ao) (by omega) ?_
 intro i mO
 cbv
 refine ⟨λh=>?_,λh=>?_⟩
 ·(have h:=h.out;simp (disch:=exact aT) only [hS] at h)
  have aR:i < gs.length:=by exact aT
  obtain ⟨x,hx⟩:=bD aR
  have h1:=cq (i:=i) (by omega)
  have h0:=n0 i
  have hr:IntKind.i64.wrap (IntKind.i64.wrap (2+ins)+(i:Int))=2+ins+i:=by simp (disch:=exact aT) only [cu]
  cbv
  refine ⟨x,⟨h0,hx⟩,?_⟩
  cbv
  refine ⟨λh=>?_,λh=>?_⟩
  ·cbv
   exact .mk' ⟨gs,2+ins+i⟩ ⟨by have bg:=hr;exact dx⟩ ⟨cg,cR _,BQ _,by show 0<=2+ins+(i:Int);exact aT,by show 2+ins+(i:Int) < 2+ins+gs.length;exact aT⟩
  ·cbv
   exact ⟨i+1,by have bg:=h1;exact bJ,by exact ao,⟨by show i+1<=gs.length/\gs.length - (i+1) < gs.length - i;omega⟩⟩
 ·(have h:=h.out;simp (disch:=exact aT) only [hS] at h)
  have hr:IntKind.i64.wrap (IntKind.i64.wrap (1+ins)+((([]++gs)++[g]).length:Int))=2+ins+gs.length:=by simp only [jP,ib,rA];simp (disch:=exact aT) only [cu];exact aT
  cbv
  refine ⟨gs,⟨by exact aK,by show (0+gs.length)*40<=_;omega,by show 0+gs.length<=_;omega⟩,?_⟩
  cbv
  refine ⟨[g],⟨by exact aK,by show (([]++gs:List Gate).length+1)*40<=_;rw [jP];omega,by show ([]++gs:List Gate).length+1<=_;rw [jP];omega⟩,?_⟩
  cbv
  exact .mk' ⟨gs++[g],2+ins+gs.length⟩ ⟨by have bg:=hr;exact dx⟩ ⟨cg.add hg,by simp,by simp,by show 0<=2+ins+(gs.length:Int);exact aT,by show 2+ins+(gs.length:Int) < 2+ins+(gs++[g]).length;rw [ib];simp only [rA];exact aT⟩
theorem sX {ins:Int} {gs:List Gate} {op x y z:Int} (h:1<=op/\op<=7) (h0:0<=ins) (hx:cI ins gs x) (hy:cI ins gs y) (hz:cI ins gs z):tV (2+ins+gs.length) ⟨op,x,y,z,0⟩ :=
 ⟨h,hx,hy,hz,by simp only;omega⟩
theorem cI.zero {ins:Int} {gs:List Gate} (h:0<=ins):cI ins gs 0:=⟨by omega,by omega⟩
theorem cI.one {ins:Int} {gs:List Gate} (h:0<=ins):cI ins gs 1:=⟨by omega,by omega⟩
theorem dU.same {ins:Int} {gs:List Gate} {k:Nat} {n:Int} (h:kT ins gs) (hn:cI ins gs n):dU ins gs k ⟨gs,n⟩:=⟨h,cR _,B2 _ _,hn⟩
theorem dU.more {ins:Int} {gs:List Gate} {k k':Nat} {y:qh} (h:dU ins gs k y) (hk:k<=k'):dU ins gs k' y:=⟨h.ok,h.lo,by have:=h.hi;omega,h.n⟩
theorem dU.trans {ins:Int} {gs:List Gate} {k k':Nat} {y z:qh} (h:dU ins gs k y) (h2:dU ins y.gs k' z):dU ins gs (k+k') z:=⟨h2.ok,by have:=h.lo;have:=h2.lo;omega,by have:=h.hi;have:=h2.hi;omega,h2.n⟩
@[reducible] noncomputable def att:fK where
 α:=BN
 args x:=[.agg [.i .i64 (λ_=>x.ins),.sl 5 dD (λ_=>x.gs)],.i .i64 (λ_=>x.n)]
 pre x:=eD x.ins x.gs/\cI x.ins x.gs x.n
 β:=qh
 post x y:=dU x.ins x.gs 1 y
 res x y:=.agg [.i .i64 (λ_=>x.ins),.sl 5 dD (λ_=>y.gs),.i .i64 (λ_=>y.n)]
noncomputable def cB2 (n m:Nat):Ctx:=fB n m [(227,Tryz.f227)] [(253,Pl)] [227]
theorem arJ (n m:Nat):CB PP (cB2 n m):=fG n m ⟨fo Tryz.func227,trivial⟩ ⟨T9,trivial⟩
theorem yW:eG PP 223 att:=by
 refine iL (arJ 0 0) (fo Tryz.func223) (λa=>⟨⟨trivial,(λx=>(eO x).1),trivial⟩,trivial,trivial⟩) (λa y=>⟨trivial,(λx=>(eO x).1),trivial,trivial⟩) ?_
 rintro ⟨ins,gs,n⟩ hx
 obtain ⟨hb,hn⟩:eD ins gs/\cI ins gs n:=hx
 have hi:=hb.ins.1
 have qV:=hn.1
 refine ⟨?_⟩
 cbv
 refine ⟨λh=>?_,λh=>?_⟩
 ·(have h:=h.out;simp (disch:=exact aT) only [hS] at h)
  have hr:IntKind.i64.wrap (1 - n)=1 - n:=by simp (disch:=exact aT) only [cu]
  have uv:cI ins gs (1 - n):=⟨by omega,by omega⟩
  cbv
  exact .mk' ⟨gs,1 - n⟩ ⟨by have bg:=hr;exact dx⟩ (.same hb.ok uv)
 ·cbv
  refine ⟨⟨ins,gs,n⟩,⟨by exact aK,hb,hn⟩,?_⟩
  cbv
  refine ⟨λh=>?_,λh=>?_⟩
  ·have iS:0<=lZ ins gs n->cI ins gs (lZ ins gs n):=λh=>by
    rcases abw hb.ok n with h1|h1
    ·omega
    ·exact h1
   have h2:0<=lZ ins gs n:=by have:=h.out;simp only [cV,decide_eq_true_eq] at this;exact this
   cbv
   refine ⟨⟨ins,gs,n⟩,⟨by exact aK,hb,hn⟩,?_⟩
   cbv
   exact .mk' ⟨gs,lZ ins gs n⟩ ⟨by exact aK⟩ (.same hb.ok (iS h2))
  ·cbv
   refine bV.rel Ep ⟨ins,gs,⟨1,n,0,0,0⟩⟩ (by exact aK) ⟨hb,sX (by decide) hi hn (.zero hi) (.zero hi)⟩ λz hz=>?_
   have hz:dU ins gs 1 z:=hz.out
   cbv
   exact .mk' z ⟨by exact aK⟩ hz
structure ym where
 ins:Int
 gs:List Gate
 x:Int
 y:Int
@[reducible] noncomputable def wG (p:ym->Prop):fK where
 α:=ym
 args x:=[.agg [.i .i64 (λ_=>x.ins),.sl 5 dD (λ_=>x.gs)],.i .i64 (λ_=>x.x),.i .i64 (λ_=>x.y)]
 pre x:=eD x.ins x.gs/\cI x.ins x.gs x.x/\cI x.ins x.gs x.y/\p x
 β:=qh
 post x y:=dU x.ins x.gs 1 y
 res x y:=.agg [.i .i64 (λ_=>x.ins),.sl 5 dD (λ_=>y.gs),.i .i64 (λ_=>y.n)]
noncomputable def arK (n m:Nat):Ctx:=fB n m [(226,Tryz.f226),(227,Tryz.f227),(160,Tryz.f160)] [] [226,227,160]
theorem ao9 (n m:Nat):CB PP (arK n m):=fG n m ⟨fo Tryz.func226,fo Tryz.func227,fo Tryz.func160,trivial⟩ trivial
theorem adF (p:ym->Prop) (hp:∀x:ym,p x->x.x<=x.y\/eG PP 160 (wG λx=>x.x<=x.y)):eG PP 160 (wG p):=by
 refine iL (ao9 0 0) (fo Tryz.func160) (λa=>⟨⟨trivial,(λx=>(eO x).1),trivial⟩,trivial,trivial,trivial⟩) (λa y=>⟨trivial,(λx=>(eO x).1),trivial,trivial⟩) ?_
 rintro ⟨ins,gs,x,y⟩ hx
 obtain ⟨hb,hn,hm,Bc⟩:eD ins gs/\cI ins gs x/\cI ins gs y/\p ⟨ins,gs,x,y⟩:=hx
 have hi:=hb.ins.1
 have su:x<=y\/eG PP 160 (wG λx=>x.x<=x.y):=hp _ Bc
 refine ⟨?_⟩
 cbv
 refine ⟨λh=>?_,λh=>?_⟩
 ·(have h:=h.out;simp (disch:=exact aT) only [hS] at h)
  rcases su with su|su
  ·exact absurd h (by omega)
  cbv
  refine bV.rel su ⟨ins,gs,y,x⟩ (by exact aK) ⟨hb,hm,hn,by show y<=x;omega⟩ λz hz=>?_
  have hz:dU ins gs 1 z:=hz.out
  cbv
  exact .mk' z ⟨by exact aK⟩ hz
 ·cbv
  repeat' (first
   | (refine ⟨λh=>?_,λh=>?_⟩<;>cbv)
   | (refine .mk' ⟨gs,0⟩ ⟨?_⟩ (.same hb.ok (.zero hi));exact aK)
   | (refine .mk' ⟨gs,1⟩ ⟨?_⟩ (.same hb.ok (.one hi));exact aK)
   | (refine .mk' ⟨gs,y⟩ ⟨?_⟩ (.same hb.ok hm);exact aK)
   | (refine bV.rel U4 ⟨⟨ins,gs,x⟩,y⟩ (by exact aK) ⟨hb,hn,hm⟩ λo _=>?_;cbv)
   | (refine bV.rel yW ⟨ins,gs,y⟩ (by exact aK) ⟨hb,hm⟩ λz hz=>?_;have hz:dU ins gs 1 z:=hz.out;cbv;exact .mk' z ⟨by exact aK⟩ hz)
   | (refine bV.rel Ep ⟨ins,gs,⟨2,x,y,0,0⟩⟩ (by exact aK) ⟨hb,sX (by decide) hi hn hm (.zero hi)⟩ λz hz=>?_;have hz:dU ins gs 1 z:=hz.out;cbv;exact .mk' z ⟨by exact aK⟩ hz))
noncomputable def atu (n m:Nat):Ctx:=fB n m [(226,Tryz.f226),(227,Tryz.f227),(224,Tryz.f224)] [] [226,227,224]
theorem ap9 (n m:Nat):CB PP (atu n m):=fG n m ⟨fo Tryz.func226,fo Tryz.func227,fo Tryz.func224,trivial⟩ trivial
theorem aeA (p:ym->Prop) (hp:∀x:ym,p x->x.x<=x.y\/eG PP 224 (wG λx=>x.x<=x.y)):eG PP 224 (wG p):=by
 refine iL (ap9 0 0) (fo Tryz.func224) (λa=>⟨⟨trivial,(λx=>(eO x).1),trivial⟩,trivial,trivial,trivial⟩) (λa y=>⟨trivial,(λx=>(eO x).1),trivial,trivial⟩) ?_
 rintro ⟨ins,gs,x,y⟩ hx
 obtain ⟨hb,hn,hm,Bc⟩:eD ins gs/\cI ins gs x/\cI ins gs y/\p ⟨ins,gs,x,y⟩:=hx
 have hi:=hb.ins.1
 have su:x<=y\/eG PP 224 (wG λx=>x.x<=x.y):=hp _ Bc
 refine ⟨?_⟩
 cbv
 refine ⟨λh=>?_,λh=>?_⟩
 ·(have h:=h.out;simp (disch:=exact aT) only [hS] at h)
  rcases su with su|su
  ·exact absurd h (by omega)
  cbv
  refine bV.rel su ⟨ins,gs,y,x⟩ (by exact aK) ⟨hb,hm,hn,by show y<=x;omega⟩ λz hz=>?_
  have hz:dU ins gs 1 z:=hz.out
  cbv
  exact .mk' z ⟨by exact aK⟩ hz
 ·cbv
  repeat' (first
   | (refine ⟨λh=>?_,λh=>?_⟩<;>cbv)
   | (refine .mk' ⟨gs,0⟩ ⟨?_⟩ (.same hb.ok (.zero hi));exact aK)
   | (refine .mk' ⟨gs,1⟩ ⟨?_⟩ (.same hb.ok (.one hi));exact aK)
   | (refine .mk' ⟨gs,y⟩ ⟨?_⟩ (.same hb.ok hm);exact aK)
   | (refine bV.rel U4 ⟨⟨ins,gs,x⟩,y⟩ (by exact aK) ⟨hb,hn,hm⟩ λo _=>?_;cbv)
   | (refine bV.rel yW ⟨ins,gs,y⟩ (by exact aK) ⟨hb,hm⟩ λz hz=>?_;have hz:dU ins gs 1 z:=hz.out;cbv;exact .mk' z ⟨by exact aK⟩ hz)
   | (refine bV.rel Ep ⟨ins,gs,⟨3,x,y,0,0⟩⟩ (by exact aK) ⟨hb,sX (by decide) hi hn hm (.zero hi)⟩ λz hz=>?_;have hz:dU ins gs 1 z:=hz.out;cbv;exact .mk' z ⟨by exact aK⟩ hz))
noncomputable def arL (n m:Nat):Ctx:=fB n m [(226,Tryz.f226),(227,Tryz.f227),(223,Tryz.f223),(254,Tryz.f254)] [] [226,227,223,254]
theorem apa (n m:Nat):CB PP (arL n m):=fG n m ⟨fo Tryz.func226,fo Tryz.func227,fo Tryz.func223,fo Tryz.func254,trivial⟩ trivial
theorem adG (p:ym->Prop) (hp:∀x:ym,p x->x.x<=x.y\/eG PP 254 (wG λx=>x.x<=x.y)):eG PP 254 (wG p):=by
 refine iL (apa 0 0) (fo Tryz.func254) (λa=>⟨⟨trivial,(λx=>(eO x).1),trivial⟩,trivial,trivial,trivial⟩) (λa y=>⟨trivial,(λx=>(eO x).1),trivial,trivial⟩) ?_
 rintro ⟨ins,gs,x,y⟩ hx
 obtain ⟨hb,hn,hm,Bc⟩:eD ins gs/\cI ins gs x/\cI ins gs y/\p ⟨ins,gs,x,y⟩:=hx
 have hi:=hb.ins.1
 have su:x<=y\/eG PP 254 (wG λx=>x.x<=x.y):=hp _ Bc
 refine ⟨?_⟩
 cbv
 refine ⟨λh=>?_,λh=>?_⟩
 ·(have h:=h.out;simp (disch:=exact aT) only [hS] at h)
  rcases su with su|su
  ·exact absurd h (by omega)
  cbv
  refine bV.rel su ⟨ins,gs,y,x⟩ (by exact aK) ⟨hb,hm,hn,by show y<=x;omega⟩ λz hz=>?_
  have hz:dU ins gs 1 z:=hz.out
  cbv
  exact .mk' z ⟨by exact aK⟩ hz
 ·cbv
  repeat' (first
   | (refine ⟨λh=>?_,λh=>?_⟩<;>cbv)
   | (refine .mk' ⟨gs,0⟩ ⟨?_⟩ (.same hb.ok (.zero hi));exact aK)
   | (refine .mk' ⟨gs,1⟩ ⟨?_⟩ (.same hb.ok (.one hi));exact aK)
   | (refine .mk' ⟨gs,y⟩ ⟨?_⟩ (.same hb.ok hm);exact aK)
   | (refine bV.rel U4 ⟨⟨ins,gs,x⟩,y⟩ (by exact aK) ⟨hb,hn,hm⟩ λo _=>?_;cbv)
   | (refine bV.rel yW ⟨ins,gs,y⟩ (by exact aK) ⟨hb,hm⟩ λz hz=>?_;have hz:dU ins gs 1 z:=hz.out;cbv;exact .mk' z ⟨by exact aK⟩ hz)
   | (refine bV.rel Ep ⟨ins,gs,⟨4,x,y,0,0⟩⟩ (by exact aK) ⟨hb,sX (by decide) hi hn hm (.zero hi)⟩ λz hz=>?_;have hz:dU ins gs 1 z:=hz.out;cbv;exact .mk' z ⟨by exact aK⟩ hz))
@[reducible] noncomputable def atv:fK:=wG λ_=>True
theorem Cj:eG PP 160 atv:=adF _ λ_ _=>.inr (adF _ λ_ h=>.inl h)
@[reducible] noncomputable def OrS:fK:=wG λ_=>True
theorem Hx:eG PP 224 OrS:=aeA _ λ_ _=>.inr (aeA _ λ_ h=>.inl h)
@[reducible] noncomputable def atw:fK:=wG λ_=>True
theorem Pm:eG PP 254 atw:=adG _ λ_ _=>.inr (adG _ λ_ h=>.inl h)
structure B3 where
 ins:Int
 gs:List Gate
 x:Int
 y:Int
 z:Int
@[reducible] noncomputable def ahe (k:Nat):fK where
 α:=B3
 args x:=[.agg [.i .i64 (λ_=>x.ins),.sl 5 dD (λ_=>x.gs)],.agg [.i .i64 (λ_=>x.x),.i .i64 (λ_=>x.y),.i .i64 (λ_=>x.z)]]
 pre x:=(eD x.ins x.gs/\x.gs.length+10<=1000000000)/\cI x.ins x.gs x.x/\cI x.ins x.gs x.y/\cI x.ins x.gs x.z
 β:=qh
 post x y:=dU x.ins x.gs k y
 res x y:=.agg [.i .i64 (λ_=>x.ins),.sl 5 dD (λ_=>y.gs),.i .i64 (λ_=>y.n)]
theorem eD.next {ins:Int} {gs:List Gate} {k:Nat} {z:qh} (h:eD ins gs) (hz:dU ins gs k z) (hl:z.gs.length<=1000000000):eD ins z.gs:=⟨hz.ok,h.ins,hl⟩
noncomputable def arN (n m:Nat):Ctx:=fB n m [(223,Tryz.f223),(224,Tryz.f224),(160,Tryz.f160),(227,Tryz.f227)] [] [223,224,160,227]
theorem apb (n m:Nat):CB PP (arN n m):=fG n m ⟨fo Tryz.func223,fo Tryz.func224,fo Tryz.func160,fo Tryz.func227,trivial⟩ trivial
theorem aqa:eG PP 225 (ahe 2):=by
 refine iL (apb 0 0) (fo Tryz.func225) (λa=>⟨⟨trivial,(λx=>(eO x).1),trivial⟩,⟨trivial,trivial,trivial,trivial⟩,trivial⟩) (λa y=>⟨trivial,(λx=>(eO x).1),trivial,trivial⟩) ?_
 rintro ⟨ins,gs,x,y,z⟩ hx
 obtain ⟨⟨hb,hl⟩,hx,hy,hz⟩:(eD ins gs/\gs.length+10<=1000000000)/\cI ins gs x/\cI ins gs y/\cI ins gs z:=hx
 have hi:=hb.ins.1
 refine ⟨?_⟩
 cbv
 repeat' (first
  | (refine ⟨λh=>?_,λh=>?_⟩<;>cbv)
  | (refine .mk' ⟨gs,z⟩ ⟨?_⟩ (.same hb.ok hz);exact aK)
  | (refine .mk' ⟨gs,y⟩ ⟨?_⟩ (.same hb.ok hy);exact aK)
  | (refine bV.rel Hx ⟨ins,gs,x,z⟩ (by exact aK) ⟨hb,hx,hz,trivial⟩ λu hu=>?_;have hu:dU ins gs 1 u:=hu.out;cbv;exact .mk' u ⟨by exact aK⟩ (hu.more (by decide)))
  | (refine bV.rel Cj ⟨ins,gs,x,y⟩ (by exact aK) ⟨hb,hx,hy,trivial⟩ λu hu=>?_;have hu:dU ins gs 1 u:=hu.out;cbv;exact .mk' u ⟨by exact aK⟩ (hu.more (by decide)))
  | (refine bV.rel Ep ⟨ins,gs,⟨5,x,y,z,0⟩⟩ (by exact aK) ⟨hb,sX (by decide) hi hx hy hz⟩ λz hz=>?_;have hz:dU ins gs 1 z:=hz.out;cbv;exact .mk' z ⟨by exact aK⟩ (hz.more (by decide)))
  | (
   refine bV.rel yW ⟨ins,gs,x⟩ (by exact aK) ⟨hb,hx⟩ λv hv=>?_
   have hv:dU ins gs 1 v:=hv.out
   have jr:=hb.next hv (by have:=hv.hi;omega)
   have jj:=hy.mono hv.lo
   have iH:=hz.mono hv.lo
   cbv
   first
    | (refine bV.rel Cj ⟨ins,v.gs,v.n,z⟩ (by exact aK) ⟨jr,hv.n,iH,trivial⟩ λu hu=>?_;have hu:dU ins v.gs 1 u:=hu.out;cbv;exact .mk' u ⟨by exact aK⟩ (hv.trans hu))
    | (refine bV.rel Hx ⟨ins,v.gs,v.n,y⟩ (by exact aK) ⟨jr,hv.n,jj,trivial⟩ λu hu=>?_;have hu:dU ins v.gs 1 u:=hu.out;cbv;exact .mk' u ⟨by exact aK⟩ (hv.trans hu))))
noncomputable def arO (n m:Nat):Ctx:=fB n m [(160,Tryz.f160),(224,Tryz.f224),(227,Tryz.f227)] [] [160,224,227]
theorem apc (n m:Nat):CB PP (arO n m):=fG n m ⟨fo Tryz.func160,fo Tryz.func224,fo Tryz.func227,trivial⟩ trivial
theorem aeB:eG PP 255 (ahe 1):=by
 refine iL (apc 0 0) (fo Tryz.func255) (λa=>⟨⟨trivial,(λx=>(eO x).1),trivial⟩,⟨trivial,trivial,trivial,trivial⟩,trivial⟩) (λa y=>⟨trivial,(λx=>(eO x).1),trivial,trivial⟩) ?_
 rintro ⟨ins,gs,x,y,z⟩ hx
 obtain ⟨⟨hb,hl⟩,hx,hy,hz⟩:(eD ins gs/\gs.length+10<=1000000000)/\cI ins gs x/\cI ins gs y/\cI ins gs z:=hx
 have hi:=hb.ins.1
 have hi2:=hb.ins.2
 obtain ⟨a,ha⟩:∃a,a=min (min x y) z:=⟨_,rfl⟩
 obtain ⟨c,hc⟩:∃c,c=max (max x y) z:=⟨_,rfl⟩
 obtain ⟨b,FR⟩:∃b,b=x+y+z - a - c:=⟨_,rfl⟩
 have hA:cI ins gs a:=by unfold cI at *;omega
 have hC:cI ins gs c:=by unfold cI at *;omega
 have hB:cI ins gs b:=by unfold cI at *;omega
 have hw:IntKind.i64.wrap (IntKind.i64.wrap (IntKind.i64.wrap (IntKind.i64.wrap (x+y)+z) - min (min x y) z) - max (max x y) z)=b:=by
  rw [<-ha,<-hc]
  unfold cI at hx hy hz hA hB hC
  rw [FR,cu (n:=x+y) (by omega) (by omega),cu (n:=x+y+z) (by omega) (by omega),cu (n:=x+y+z - a) (by omega) (by omega),cu (by omega) (by omega)]
 refine ⟨?_⟩
 cbv
 repeat' (first
  | (refine ⟨λh=>?_,λh=>?_⟩<;>cbv)
  | (refine .mk' ⟨gs,b⟩ ⟨?_⟩ (.same hb.ok hB);have bg:=hw;exact dx)
  | (refine bV.rel Hx ⟨ins,gs,b,c⟩ (by have bg:=hw;have lQ:=hc.symm;exact dx) ⟨hb,hB,hC,trivial⟩ λu hu=>?_;have hu:dU ins gs 1 u:=hu.out;cbv;exact .mk' u ⟨by exact aK⟩ (hu.more (by decide)))
  | (refine bV.rel Cj ⟨ins,gs,b,c⟩ (by have bg:=hw;have lQ:=hc.symm;exact dx) ⟨hb,hB,hC,trivial⟩ λu hu=>?_;have hu:dU ins gs 1 u:=hu.out;cbv;exact .mk' u ⟨by exact aK⟩ (hu.more (by decide)))
  | (refine bV.rel Ep ⟨ins,gs,⟨6,a,b,c,0⟩⟩ (by have bg:=hw;have lQ:=hc.symm;have zH:=ha.symm;exact dx) ⟨hb,sX (by decide) hi hA hB hC⟩ λz hz=>?_;have hz:dU ins gs 1 z:=hz.out;cbv;exact .mk' z ⟨by exact aK⟩ (hz.more (by decide))))
def wu:List Int->Nat
 | []=>0
 | x :: r=>(x.toNat+1)+604*wu r
def Small (m:Int) (l:List Int):Prop:=l.length<=4/\∀x∈l,0<=x/\x < m
theorem abx:∀{l k:List Int},(∀x∈l,0<=x/\x < 603)->(∀x∈k,0<=x/\x < 603)->wu l=wu k->l=k
 | [],[],_,_,_=>rfl
 | [],y :: k,_,_,h=>by simp only [wu] at h;omega
 | x :: l,[],_,_,h=>by simp only [wu] at h;omega
 | x :: l,y :: k,hl,hk,h=>by
  simp only [wu] at h
  have h1:=hl x (by simp)
  have h2:=hk y (by simp)
  have e:wu l=wu k:=by omega
  rw [abx (λz hz=>hl z (by simp [hz])) (λz hz=>hk z (by simp [hz])) e]
  have:x=y:=by omega
  rw [this]
theorem acB:∀(l:List Int) (n:Nat),l.length<=n->(∀x∈l,0<=x/\x < 603)->wu l < 604^n
 | [],n,_,_=>by simp only [wu];exact Nat.pow_pos (by decide)
 | x :: l,0,h,_=>by simp at h
 | x :: l,n+1,h,hl=>by
  have h1:=acB l n (by simpa using h) λz hz=>hl z (by simp [hz])
  have h2:=hl x (by simp)
  simp only [wu]
  rw [Nat.pow_succ]
  omega
theorem aby {L:List (List Int)} (hn:L.Nodup) (h:∀l∈L,Small 603 l):L.length<=133090713856:=by
 have h1:(L.map wu).Nodup:=by
  induction L with
  | nil=>simp
  | cons x r ih =>
   obtain ⟨a,b⟩:=sd.1 hn
   rw [mw,sd]
   refine ⟨λhm=>?_,ih b λl hl=>h l (by simp [hl])⟩
   obtain ⟨y,hy,e⟩:=lX.1 hm
   have:=abx (h y (by simp [hy])).2 (h x (by simp)).2 e
   subst this
   exact a hy
 have h2:=Ov (l₂:=List.range (604^4)) h1 λc hc=>by
  obtain ⟨y,hy,rfl⟩:=lX.1 hc
  exact vW.2 (acB y 4 (h y hy).1 (h y hy).2)
 rw [qJ,List.length_range] at h2
 exact h2
def AS (l:List (List Int)) (x:List Int) (r:List (List Int)):Prop:=r=l\/x∉l/\∃o,o.Sublist l/\r=o++[x]
theorem AS.nodup {l:List (List Int)} {x:List Int} {r:List (List Int)} (h:AS l x r) (hn:l.Nodup):r.Nodup:=by
 rcases h with rfl|⟨hx,o,ho,rfl⟩
 ·exact hn
 ·rw [N3]
  refine ⟨hn.sublist ho,by simp,λa ha b hb=>?_⟩
  simp at hb;subst hb
  rintro rfl
  exact hx (ho.subset ha)
theorem AS.all {l:List (List Int)} {x:List Int} {r:List (List Int)} (h:AS l x r) {p:List Int->Prop} (hl:∀y∈l,p y) (hx:p x):∀y∈r,p y:=by
 rcases h with rfl|⟨_,o,ho,rfl⟩
 ·exact hl
 ·intro y hy
  rcases eP.1 hy with hy|hy
  ·exact hl y (ho.subset hy)
  ·simp at hy;subst hy;exact hx
structure LN where
 l:List Int
 n:Int
open Classical in
noncomputable def sC (l:List Int) (n:Int):Bool:=decide (n∈l)
theorem Ua {l:List Int} {n:Int}:sC l n=true↔n∈l:=by simp [sC]
@[reducible] noncomputable def WR:Vc.Spec where
 α:=LN
 args x:=[.sl 1 bM (λ_=>x.l),.i .i64 (λ_=>x.n)]
 pre x:=x.l.length<=1000000000000
 res x:=.b (λ_=>sC x.l x.n)
theorem aeC:cZ (PP ()) 245 WR:=by
 refine dT (iQ 0 0) (fo Tryz.func245) (λa=>⟨(λx=>(cQ x).1),trivial,trivial⟩) (λa=>trivial) ?_
 rintro ⟨l,n⟩ hx
 have hl:l.length<=1000000000000:=hx
 refine ⟨?_⟩
 cbv
 refine Sat.cf (iQ 0 0) 0 4 [] (λi:Nat=>[(5,.i .i64 λ_=>(i:Int))]) (λ_=>[]) (λi=>i<=l.length/\∀j,j < i->l[j]?≠some n) (λi=>l.length - i) 0 (by exact ao) (by exact ao) ⟨by omega,λj hj=>by omega⟩ ?_
 rintro i ⟨hi,eA⟩
 cbv
 refine ⟨λh=>?_,λh=>?_⟩
 ·(have h:=h.out;simp (disch:=exact aT) only [hS] at h)
  have aR:i < l.length:=by exact aT
  have bh:l.length - (i+1) < l.length - i:=by omega
  obtain ⟨x,hx⟩:=bD aR
  have h1:=cq (i:=i) (by omega)
  have h0:=n0 i
  cbv
  refine ⟨x,⟨h0,hx⟩,?_⟩
  cbv
  refine ⟨λh=>?_,λh=>?_⟩
  ·(have h:=h.out;simp (disch:=exact aT) only [hS] at h)
   have hw:sC l n=true:=Ua.2 (by rw [<-h];exact cb hx)
   cbv
   exact ⟨.bc hw.symm⟩
  ·have cO:x≠n:=by have:=h.out;simpa [aV] using this
   cbv
   exact ⟨i+1,by have bg:=h1;exact bJ,by exact ao,⟨⟨aR,λj hj=>by
    by_cases nO:j=i
    ·subst nO;rw [hx];simpa using cO
    ·exact eA j (by omega)⟩,bh⟩⟩
 ·(have h:=h.out;simp (disch:=exact aT) only [hS] at h)
  have b9:i=l.length:=by exact aT
  have hw:sC l n=false:=by
   rw [<-Bool.not_eq_true,Ua]
   intro hm
   obtain ⟨j,hj⟩:=nX hm
   have er:=(bW.1 hj).1
   exact eA j (by omega) hj
  cbv
  exact ⟨.bc hw.symm⟩
structure LL where
 a:List Int
 b:List Int
noncomputable def Cc (a b:List Int):Bool:=a.all (sC b)
theorem al1 (a:List Int):Cc a a=true:=by unfold Cc;rw [m8];intro x hx;exact Ua.2 hx
@[reducible] noncomputable def adH:Vc.Spec where
 α:=LL
 args x:=[.sl 1 bM (λ_=>x.a),.sl 1 bM (λ_=>x.b)]
 pre x:=x.a.length<=1000000000000/\x.b.length<=1000000000000
 res x:=.b (λ_=>Cc x.a x.b)
noncomputable def cWi (n m:Nat):Ctx:=fB n m [] [(245,WR)]
theorem afP (n m:Nat):CB PP (cWi n m):=fG n m trivial ⟨aeC,trivial⟩
theorem anb:cZ (PP ()) 188 adH:=by
 refine dT (afP 0 0) (fo Tryz.func188) (λa=>⟨(λx=>(cQ x).1),(λx=>(cQ x).1),trivial⟩) (λa=>trivial) ?_
 rintro ⟨a,b⟩ hx
 obtain ⟨ha,hb⟩:a.length<=1000000000000/\b.length<=1000000000000:=hx
 refine ⟨?_⟩
 cbv
 refine Sat.cf (afP 0 0) 0 4 [] (λi:Nat=>[(5,.i .i64 λ_=>(i:Int))]) (λ_=>[]) (λi=>i<=a.length/\∀j x,j < i->a[j]?=some x->sC b x=true) (λi=>a.length - i) 0 (by exact ao) (by exact ao) ⟨by omega,λj x hj=>by omega⟩ ?_
 rintro i ⟨hi,eA⟩
 cbv
 refine ⟨λh=>?_,λh=>?_⟩
 ·(have h:=h.out;simp (disch:=exact aT) only [hS] at h)
  have aR:i < a.length:=by exact aT
  have bh:a.length - (i+1) < a.length - i:=by omega
  obtain ⟨x,hx⟩:=bD aR
  have h1:=cq (i:=i) (by omega)
  have h0:=n0 i
  obtain ⟨o,ho⟩:∃o,o=sC b x:=⟨_,rfl⟩
  cbv
  refine ⟨x,⟨h0,hx⟩,?_⟩
  cbv
  refine ⟨⟨b,x⟩,⟨by exact aK,hb⟩,?_⟩
  cbv
  refine ⟨λh=>?_,λh=>?_⟩
  ·have h:=h.out
   have h2:sC b x=false:=by simpa using h
   have hw:Cc a b=false:=by
    unfold Cc
    rw [<-Bool.not_eq_true,m8]
    intro gF
    rw [gF x (cb hx)] at h2
    cases h2
   cbv
   exact ⟨.bc hw.symm⟩
  ·have h:=h.out
   have h2:sC b x=true:=by simpa using h
   cbv
   exact ⟨i+1,by have bg:=h1;exact bJ,by exact ao,⟨⟨aR,λj y hj hy=>by
    by_cases nO:j=i
    ·subst nO;rw [hx] at hy;cases hy;exact h2
    ·exact eA j y (by omega) hy⟩,bh⟩⟩
 ·(have h:=h.out;simp (disch:=exact aT) only [hS] at h)
  have b9:i=a.length:=by exact aT
  have hw:Cc a b=true:=by
   unfold Cc
   rw [m8]
   intro x hm
   obtain ⟨j,hj⟩:=nX hm
   have er:=(bW.1 hj).1
   exact eA j x (by omega) hj
  cbv
  exact ⟨.bc hw.symm⟩
structure LsL where
 l:List (List Int)
 x:List Int
@[reducible] noncomputable def atx:fK where
 α:=LsL
 args x:=[.sl 1 jc (λ_=>x.l),.sl 1 bM (λ_=>x.x)]
 pre x:=x.l.length<=1000000000000/\(∀y∈x.l,y.length<=1000)/\x.x.length<=1000
 β:=List (List Int)
 post x y:=AS x.l x.x y
 res x y:=.sl 1 jc (λ_=>y)
noncomputable def aty (n m:Nat):Ctx:=fB n m [] [(188,adH)]
theorem aeD (n m:Nat):CB PP (aty n m):=fG n m trivial ⟨anb,trivial⟩
theorem aeE:eG PP 124 atx:=by
 refine iL (aeD 0 0) (fo Tryz.func124) (λa=>⟨(λx=>(pW x).1),(λx=>(cQ x).1),trivial⟩) (λa y=>(λx=>(pW x).1)) ?_
 rintro ⟨l,x⟩ hx
 obtain ⟨hl,IH,qj⟩:l.length<=1000000000000/\(∀y∈l,y.length<=1000)/\x.length<=1000:=hx
 refine ⟨?_⟩
 cbv
 refine Sat.cf (aeD 0 0) 1 5 [(.t 5,0)] (λx:Nat × List (List Int)=>[(5,.own 0),(6,.i .i64 λ_=>(x.1:Int))]) (λx=>[(0,.dyn 35 1 jc λ_=>x.2)])
  (λy=>y.1<=l.length/\y.2.Sublist (l.take y.1)/\∀(j:Nat),j < y.1->l[j]?≠some x) (λy=>l.length - y.1) (0,[]) (by exact ao) (by exact ao) ⟨by simp,by simp,λj hj=>by simp at hj⟩ ?_
 rintro ⟨i,o⟩ ⟨hi,CE,eA⟩
 simp only at hi CE eA
 have gv:o.length<=i:=by have:=CE.length_le;simp at this;omega
 cbv
 refine ⟨λh=>?_,λh=>?_⟩
 ·(have h:=h.out;simp (disch:=exact aT) only [hS] at h)
  have aR:i < l.length:=by exact aT
  have bh:l.length - (i+1) < l.length - i:=by omega
  obtain ⟨y,hy⟩:=bD aR
  have rS:=IH y (cb hy)
  have h1:=cq (i:=i) (by omega)
  have h0:=n0 i
  have ht:l.take (i+1)=l.take i++[y]:=by rw [DT,hy];rfl
  cbv
  refine ⟨y,⟨h0,hy⟩,?_⟩
  cbv
  refine ⟨⟨y,x⟩,⟨by exact aK,by show y.length<=_;omega,by show x.length<=_;omega⟩,?_⟩
  cbv
  refine ⟨λh=>?_,λh=>?_⟩
  ·cbv
   exact .mk' l ⟨by exact aK⟩ (.inl rfl)
  ·have h:=h.out
   have cO:y≠x:=by
    rintro rfl
    have h2:Cc y y=false:=by simpa using h
    rw [al1] at h2;cases h2
   have ahf:∀(j:Nat),j < i+1->l[j]?≠some x:=λj hj=>by
    by_cases nO:j=i
    ·subst nO;rw [hy];simpa using cO
    ·exact eA j (by omega)
   cbv
   refine ⟨y,⟨h0,hy⟩,?_⟩
   cbv
   refine ⟨⟨x,y⟩,⟨by exact aK,by show x.length<=_;omega,by show y.length<=_;omega⟩,?_⟩
   cbv
   refine ⟨λh=>?_,λh=>?_⟩
   ·cbv
    refine ⟨y,⟨h0,hy⟩,?_⟩
    cbv
    refine ⟨[y],⟨by exact aK,by show (o.length+1)*24<=_;omega,by show o.length+1<=_;omega⟩,?_⟩
    cbv
    exact ⟨(i+1,o++[y]),by have bg:=h1;exact bJ,by exact ao,⟨⟨aR,by show (o++[y]).Sublist (l.take (i+1));rw [ht];exact CE.append_right [y],ahf⟩,bh⟩⟩
   ·cbv
    exact ⟨(i+1,o),by have bg:=h1;exact bJ,by exact ao,⟨⟨aR,by show o.Sublist (l.take (i+1));rw [ht];exact CE.trans (List.sublist_append_left _ _),ahf⟩,bh⟩⟩
 ·(have h:=h.out;simp (disch:=exact aT) only [hS] at h)
  have b9:i=l.length:=by exact aT
  have arP:o.Sublist l:=by rw [b9,lK] at CE;exact CE
  have od:x∉l:=λhm=>by
   obtain ⟨j,hj⟩:=nX hm
   have er:=(bW.1 hj).1
   exact eA j (by omega) hj
  cbv
  refine ⟨[x],⟨by exact aK,by show (o.length+1)*24<=_;omega,by show o.length+1<=_;omega⟩,?_⟩
  cbv
  exact .mk' (o++[x]) ⟨by exact aK⟩ (.inr ⟨od,o,arP,rfl⟩)
structure OA (a b y:List Int):Prop where
 len:y.length<=a.length+b.length
 mem:∀z∈y,z∈a\/z∈b
structure UG where
 i:Nat
 k:Nat
 o:List Int
structure Qz (a b:List Int) (x:UG):Prop where
 i:x.i<=a.length
 k:x.k<=b.length
 len:x.o.length<=x.i+x.k
 mem:∀z∈x.o,z∈a\/z∈b
@[reducible] noncomputable def aqb:fK where
 α:=LL
 args x:=[.sl 1 bM (λ_=>x.a),.sl 1 bM (λ_=>x.b)]
 pre x:=x.a.length<=1000000/\x.b.length<=1000000
 β:=List Int
 post x y:=OA x.a x.b y
 res x y:=.sl 1 bM (λ_=>y)
theorem Ub:eG PP 123 aqb:=by
 refine iL (iQ 0 0) (fo Tryz.func123) (λa=>⟨(λx=>(cQ x).1),(λx=>(cQ x).1),trivial⟩) (λa y=>(λx=>(cQ x).1)) ?_
 rintro ⟨a,b⟩ hx
 obtain ⟨ha,hb⟩:a.length<=1000000/\b.length<=1000000:=hx
 refine ⟨?_⟩
 cbv
 refine Sat.cf (iQ 0 0) 1 5 [(.t 5,0)] (λx:UG=>[(5,.own 0),(6,.i .i64 λ_=>(x.i:Int)),(7,.i .i64 λ_=>(x.k:Int))]) (λx=>[(0,.dyn 3 1 bM λ_=>x.o)])
  (λx=>Qz a b x) (λx=>(a.length - x.i)+(b.length - x.k)) ⟨0,0,[]⟩ (by exact ao) (by exact ao) ⟨cN _,cN _,cN _,λz hz=>by simp at hz⟩ ?_
 rintro ⟨i,k,o⟩ ⟨hi,hk,hlen,eV⟩
 simp only at hi hk hlen eV
 have iB:=n0 i
 have gA:=n0 k
 have mO:=cq (i:=i) (by omega)
 have eT:=cq (i:=k) (by omega)
 have GA:∀x,a[i]?=some x->Qz a b ⟨i+1,k,o++[x]⟩/\(a.length - (i+1))+(b.length - k) < (a.length - i)+(b.length - k):=λx hx=>by
  have:=(bW.1 hx).1
  refine ⟨⟨this,hk,by simp only [ib,rA];omega,λz hz=>?_⟩,by omega⟩
  rcases eP.1 hz with hz|hz
  ·exact eV z hz
  ·simp at hz;subst hz;exact .inl (cb hx)
 have GB:∀x,b[k]?=some x->Qz a b ⟨i,k+1,o++[x]⟩/\(a.length - i)+(b.length - (k+1)) < (a.length - i)+(b.length - k):=λx hx=>by
  have:=(bW.1 hx).1
  refine ⟨⟨hi,this,by simp only [ib,rA];omega,λz hz=>?_⟩,by omega⟩
  rcases eP.1 hz with hz|hz
  ·exact eV z hz
  ·simp at hz;subst hz;exact .inr (cb hx)
 have GC:∀x,a[i]?=some x->k < b.length->Qz a b ⟨i+1,k+1,o++[x]⟩/\(a.length - (i+1))+(b.length - (k+1)) < (a.length - i)+(b.length - k):=λx hx dq=>by
  have:=(bW.1 hx).1
  refine ⟨⟨this,dq,by simp only [ib,rA];omega,λz hz=>?_⟩,by omega⟩
  rcases eP.1 hz with hz|hz
  ·exact eV z hz
  ·simp at hz;subst hz;exact .inl (cb hx)
 cbv
 refine ⟨λh=>?_,λh=>?_⟩
 ·(have h:=h.out;simp (disch:=exact aT) only [hS] at h)
  have bt:i < a.length:=by exact aT
  obtain ⟨x,hx⟩:=bD bt
  cbv
  refine ⟨λh=>?_,λh=>?_⟩
  ·(have h:=h.out;simp (disch:=exact aT) only [hS] at h)
   cbv
   refine ⟨x,⟨iB,hx⟩,?_⟩
   cbv
   refine ⟨[x],⟨by exact aK,by show (o.length+1)*8<=_;omega,by show o.length+1<=_;omega⟩,?_⟩
   cbv
   exact ⟨⟨i+1,k,o++[x]⟩,by have bg:=mO;exact bJ,by exact ao,⟨GA x hx⟩⟩
  ·(have h:=h.out;simp (disch:=exact aT) only [hS] at h)
   have dq:k < b.length:=by exact aT
   obtain ⟨y,hy⟩:=bD dq
   cbv
   refine ⟨λh=>?_,λh=>?_⟩
   ·cbv
    refine ⟨x,⟨iB,hx⟩,?_⟩
    cbv
    refine ⟨y,⟨gA,hy⟩,?_⟩
    cbv
    refine ⟨λh=>?_,λh=>?_⟩
    ·skip
     cbv
     refine ⟨x,⟨iB,hx⟩,?_⟩
     cbv
     refine ⟨[x],⟨by exact aK,by show (o.length+1)*8<=_;omega,by show o.length+1<=_;omega⟩,?_⟩
     cbv
     exact ⟨⟨i+1,k,o++[x]⟩,by have bg:=mO;exact bJ,by exact ao,⟨GA x hx⟩⟩
    ·cbv
     refine ⟨λh=>?_,λh=>?_⟩
     ·(have h:=h.out;simp (disch:=exact aT) only [hS] at h)
      exfalso
      exact aT
     ·cbv
      refine ⟨y,⟨gA,hy⟩,?_⟩
      cbv
      refine ⟨x,⟨iB,hx⟩,?_⟩
      cbv
      refine ⟨λh=>?_,λh=>?_⟩
      ·skip
       cbv
       refine ⟨y,⟨gA,hy⟩,?_⟩
       cbv
       refine ⟨[y],⟨by exact aK,by show (o.length+1)*8<=_;omega,by show o.length+1<=_;omega⟩,?_⟩
       cbv
       exact ⟨⟨i,k+1,o++[y]⟩,by have bg:=eT;exact bJ,by exact ao,⟨GB y hy⟩⟩
      ·skip
       cbv
       refine ⟨x,⟨iB,hx⟩,?_⟩
       cbv
       refine ⟨[x],⟨by exact aK,by show (o.length+1)*8<=_;omega,by show o.length+1<=_;omega⟩,?_⟩
       cbv
       exact ⟨⟨i+1,k+1,o++[x]⟩,by have bg:=mO;have lQ:=eT;exact bJ,by exact ao,⟨GC x hx dq⟩⟩
   ·(have h:=h.out;simp (disch:=exact aT) only [hS] at h)
    exfalso
    exact aT
 ·(have h:=h.out;simp (disch:=exact aT) only [hS] at h)
  have bt:¬i < a.length:=by exact aT
  cbv
  refine ⟨λh=>?_,λh=>?_⟩
  ·(have h:=h.out;simp (disch:=exact aT) only [hS] at h)
   have dq:k < b.length:=by exact aT
   obtain ⟨y,hy⟩:=bD dq
   cbv
   refine ⟨λh=>?_,λh=>?_⟩
   ·(have h:=h.out;simp (disch:=exact aT) only [hS] at h)
    exfalso
    exact aT
   ·cbv
    refine ⟨λh=>?_,λh=>?_⟩
    ·(have h:=h.out;simp (disch:=exact aT) only [hS] at h)
     exfalso
     exact aT
    ·cbv
     refine ⟨λh=>?_,λh=>?_⟩
     ·skip
      cbv
      refine ⟨y,⟨gA,hy⟩,?_⟩
      cbv
      refine ⟨[y],⟨by exact aK,by show (o.length+1)*8<=_;omega,by show o.length+1<=_;omega⟩,?_⟩
      cbv
      exact ⟨⟨i,k+1,o++[y]⟩,by have bg:=eT;exact bJ,by exact ao,⟨GB y hy⟩⟩
     ·(have h:=h.out;simp (disch:=exact aT) only [hS] at h)
      exfalso
      exact aT
  ·(have h:=h.out;simp (disch:=exact aT) only [hS] at h)
   cbv
   exact .mk' o ⟨by exact aK⟩ ⟨by show o.length<=a.length+b.length;omega,eV⟩
structure U5 (uA:Int) (op:Int) (y:List Int):Prop where
 len:y.length<=3
 read:op=7->y.length=3
 mem:∀z∈y,0<=z/\z < uA
structure GL where
 g:Gate
 uA:Int
@[reducible] noncomputable def atz:fK where
 α:=GL
 args x:=[.agg (dD x.g)]
 pre x:=tV x.uA x.g
 β:=List Int
 post x y:=U5 x.uA x.g.op y
 res x y:=.sl 1 bM (λ_=>y)
def yn (op:Int):Int:=if op=1 then 1 else if op=2\/op=3\/op=4 then 2 else if op=5\/op=6\/op=7 then 3 else -1
@[reducible] noncomputable def ArS:Vc.Spec where
 α:=Int
 args x:=[.i .i64 (λ_=>x)]
 pre x:=True
 res x:=.i .i64 (λ_=>yn x)
theorem arQ:cZ (PP ()) 143 ArS:=by
 refine dT (iQ 0 0) (fo Tryz.func143) (λa=>⟨trivial,trivial⟩) (λa=>trivial) ?_
 intro (op:Int) hx
 refine ⟨?_⟩
 cbv
 repeat' (first
  | (refine ⟨λh=>?_,λh=>?_⟩<;>(have h:=h.out;simp only [aV,beq_iff_eq,beq_eq_false_iff_ne,ne_eq] at h;cbv))
  | (
   refine ⟨?_⟩;first|refine .ic ?_|refine .agO ?_|refine .i ?_
   simp only [yn]
   simp_all;done)
  | (
   refine ⟨.ic ?_⟩
   show _=yn op
   unfold yn
   repeat' split
   all_goals omega))
noncomputable def atA (n m:Nat):Ctx:=fB n m [] [(143,ArS)]
theorem aqc (n m:Nat):CB PP (atA n m):=fG n m trivial ⟨arQ,trivial⟩
theorem aqd:eG PP 126 atz:=by
 refine iL (aqc 0 0) (fo Tryz.func126) (λa=>⟨(eO a.g).1,trivial⟩) (λa y=>(λx=>(cQ x).1)) ?_
 rintro ⟨⟨op,a,b,c,n⟩,uA⟩ hx
 obtain ⟨h1,h2,h3,h4,h5⟩:tV uA ⟨op,a,b,c,n⟩:=hx
 simp only at h1 h2 h3 h4 h5
 have hm:∀z∈[a,b,c],0<=z/\z < uA:=λz hz=>by
  simp only [eB,List.not_mem_nil,or_false] at hz
  rcases hz with rfl|rfl|rfl
  ·exact h2
  ·exact h3
  ·exact h4
 have Yu:1<=yn op/\yn op<=3/\(op=7->yn op=3):=by
  unfold yn
  repeat' split
  all_goals omega
 obtain ⟨r,hr⟩:∃r,r=yn op:=⟨_,rfl⟩
 have bX:U5 uA op (([a,b,c].take r.toNat).drop 0):=by
  rw [<-hr] at Yu
  refine ⟨by simp only [List.drop_zero,lJ,Ar,sT];omega,λh=>?_,λz hz=>hm z (sQ (r9 hz))⟩
  simp only [List.drop_zero,lJ,Ar,sT]
  have:=Yu.2.2 h
  omega
 rw [<-hr] at Yu
 have atB:0<=r:=by omega
 have atC:r<=3:=by omega
 refine ⟨?_⟩
 cbv
 refine ⟨op,⟨by exact aK,trivial⟩,?_⟩
 cbv
 refine ⟨[a,b,c],⟨rfl,by exact aK,by decide,by show 0<=yn op;rw [<-hr];exact atB,by show yn op<=3;rw [<-hr];exact atC⟩,?_⟩
 cbv
 exact .mk' (([a,b,c].take r.toNat).drop 0) ⟨.sl (by rw [hr];rfl)⟩ bX
structure NV where
 n:Net
 v:Int
def fR (n:Net):Int:=2+n.ins.length+n.gM.length
structure CK (n:Net) (v:Int) (y:List Int):Prop where
 len:y.length<=3
 mem:∀z∈y,0<=z/\z < v
 read:∀g,2+(n.ins.length:Int)<=v->n.gM[(v - 2 - n.ins.length).toNat]?=some g->g.op=7->y.length=3
@[reducible] noncomputable def anc:fK where
 α:=NV
 args x:=[.agg (sB x.n),.i .i64 (λ_=>x.v)]
 pre x:=eX x.n/\0<=x.v/\x.v < fR x.n
 β:=List Int
 post x y:=CK x.n x.v y
 res x y:=.sl 1 bM (λ_=>y)
noncomputable def atD (n m:Nat):Ctx:=fB n m [(126,Tryz.f126)] [] [126]
theorem aqe (n m:Nat):CB PP (atD n m):=fG n m ⟨fo Tryz.func126,trivial⟩ trivial
theorem Gw:eG PP 54 anc:=by
 refine iL (aqe 0 0) (fo Tryz.func54) (λa=>⟨tQ a.n,trivial,trivial⟩) (λa y=>(λx=>(cQ x).1)) ?_
 rintro ⟨⟨ins,gs,outs,dr⟩,v⟩ hx
 obtain ⟨hn,h0,h1⟩:eX ⟨ins,gs,outs,dr⟩/\0<=v/\v < 2+(ins.length:Int)+gs.length:=hx
 have wH:2+ins.length+gs.length<=600:=hn.pF
 have Yv:∀(i:Nat) (g:Gate),gs[i]?=some g->tV (2+ins.length+i) g:=hn.gM
 refine ⟨?_⟩
 cbv
 refine ⟨λh=>?_,λh=>?_⟩
 ·(have h:=h.out;simp (disch:=exact aT) only [hS] at h)
  have hv:v < 2+ins.length:=by exact aT
  cbv
  exact .mk' [] ⟨by exact aK⟩ ⟨by decide,λz hz=>by simp at hz,λg b9=>absurd b9 (by clear b9;show ¬2+(ins.length:Int)<=v;exact aT)⟩
 ·(have h:=h.out;simp (disch:=exact aT) only [hS] at h)
  have hv:2+ins.length<=v:=by exact aT
  obtain ⟨g,hg⟩:=bD (l:=gs) (i:=(v - 2 - ins.length).toNat) (by exact aT)
  have G:=Yv _ g hg
  have e:(2+(ins.length:Int)+((v - 2 - ins.length).toNat:Nat))=v:=by omega
  rw [e] at G
  have gu:(0<=IntKind.i64.wrap (IntKind.i64.wrap (v - 2) - (ins.length:Int)))/\gs[(IntKind.i64.wrap (IntKind.i64.wrap (v - 2) - (ins.length:Int))).toNat]?=some g:=by
   simp (disch:=exact aT) only [cu];exact ⟨by omega,hg⟩
  cbv
  refine ⟨g,⟨gu⟩,?_⟩
  cbv
  refine bV.rel aqd ⟨g,v⟩ (by exact aK) ⟨G⟩ λy hy=>?_
  have hy:U5 v g.op y:=hy.out
  cbv
  exact .mk' y ⟨by exact aK⟩ ⟨hy.len,hy.mem,λg' _ zw h7=>by
   have:gs[(v - 2 - ins.length).toNat]?=some g':=zw
   rw [hg] at this
   cases this
   exact hy.read h7⟩
noncomputable def yX (n:Net) (v:Int):Bool:=decide (2<=v)&&(decide (v < 2+n.ins.length)||match n.gM[(v - 2 - n.ins.length).toNat]? with|some g=>g.op == 7|none=>false)
@[reducible] noncomputable def U6:Vc.Spec where
 α:=NV
 args x:=[.agg (sB x.n),.i .i64 (λ_=>x.v)]
 pre x:=eX x.n/\0<=x.v/\x.v < fR x.n
 res x:=.b (λ_=>yX x.n x.v)
theorem acC:cZ (PP ()) 122 U6:=by
 refine dT (iQ 0 0) (fo Tryz.func122) (λa=>⟨tQ a.n,trivial,trivial⟩) (λa=>trivial) ?_
 rintro ⟨⟨ins,gs,outs,dr⟩,v⟩ hx
 obtain ⟨hn,h0,h1⟩:eX ⟨ins,gs,outs,dr⟩/\0<=v/\v < 2+(ins.length:Int)+gs.length:=hx
 have wH:2+ins.length+gs.length<=600:=hn.pF
 refine ⟨?_⟩
 cbv
 refine ⟨λh=>?_,λh=>?_⟩
 ·(have h:=h.out;simp (disch:=exact aT) only [hS] at h)
  have ka:2<=v:=by exact aT
  cbv
  refine ⟨λh=>?_,λh=>?_⟩
  ·(have h:=h.out;simp (disch:=exact aT) only [hS] at h)
   have hv:v < 2+ins.length:=by exact aT
   have e:yX ⟨ins,gs,outs,dr⟩ v=true:=by unfold yX;simp [ka,hv]
   cbv
   exact ⟨.bc e.symm⟩
  ·(have h:=h.out;simp (disch:=exact aT) only [hS] at h)
   have hv:2+ins.length<=v:=by exact aT
   obtain ⟨g,hg⟩:=bD (l:=gs) (i:=(v - 2 - ins.length).toNat) (by exact aT)
   have gu:(0<=IntKind.i64.wrap (IntKind.i64.wrap (v - 2) - (ins.length:Int)))/\gs[(IntKind.i64.wrap (IntKind.i64.wrap (v - 2) - (ins.length:Int))).toNat]?=some g:=by
    simp (disch:=exact aT) only [cu];exact ⟨by omega,hg⟩
   have e:yX ⟨ins,gs,outs,dr⟩ v=aV g.op 7:=by
    unfold yX aV
    simp only
    rw [hg]
    have:¬v < 2+ins.length:=by omega
    simp [ka,this]
   cbv
   refine ⟨g,⟨gu⟩,?_⟩
   cbv
   exact ⟨.b e.symm⟩
 ·(have h:=h.out;simp (disch:=exact aT) only [hS] at h)
  have e:yX ⟨ins,gs,outs,dr⟩ v=false:=by
   unfold yX
   have:¬2<=v:=by exact aT
   simp [this]
  cbv
  exact ⟨.bc e.symm⟩
end Go.Proofs.Pk
