import Derived.Test.YthnhbemmlfaihaaGreatQ11
import Derived.Test.YthnhbemmlfaihaaGreatQ12
import Derived.Test.YthnhbemmlfaihaaGreatProg
set_option linter.unusedVariables false
set_option linter.unusedSimpArgs false
set_option maxRecDepth 10000
set_option maxHeartbeats 64000000
namespace Go.Proofs.Pk
open Go Go.Vc
noncomputable def PP:Unit->Program:=λ_=>Tryz.prog
abbrev I0:Value:=.int .i64 0
abbrev U0:Value:=.int .u64 0
abbrev Y0:Value:=.int .u8 0
abbrev N0:Value:=.slice none 0 0
abbrev S0:Value:=.string ByteArray.empty
abbrev B0:Value:=.bool false
abbrev M0:Value:=.map none
@[reducible] def ti (d:TD) (s b:Nat) (z:Value):TI:={ d:=d,size:=s,bytes:=b,zero:=z }
@[reducible] def tF (d:TD) (s b:Nat) (z:Value) (k:Option (List IntKind)):TI:={ d:=d,size:=s,bytes:=b,zero:=z,flat:=true,kd:=k }
@[reducible] def tS (e:TypeId):TI:={ d:=.sl e,size:=1,bytes:=24,zero:=.slice none 0 0 }
def tt:TypeId->Option TI
 | 3=>some (ti (.int .i64) 1 8 I0)
 | 4=>some (ti (.bool) 1 1 B0)
 | 5=>some (ti (.int .u8) 1 1 Y0)
 | 9=>some (ti (.str) 1 16 S0)
 | 22=>some (tS 5)
 | 23=>some (ti (.st [(22,0,1)]) 1 24 (.agg #[N0]))
 | 24=>some (ti (.st [(22,0,1)]) 1 24 (.agg #[N0]))
 | 25=>some (ti (.st [(24,0,1),(22,1,1),(22,2,1),(22,3,1)]) 4 96 (.agg #[N0,N0,N0,N0]))
 | 26=>some (ti (.st [(24,0,1),(22,1,1),(22,2,1),(22,3,1)]) 4 96 (.agg #[N0,N0,N0,N0]))
 | 28=>some (tS 159)
 | 29=>some (tS 163)
 | 30=>some (tS 154)
 | 31=>some (tS 161)
 | 32=>some (ti (.st [(9,0,1),(9,1,1),(28,2,1),(29,3,1),(30,4,1),(31,5,1)]) 6 128 (.agg #[S0,S0,N0,N0,N0,N0]))
 | 33=>some (ti (.st [(9,0,1),(9,1,1),(28,2,1),(29,3,1),(30,4,1),(31,5,1)]) 6 128 (.agg #[S0,S0,N0,N0,N0,N0]))
 | 35=>some (tS 3)
 | 36=>some (tS 35)
 | 37=>some (ti (.st [(35,0,1),(36,1,1)]) 2 48 (.agg #[N0,N0]))
 | 38=>some (ti (.st [(35,0,1),(36,1,1)]) 2 48 (.agg #[N0,N0]))
 | 40=>some (tS 168)
 | 41=>some (tS 4)
 | 42=>some (ti (.st [(40,0,1),(41,1,1)]) 2 48 (.agg #[N0,N0]))
 | 43=>some (ti (.st [(40,0,1),(41,1,1)]) 2 48 (.agg #[N0,N0]))
 | 45=>some (tS 133)
 | 46=>some (tS 118)
 | 47=>some (ti (.st [(45,0,1),(46,1,1),(45,2,1),(35,3,1)]) 4 96 (.agg #[N0,N0,N0,N0]))
 | 48=>some (ti (.st [(45,0,1),(46,1,1),(45,2,1),(35,3,1)]) 4 96 (.agg #[N0,N0,N0,N0]))
 | 49=>some (tS 135)
 | 50=>some (ti (.st [(3,0,1),(49,1,1),(35,2,1)]) 3 56 (.agg #[I0,N0,N0]))
 | 51=>some (ti (.st [(3,0,1),(49,1,1),(35,2,1)]) 3 56 (.agg #[I0,N0,N0]))
 | 52=>some (ti (.st [(48,0,4),(51,4,3),(4,7,1)]) 8 160 (.agg #[N0,N0,N0,N0,I0,N0,N0,B0]))
 | 53=>some (ti (.st [(48,0,4),(51,4,3),(4,7,1)]) 8 160 (.agg #[N0,N0,N0,N0,I0,N0,N0,B0]))
 | 55=>some (tS 76)
 | 56=>some (ti (.st [(45,0,1),(55,1,1),(45,2,1),(35,3,1)]) 4 96 (.agg #[N0,N0,N0,N0]))
 | 57=>some (ti (.st [(45,0,1),(55,1,1),(45,2,1),(35,3,1)]) 4 96 (.agg #[N0,N0,N0,N0]))
 | 58=>some (ti (.int .i64) 1 8 I0)
 | 59=>some (ti (.st [(57,0,4),(58,4,1)]) 5 104 (.agg #[N0,N0,N0,N0,I0]))
 | 60=>some (ti (.st [(57,0,4),(58,4,1)]) 5 104 (.agg #[N0,N0,N0,N0,I0]))
 | 66=>some (ti (.st [(4,0,1),(38,1,2),(41,3,1),(40,4,1)]) 5 104 (.agg #[B0,N0,N0,N0,N0]))
 | 67=>some (ti (.st [(4,0,1),(38,1,2),(41,3,1),(40,4,1)]) 5 104 (.agg #[B0,N0,N0,N0,N0]))
 | 72=>some (tS 74)
 | 74=>some (ti (.int .u64) 1 8 U0)
 | 75=>some (ti (.st [(35,0,1),(3,1,1),(3,2,1),(3,3,1),(74,4,1)]) 5 56 (.agg #[N0,I0,I0,I0,U0]))
 | 76=>some (ti (.st [(35,0,1),(3,1,1),(3,2,1),(3,3,1),(74,4,1)]) 5 56 (.agg #[N0,I0,I0,I0,U0]))
 | 78=>some (ti (.arr 3 5) 3 3 (.agg #[Y0,Y0,Y0]))
 | 91=>some (ti (.st [(35,0,1),(36,1,1)]) 2 48 (.agg #[N0,N0]))
 | 92=>some (ti (.st [(35,0,1),(36,1,1)]) 2 48 (.agg #[N0,N0]))
 | 93=>some (ti (.st [(51,0,3),(92,3,2),(58,5,1)]) 6 112 (.agg #[I0,N0,N0,N0,N0,I0]))
 | 94=>some (ti (.st [(51,0,3),(92,3,2),(58,5,1)]) 6 112 (.agg #[I0,N0,N0,N0,N0,I0]))
 | 96=>some (ti (.st [(35,0,1),(36,1,1),(58,2,1)]) 3 56 (.agg #[N0,N0,I0]))
 | 97=>some (ti (.st [(35,0,1),(36,1,1),(58,2,1)]) 3 56 (.agg #[N0,N0,I0]))
 | 113=>some (tS 36)
 | 117=>some (tF (.st [(3,0,1),(3,1,1),(3,2,1),(3,3,1),(3,4,1)]) 5 40 (.agg #[I0,I0,I0,I0,I0]) none)
 | 118=>some (tF (.st [(3,0,1),(3,1,1),(3,2,1),(3,3,1),(3,4,1)]) 5 40 (.agg #[I0,I0,I0,I0,I0]) none)
 | 129=>some (ti (.arr 2 3) 2 16 (.agg #[I0,I0]))
 | 132=>some (tF (.st [(3,0,1),(3,1,1),(3,2,1)]) 3 24 (.agg #[I0,I0,I0]) (some [.i64,.i64,.i64]))
 | 133=>some (tF (.st [(3,0,1),(3,1,1),(3,2,1)]) 3 24 (.agg #[I0,I0,I0]) (some [.i64,.i64,.i64]))
 | 134=>some (ti (.st [(35,0,1),(3,1,1),(3,2,1)]) 3 40 (.agg #[N0,I0,I0]))
 | 135=>some (ti (.st [(35,0,1),(3,1,1),(3,2,1)]) 3 40 (.agg #[N0,I0,I0]))
 | 139=>some (ti (.st [(35,0,1),(35,1,1),(29,2,1),(4,3,1)]) 4 80 (.agg #[N0,N0,N0,B0]))
 | 140=>some (ti (.st [(35,0,1),(35,1,1),(29,2,1),(4,3,1)]) 4 80 (.agg #[N0,N0,N0,B0]))
 | 141=>some (ti (.st [(22,0,1),(3,1,1)]) 2 32 (.agg #[N0,I0]))
 | 142=>some (ti (.st [(22,0,1),(3,1,1)]) 2 32 (.agg #[N0,I0]))
 | 145=>some (ti (.st [(3,0,1),(9,1,1)]) 2 24 (.agg #[I0,S0]))
 | 146=>some (ti (.st [(3,0,1),(9,1,1)]) 2 24 (.agg #[I0,S0]))
 | 147=>some (tS 149)
 | 148=>some (ti (.st [(3,0,1),(9,1,1),(146,2,2),(146,4,2),(147,6,1)]) 7 96 (.agg #[I0,S0,I0,S0,I0,S0,N0]))
 | 149=>some (ti (.st [(3,0,1),(9,1,1),(146,2,2),(146,4,2),(147,6,1)]) 7 96 (.agg #[I0,S0,I0,S0,I0,S0,N0]))
 | 150=>some (ti (.st [(149,0,7),(142,7,2)]) 9 128 (.agg #[I0,S0,I0,S0,I0,S0,N0,N0,I0]))
 | 151=>some (ti (.st [(149,0,7),(142,7,2)]) 9 128 (.agg #[I0,S0,I0,S0,I0,S0,N0,N0,I0]))
 | 153=>some (ti (.st [(3,0,1),(3,1,1),(149,2,7)]) 9 112 (.agg #[I0,I0,I0,S0,I0,S0,I0,S0,N0]))
 | 154=>some (ti (.st [(3,0,1),(3,1,1),(149,2,7)]) 9 112 (.agg #[I0,I0,I0,S0,I0,S0,I0,S0,N0]))
 | 156=>some (ti (.st [(3,0,1),(9,1,1),(3,2,1)]) 3 32 (.agg #[I0,S0,I0]))
 | 157=>some (ti (.st [(3,0,1),(9,1,1),(3,2,1)]) 3 32 (.agg #[I0,S0,I0]))
 | 158=>some (ti (.st [(9,0,1),(3,1,1),(3,2,1),(149,3,7),(157,10,3)]) 13 160 (.agg #[S0,I0,I0,I0,S0,I0,S0,I0,S0,N0,I0,S0,I0]))
 | 159=>some (ti (.st [(9,0,1),(3,1,1),(3,2,1),(149,3,7),(157,10,3)]) 13 160 (.agg #[S0,I0,I0,I0,S0,I0,S0,I0,S0,N0,I0,S0,I0]))
 | 160=>some (ti (.st [(3,0,1),(3,1,1),(149,2,7),(149,9,7)]) 16 208 (.agg #[I0,I0,I0,S0,I0,S0,I0,S0,N0,I0,S0,I0,S0,I0,S0,N0]))
 | 161=>some (ti (.st [(3,0,1),(3,1,1),(149,2,7),(149,9,7)]) 16 208 (.agg #[I0,I0,I0,S0,I0,S0,I0,S0,N0,I0,S0,I0,S0,I0,S0,N0]))
 | 162=>some (ti (.st [(9,0,1),(3,1,1),(3,2,1),(149,3,7),(149,10,7),(149,17,7),(157,24,3)]) 27 352 (.agg #[S0,I0,I0,I0,S0,I0,S0,I0,S0,N0,I0,S0,I0,S0,I0,S0,N0,I0,S0,I0,S0,I0,S0,N0,I0,S0,I0]))
 | 163=>some (ti (.st [(9,0,1),(3,1,1),(3,2,1),(149,3,7),(149,10,7),(149,17,7),(157,24,3)]) 27 352 (.agg #[S0,I0,I0,I0,S0,I0,S0,I0,S0,N0,I0,S0,I0,S0,I0,S0,N0,I0,S0,I0,S0,I0,S0,N0,I0,S0,I0]))
 | 165=>some (ti (.int .u64) 1 8 U0)
 | 167=>some (ti (.st [(4,0,1),(3,1,1)]) 2 16 (.agg #[B0,I0]))
 | 168=>some (ti (.st [(4,0,1),(3,1,1)]) 2 16 (.agg #[B0,I0]))
 | 169=>some (ti (.st [(48,0,4),(58,4,1)]) 5 104 (.agg #[N0,N0,N0,N0,I0]))
 | 170=>some (ti (.st [(48,0,4),(58,4,1)]) 5 104 (.agg #[N0,N0,N0,N0,I0]))
 | 178=>some (ti (.st [(57,0,4)]) 4 96 (.agg #[N0,N0,N0,N0]))
 | 179=>some (ti (.st [(57,0,4)]) 4 96 (.agg #[N0,N0,N0,N0]))
 | 184=>some (ti (.map 3 4) 1 8 M0)
 | 191=>some (ti (.map 74 3) 1 8 M0)
 | 192=>some (ti (.map 74 4) 1 8 M0)
 | 199=>some (ti (.int .u64) 1 8 U0)
 | 213=>some (ti (.st [(3,0,1),(35,1,1)]) 2 32 (.agg #[I0,N0]))
 | 214=>some (ti (.st [(3,0,1),(35,1,1)]) 2 32 (.agg #[I0,N0]))
 | 216=>some (ti (.map 3 3) 1 8 M0)
 | 244=>some (ti (.map 133 3) 1 8 M0)
 | 252=>some (ti (.arr 3 3) 3 24 (.agg #[I0,I0,I0]))
 | 256=>some (ti (.map 259 4) 1 8 M0)
 | 257=>some (ti (.map 259 3) 1 8 M0)
 | 258=>some (tF (.st [(3,0,1),(3,1,1)]) 2 16 (.agg #[I0,I0]) (some [.i64,.i64]))
 | 259=>some (tF (.st [(3,0,1),(3,1,1)]) 2 16 (.agg #[I0,I0]) (some [.i64,.i64]))
 | 274=>some (ti (.st [(3,0,1),(46,1,1)]) 2 32 (.agg #[I0,N0]))
 | 275=>some (ti (.st [(3,0,1),(46,1,1)]) 2 32 (.agg #[I0,N0]))
 | 276=>some (ti (.st [(275,0,2),(35,2,1),(35,3,1),(36,4,1),(3,5,1)]) 6 112 (.agg #[I0,N0,N0,N0,N0,I0]))
 | 277=>some (ti (.st [(275,0,2),(35,2,1),(35,3,1),(36,4,1),(3,5,1)]) 6 112 (.agg #[I0,N0,N0,N0,N0,I0]))
 | 279=>some (ti (.st [(33,0,6),(45,6,1),(36,7,1)]) 8 176 (.agg #[S0,S0,N0,N0,N0,N0,N0,N0]))
 | 280=>some (ti (.st [(33,0,6),(45,6,1),(36,7,1)]) 8 176 (.agg #[S0,S0,N0,N0,N0,N0,N0,N0]))
 | 281=>some (ti (.st [(275,0,2),(45,2,1),(35,3,1)]) 4 80 (.agg #[I0,N0,N0,N0]))
 | 282=>some (ti (.st [(275,0,2),(45,2,1),(35,3,1)]) 4 80 (.agg #[I0,N0,N0,N0]))
 | 284=>some (ti (.st [(275,0,2),(3,2,1)]) 3 40 (.agg #[I0,N0,I0]))
 | 285=>some (ti (.st [(275,0,2),(3,2,1)]) 3 40 (.agg #[I0,N0,I0]))
 | 288=>some (ti (.st [(275,0,2),(35,2,1)]) 3 56 (.agg #[I0,N0,N0]))
 | 289=>some (ti (.st [(275,0,2),(35,2,1)]) 3 56 (.agg #[I0,N0,N0]))
 | 294=>some (tS 307)
 | 295=>some (tS 302)
 | 296=>some (ti (.arr 2 4) 2 2 (.agg #[B0,B0]))
 | 297=>some (ti (.st [(48,0,4),(244,4,1),(294,5,1),(295,6,1),(296,7,2),(216,9,1)]) 10 168 (.agg #[N0,N0,N0,N0,M0,N0,N0,B0,B0,M0]))
 | 298=>some (ti (.st [(48,0,4),(244,4,1),(294,5,1),(295,6,1),(296,7,2),(216,9,1)]) 10 168 (.agg #[N0,N0,N0,N0,M0,N0,N0,B0,B0,M0]))
 | 301=>some (tF (.st [(3,0,1),(3,1,1)]) 2 16 (.agg #[I0,I0]) (some [.i64,.i64]))
 | 302=>some (tF (.st [(3,0,1),(3,1,1)]) 2 16 (.agg #[I0,I0]) (some [.i64,.i64]))
 | 304=>some (ti (.arr 2 302) 4 32 (.agg #[I0,I0,I0,I0]))
 | 306=>some (ti (.st [(295,0,1),(3,1,1),(3,2,1),(3,3,1)]) 4 48 (.agg #[N0,I0,I0,I0]))
 | 307=>some (ti (.st [(295,0,1),(3,1,1),(3,2,1),(3,3,1)]) 4 48 (.agg #[N0,I0,I0,I0]))
 | 308=>some (ti (.map 302 302) 1 8 M0)
 | 325=>some (ti (.st [(3,0,1),(58,1,1)]) 2 16 (.agg #[I0,I0]))
 | 326=>some (ti (.st [(3,0,1),(58,1,1)]) 2 16 (.agg #[I0,I0]))
 | 345=>some (tS 9)
 | 356=>some (ti (.map 133 4) 1 8 M0)
 | 361=>some (ti (.st [(35,0,1),(58,1,1)]) 2 32 (.agg #[N0,I0]))
 | 362=>some (ti (.st [(35,0,1),(58,1,1)]) 2 32 (.agg #[N0,I0]))
 | 365=>some (ti (.arr 3 4) 3 3 (.agg #[B0,B0,B0]))
 | _=>none
theorem K0 {t:TypeId} {i:TI} (h1:i.flat=false) (h2:i.kd=none) (hz:(Tryz.prog.info? t).map (·.zero)=some (some i.zero)) (hb:V5 Tryz.prog t i=true):ly Tryz.prog t i :=
 abo hz hb (λh=>by rw [h1] at h;cases h) (λ_ h=>by rw [h2] at h;cases h)
theorem adF:∀t i,tt t=some i->ly Tryz.prog t i:=by
 intro t i h
 unfold tt at h
 split at h
 all_goals cases h
 all_goals first|exact K0 rfl rfl (by kernel_rfl) (by kernel_rfl)|skip
 all_goals refine abo (by kernel_rfl) (by kernel_rfl) (λ_=>⟨rfl,λvs us w _ _ h1 h2 op x y fC=>ajq (by kernel_rfl) (by kernel_rfl) (by kernel_rfl) (by kernel_rfl) vs us w h1 h2 op x y fC⟩) (λks h=>?_)
 all_goals cases h
 all_goals exact ajM (by kernel_rfl) (by kernel_rfl) (by kernel_rfl)
def bP (x:Int):List SV:=[.i .i64 λ_=>x]
theorem df (x:Int):cI (bP x)/\(bP x).all SV.one=true:=⟨⟨trivial,trivial⟩,rfl⟩
def xN:gA:=⟨Int,bP,0⟩
def nA (x:Int):List SV:=[.i .u8 λ_=>x]
theorem y7 (x:Int):cI (nA x)/\(nA x).all SV.one=true:=⟨⟨trivial,trivial⟩,rfl⟩
def adG:gA:=⟨Int,nA,0⟩
def fB (x:Bool):List SV:=[.b λ_=>x]
theorem pA (x:Bool):cI (fB x)/\(fB x).all SV.one=true:=⟨⟨trivial,trivial⟩,rfl⟩
def abr:gA:=⟨Bool,fB,false⟩
def OV (x:Int):List SV:=[.i .u64 λ_=>x]
theorem amH (x:Int):cI (OV x)/\(OV x).all SV.one=true:=⟨⟨trivial,trivial⟩,rfl⟩
def acf:gA:=⟨Int,OV,0⟩
def e8 (x:List Int):List SV:=[.sl 1 bP (λ_=>x)]
theorem nJ (x:List Int):cI (e8 x)/\(e8 x).all SV.one=true:=⟨⟨λy=>(df y).1,trivial⟩,rfl⟩
def Nl:gA:=⟨List Int,e8,[]⟩
def Dy (x:List (List Int)):List SV:=[.sl 1 e8 (λ_=>x)]
theorem Zq (x:List (List Int)):cI (Dy x)/\(Dy x).all SV.one=true:=⟨⟨λy=>(nJ y).1,trivial⟩,rfl⟩
def als:gA:=⟨List (List Int),Dy,[]⟩
def jq (x:eS):List SV:=[.i .i64 (λ_=>x.kind),.i .i64 (λ_=>x.i),.i .i64 (λ_=>x.bit)]
theorem ve (x:eS):cI (jq x)/\(jq x).all SV.one=true:=⟨⟨trivial,trivial,trivial,trivial⟩,rfl⟩
def SY:gA:=⟨eS,jq,⟨0,0,0⟩⟩
def kC (x:Gate):List SV:=[.i .i64 (λ_=>x.op),.i .i64 (λ_=>x.a),.i .i64 (λ_=>x.b),.i .i64 (λ_=>x.c),.i .i64 (λ_=>x.n)]
theorem tZ (x:Gate):cI (kC x)/\(kC x).all SV.one=true:=⟨⟨trivial,trivial,trivial,trivial,trivial,trivial⟩,rfl⟩
def SZ:gA:=⟨Gate,kC,⟨0,0,0,0,0⟩⟩
def lN (x:Cell):List SV:=[.sl 1 bP (λ_=>x.ins),.i .i64 (λ_=>x.table),.i .i64 (λ_=>x.ep)]
theorem wx (x:Cell):cI (lN x)/\(lN x).all SV.one=true:=⟨⟨λy=>(df y).1,trivial,trivial,trivial⟩,rfl⟩
def S1:gA:=⟨Cell,lN,⟨[],0,0⟩⟩
def NK (x:Block):List SV:=[.sl 1 bP (λ_=>x.ins),.i .i64 (λ_=>x.table),.i .i64 (λ_=>x.ep),.i .i64 (λ_=>x.dD),.i .u64 (λ_=>x.key)]
theorem akr (x:Block):cI (NK x)/\(NK x).all SV.one=true:=⟨⟨λy=>(df y).1,trivial,trivial,trivial,trivial,trivial⟩,rfl⟩
def alu:gA:=⟨Block,NK,⟨[],0,0,0,0⟩⟩
def Oh (x:Head):List SV:=[.b (λ_=>x.has),.i .i64 (λ_=>x.v)]
theorem alv (x:Head):cI (Oh x)/\(Oh x).all SV.one=true:=⟨⟨trivial,trivial,trivial⟩,rfl⟩
def abt:gA:=⟨Head,Oh,⟨false,0⟩⟩
def OW (x:ByteArray):List SV:=[.str (λ_=>x)]
theorem amI (x:ByteArray):cI (OW x)/\(OW x).all SV.one=true:=⟨⟨trivial,trivial⟩,rfl⟩
def acg:gA:=⟨ByteArray,OW,ByteArray.empty⟩
def Ju (x:Source):List SV:=[.i .i64 (λ_=>x.kind),.i .i64 (λ_=>x.n)]
theorem Q2 (x:Source):cI (Ju x)/\(Ju x).all SV.one=true:=⟨⟨trivial,trivial,trivial⟩,rfl⟩
def Zr:gA:=⟨Source,Ju,⟨0,0⟩⟩
def Oi (x:Part):List SV:=[.sl 2 Ju (λ_=>x.ins),.i .i64 (λ_=>x.table),.i .i64 (λ_=>x.ep),.i .i64 (λ_=>x.dD)]
theorem alw (x:Part):cI (Oi x)/\(Oi x).all SV.one=true:=⟨⟨λy=>(Q2 y).1,trivial,trivial,trivial,trivial⟩,rfl⟩
def amJ:gA:=⟨Part,Oi,⟨[],0,0,0⟩⟩
def es:ByteArray:=ByteArray.empty
def cA:Nat->Expr->SV
 | 0,_=>.cW
 | n+1,x=>.sl 7 (λy=>[.i .i64 (λ_=>y.op),.str (λ_=>es),.i .i64 (λ_=>y.k),.str (λ_=>es),.i .i64 (λ_=>y.w),.str (λ_=>es),cA n y]) (λ_=>x.args)
def cE (n:Nat) (x:Expr):List SV:=[.i .i64 (λ_=>x.op),.str (λ_=>es),.i .i64 (λ_=>x.k),.str (λ_=>es),.i .i64 (λ_=>x.w),.str (λ_=>es),cA n x]
theorem Gz:∀(n:Nat) (x:Expr),LF (cA n x)
 | 0,x=>trivial
 | n+1,x=>λy=>⟨trivial,trivial,trivial,trivial,trivial,trivial,Gz n y,trivial⟩
theorem JB (n:Nat) (x:Expr):(cA n x).one=true:=by cases n<;>rfl
theorem adH (n:Nat) (x:Expr):cI (cE n x)/\(cE n x).all SV.one=true :=
 ⟨⟨trivial,trivial,trivial,trivial,trivial,trivial,Gz n x,trivial⟩,by simp only [cE,CX,I1,JB];rfl⟩
def UJ (n:Nat):gA:=⟨Expr,cE n,.mk 0 0 0 []⟩
def vo (x:UF):List SV:=[.i .i64 (λ_=>x.kind),.str (λ_=>x.src),.i .i64 (λ_=>x.n)]
def Kb (n:Nat) (x:V8):List SV:=[.str (λ_=>x.name),.i .i64 (λ_=>x.w),.i .i64 (λ_=>x.init)]++cE n x.next++vo x.UH
def Kc (n:Nat) (x:Mem):List SV:=[.str (λ_=>x.name),.i .i64 (λ_=>x.w),.i .i64 (λ_=>x.words)]++cE n x.en++cE n x.ad++cE n x.da++vo x.UH
def JL (n:Nat) (x:Take):List SV:=[.i .i64 (λ_=>x.chan),.i .i64 (λ_=>x.w)]++cE n x.cond
def Kd (n:Nat) (x:V9):List SV:=[.i .i64 (λ_=>x.chan),.i .i64 (λ_=>x.w)]++cE n x.cond++cE n x.data
theorem amK (n:Nat) (x:V8):cI (Kb n x)/\(Kb n x).all SV.one=true:=by
 refine ⟨by simp [Kb,vo,cE,cI,LF,Gz],?_⟩
 simp only [Kb,vo,cE,CV,tY,CX,I1,JB];rfl
theorem amL (n:Nat) (x:Mem):cI (Kc n x)/\(Kc n x).all SV.one=true:=by
 refine ⟨by simp [Kc,vo,cE,cI,LF,Gz],?_⟩
 simp only [Kc,vo,cE,CV,tY,CX,I1,JB];rfl
theorem alx (n:Nat) (x:Take):cI (JL n x)/\(JL n x).all SV.one=true:=by
 refine ⟨by simp [JL,vo,cE,cI,LF,Gz],?_⟩
 simp only [JL,vo,cE,CV,tY,CX,I1,JB];rfl
theorem amM (n:Nat) (x:V9):cI (Kd n x)/\(Kd n x).all SV.one=true:=by
 refine ⟨by simp [Kd,vo,cE,cI,LF,Gz],?_⟩
 simp only [Kd,vo,cE,CV,tY,CX,I1,JB];rfl
def NL (n:Nat):gA:=⟨V8,Kb n,⟨es,0,0,.mk 0 0 0 [],⟨0,es,0⟩⟩⟩
def NM (n:Nat):gA:=⟨Mem,Kc n,⟨es,0,0,.mk 0 0 0 [],.mk 0 0 0 [],.mk 0 0 0 [],⟨0,es,0⟩⟩⟩
def Nn (n:Nat):gA:=⟨Take,JL n,⟨0,0,.mk 0 0 0 []⟩⟩
def NN (n:Nat):gA:=⟨V9,Kd n,⟨0,0,.mk 0 0 0 [],.mk 0 0 0 []⟩⟩
def el (n m:Nat):TypeId->Option gA
 | 3=>some xN
 | 5=>some adG
 | 4=>some abr
 | 74=>some acf
 | 35=>some Nl
 | 36=>some als
 | 133=>some SY
 | 118=>some SZ
 | 135=>some S1
 | 76=>some alu
 | 168=>some abt
 | 9=>some acg
 | 302=>some Zr
 | 307=>some amJ
 | 149=>some (UJ n)
 | 159=>some (NL m)
 | 163=>some (NM m)
 | 154=>some (Nn m)
 | 161=>some (NN m)
 | _=>none
theorem qi {η:Nat->Value} {q:Nat->Live} {H:bB} {x:SV} {r:List SV} {v:Value} {vs:List Value} (h:rel η q H x v) (h':aQ η q H r vs):aQ η q H (x :: r) (v :: vs):=by
 simp only [aQ];exact ⟨_,_,rfl,h,h'⟩
theorem Sz {η:Nat->Value} {q:Nat->Live} {H:bB}:aQ η q H [] []:=by simp [aQ]
theorem xA {η:Nat->Value} {q:Nat->Live} {H:bB} {T:Type} {sz:Nat} {c:T->List SV} (h:∀x,cI (c x)):rel η q H (.sl sz c (λ_=>[])) (N0):=by
 simp only [rel];exact ⟨⟨none,0,rfl,fq _,.inl (by simp)⟩,h⟩
theorem aks {H:bB} (n:Nat):rel (λ_=>.nilIface) (λ_=>.un) H (cA n (.mk 0 0 0 [])) (N0):=by
 cases n with
 | zero=>simp [cA,rel]
 | succ n=>exact xA λy=>(adH n y).1
theorem AL (H:bB) (n:Nat):dJ H (cE n (.mk 0 0 0 [])) [I0,S0,I0,S0,I0,S0,N0]:=by
 refine qi (by simp [rel,Expr.op]) (qi (by simp [rel,es]) (qi (by simp [rel,Expr.k]) (qi (by simp [rel,es]) (qi (by simp [rel,Expr.w]) (qi (by simp [rel,es]) (qi ?_ Sz))))))
 exact aks n
theorem ap1 (H:bB):dJ H (e8 []) [N0]:=qi (xA λy=>(df y).1) Sz
theorem anS (H:bB):dJ H (Dy []) [N0]:=qi (xA λy=>(nJ y).1) Sz
theorem ap2 (H:bB):dJ H (lN ⟨[],0,0⟩) [N0,I0,I0]:=qi (xA λy=>(df y).1) (by simp [aQ,rel])
theorem anT (H:bB):dJ H (NK ⟨[],0,0,0,0⟩) [N0,I0,I0,I0,U0]:=qi (xA λy=>(df y).1) (by simp [aQ,rel])
theorem ap3 (H:bB):dJ H (Oi ⟨[],0,0,0⟩) [N0,I0,I0,I0]:=qi (xA λy=>(Q2 y).1) (by simp [aQ,rel])
theorem XZ (H:bB):dJ H (vo ⟨0,es,0⟩) [I0,S0,I0]:=by simp [vo,aQ,rel,es]
theorem zE (H:bB) (n:Nat):dJ H ((UJ n).c (UJ n).z) [I0,S0,I0,S0,I0,S0,N0]:=AL H n
theorem arN (H:bB) (n:Nat):dJ H ((NL n).c (NL n).z) [S0,I0,I0,I0,S0,I0,S0,I0,S0,N0,I0,S0,I0] :=
 iP (iP (s:=[_,_,_]) (v:=[_,_,_]) (by simp [aQ,rel,NL,es]) (AL H n)) (XZ H)
theorem arO (H:bB) (n:Nat):dJ H ((NM n).c (NM n).z) [S0,I0,I0,I0,S0,I0,S0,I0,S0,N0,
  I0,S0,I0,S0,I0,S0,N0,I0,S0,I0,S0,I0,S0,N0,I0,S0,I0] :=
 iP (iP (iP (iP (s:=[_,_,_]) (v:=[_,_,_]) (by simp [aQ,rel,NM,es]) (AL H n)) (AL H n)) (AL H n)) (XZ H)
theorem ap4 (H:bB) (n:Nat):dJ H ((Nn n).c (Nn n).z) [I0,I0,I0,S0,I0,S0,I0,S0,N0] :=
 iP (s:=[_,_]) (v:=[_,_]) (by simp [aQ,rel,Nn]) (AL H n)
theorem arP (H:bB) (n:Nat):dJ H ((NN n).c (NN n).z) [I0,I0,I0,S0,I0,S0,I0,S0,N0,I0,S0,I0,S0,I0,S0,N0] :=
 iP (iP (s:=[_,_]) (v:=[_,_]) (by simp [aQ,rel,NN]) (AL H n)) (AL H n)
theorem JC {T:TypeId->Option TI} (hT:∀t i,tt t=some i->T t=some i) (n m:Nat) (X:Ctx) (h:X.tt=T) (t:TypeId) (E:gA) (he:el n m t=some E):Bh Tryz.prog X t E:=by
 have h1:∀{t i j},tt t=some j->X.tt t=some i->i=j:=λh2 h3=>by rw [h,hT _ _ h2] at h3;cases h3;rfl
 unfold el at he
 split at he
 all_goals cases he
 all_goals
  refine ⟨⟨_,by rw [h];exact hT _ _ rfl⟩,λi hi x=>?_,?_,λi hi H=>?_⟩
  ·cases h1 rfl hi;first|rfl|(cases n<;>rfl)|(cases m<;>rfl)
  ·first|exact df|exact y7|exact pA|exact amH|exact nJ|exact Zq|exact ve|exact tZ|exact wx|exact akr|exact alv|exact amI|exact Q2|exact alw|exact adH n|exact amK m|exact amL m|exact alx m|exact amM m
  ·cases h1 rfl hi;first|exact ap1 H|exact anS H|exact ap2 H|exact anT H|exact ap3 H|exact zE H n|exact arN H m|exact arO H m|exact ap4 H m|exact arP H m|(simp [xN,bP,adG,nA,abr,fB,acf,OV,SY,jq,SZ,kC,abt,Oh,acg,OW,Zr,Ju,aQ,rel,Value.cells])
theorem ap5 (n m:Nat) (X:Ctx) (h:X.tt=tt) (t:TypeId) (E:gA) (he:el n m t=some E):Bh Tryz.prog X t E:=JC (λ_ _ h=>h) n m X h t E he
theorem mixed:Tryz.prog.follows .mixedOrders=true:=by kernel_rfl
@[reducible] def ie (n m:Nat) (fs:List (Nat × Func)) (sp:List (Nat × Vc.Spec)) (io lp cut row emp:List Nat:=[]):Ctx:=HC tt (el n m) fs sp io lp cut row emp
theorem ik (n m:Nat) {fs:List (Nat × Func)} {sp:List (Nat × Vc.Spec)} {io lp cut row emp:List Nat} (hf:tp (λf fn=>lz (PP ()) f fn/\mZ fn=true) fs) (hs:tp (λf S=>cR (PP ()) f S) sp):CB PP (ie n m fs sp io lp cut row emp):=JK adF (ap5 n m) mixed hf hs
def tf:TypeId->Option TI
 | 180=>some (ti .other 1 8 .nilFunc)
 | 183=>some (ti .other 1 8 .nilFunc)
 | 187=>some (ti .other 1 8 .nilFunc)
 | 194=>some (ti .other 1 8 .nilFunc)
 | 195=>some (ti .other 1 8 .nilFunc)
 | 200=>some (ti .other 1 8 .nilFunc)
 | 268=>some (ti .other 1 8 .nilFunc)
 | 293=>some (ti (.ptr 298) 1 8 (.pointer none))
 | 299=>some (ti .other 1 8 .nilFunc)
 | 303=>some (ti .other 1 8 .nilFunc)
 | 305=>some (ti .other 1 8 .nilFunc)
 | 310=>some (ti .other 1 8 .nilFunc)
 | 313=>some (ti .other 1 8 .nilFunc)
 | 319=>some (ti (.ptr 199) 1 8 (.pointer none))
 | 360=>some (ti .other 1 8 .nilFunc)
 | 406=>some (ti .other 1 8 .nilFunc)
 | 414=>some (ti .other 1 8 .nilFunc)
 | _=>none
theorem ap6:∀t i,tf t=some i->ly Tryz.prog t i:=by
 intro t i h
 unfold tf at h
 split at h
 all_goals cases h
 all_goals exact K0 rfl rfl (by kernel_rfl) (by kernel_rfl)
def t2 (t:TypeId):Option TI:=match tt t with
 | some i=>some i
 | none=>tf t
theorem adI:∀t i,t2 t=some i->ly Tryz.prog t i:=by
 intro t i h
 unfold t2 at h
 split at h
 ·rename_i j hj
  cases h
  exact adF t _ hj
 ·exact ap6 t i h
theorem anU (n m:Nat) (X:Ctx) (h:X.tt=t2) (t:TypeId) (E:gA) (he:el n m t=some E):Bh Tryz.prog X t E:=JC (λt i h=>by unfold t2;rw [h]) n m X h t E he
@[reducible] def gn (n m:Nat) (fs:List (Nat × Func)) (sp:List (Nat × Vc.Spec)) (io lp cut row emp:List Nat:=[]):Ctx:=HC t2 (el n m) fs sp io lp cut row emp
theorem gx (n m:Nat) {fs:List (Nat × Func)} {sp:List (Nat × Vc.Spec)} {io lp cut row emp:List Nat} (hf:tp (λf fn=>lz (PP ()) f fn/\mZ fn=true) fs) (hs:tp (λf S=>cR (PP ()) f S) sp):CB PP (gn n m fs sp io lp cut row emp):=JK adI (anU n m) mixed hf hs
def tm:TypeId->Option TI
 | 320=>some (ti (.ptr 324) 1 8 (.pointer none))
 | 324=>some (ti (.st [(48,0,4),(35,4,1),(113,5,1),(36,6,1)]) 7 168 (.agg #[N0,N0,N0,N0,N0,N0,N0]))
 | 383=>some (ti (.arr 4 3) 4 32 (.agg #[I0,I0,I0,I0]))
 | 203=>some (ti (.arr 5 5) 5 5 (.agg #[Y0,Y0,Y0,Y0,Y0]))
 | 204=>some (ti (.arr 4 5) 4 4 (.agg #[Y0,Y0,Y0,Y0]))
 | 82=>some (tS 203)
 | 83=>some (tS 204)
 | 85=>some (ti (.st [(22,0,1),(82,1,1),(83,2,1)]) 3 72 (.agg #[N0,N0,N0]))
 | _=>none
theorem ap7:∀t i,tm t=some i->ly Tryz.prog t i:=by
 intro t i h
 unfold tm at h
 split at h
 all_goals cases h
 all_goals exact K0 rfl rfl (by kernel_rfl) (by kernel_rfl)
def t3 (t:TypeId):Option TI:=match t2 t with
 | some i=>some i
 | none=>tm t
theorem TV:∀t i,t3 t=some i->ly Tryz.prog t i:=by
 intro t i h
 unfold t3 at h
 split at h
 ·rename_i j hj
  cases h
  exact adI t _ hj
 ·exact ap7 t i h
structure B5 where
 a:Int
 b:Int
 c:Int
 d:Int
 e:Int
structure B4 where
 a:Int
 b:Int
 c:Int
 d:Int
def yq (x:B5):List SV:=[.i .u8 λ_=>x.a,.i .u8 λ_=>x.b,.i .u8 λ_=>x.c,.i .u8 λ_=>x.d,.i .u8 λ_=>x.e]
def yu (x:B4):List SV:=[.i .u8 λ_=>x.a,.i .u8 λ_=>x.b,.i .u8 λ_=>x.c,.i .u8 λ_=>x.d]
theorem NO (x:B5):cI (yq x)/\(yq x).all SV.one=true:=⟨⟨trivial,trivial,trivial,trivial,trivial,trivial⟩,rfl⟩
theorem NP (x:B4):cI (yu x)/\(yu x).all SV.one=true:=⟨⟨trivial,trivial,trivial,trivial,trivial⟩,rfl⟩
def adJ:gA:=⟨B5,yq,⟨0,0,0,0,0⟩⟩
def adK:gA:=⟨B4,yu,⟨0,0,0,0⟩⟩
def Wa (n m:Nat):TypeId->Option gA
 | 203=>some adJ
 | 204=>some adK
 | t=>el n m t
theorem anV (n m:Nat) (X:Ctx) (h:X.tt=t3) (t:TypeId) (E:gA) (he:Wa n m t=some E):Bh Tryz.prog X t E:=by
 unfold Wa at he
 split at he
 ·cases he
  exact ⟨⟨_,by rw [h];rfl⟩,λi hi x=>by rw [h] at hi;cases hi;rfl,NO,λi hi H=>by rw [h] at hi;cases hi;simp [adJ,yq,aQ,rel,Value.cells]⟩
 ·cases he
  exact ⟨⟨_,by rw [h];rfl⟩,λi hi x=>by rw [h] at hi;cases hi;rfl,NP,λi hi H=>by rw [h] at hi;cases hi;simp [adK,yu,aQ,rel,Value.cells]⟩
 ·exact JC (λt i h=>by unfold t3 t2;rw [h]) n m X h t E he
@[reducible] def dH (n m:Nat) (fs:List (Nat × Func)) (sp:List (Nat × Vc.Spec)) (io lp cut row emp:List Nat:=[]):Ctx:=HC t3 (Wa n m) fs sp io lp cut row emp
theorem dK (n m:Nat) {fs:List (Nat × Func)} {sp:List (Nat × Vc.Spec)} {io lp cut row emp:List Nat} (hf:tp (λf fn=>lz (PP ()) f fn/\mZ fn=true) fs) (hs:tp (λf S=>cR (PP ()) f S) sp):CB PP (dH n m fs sp io lp cut row emp):=JK TV (anV n m) mixed hf hs
theorem dC {i:Nat} (h:i < 4611686018427387904):IntKind.i64.wrap ((i:Int)+1)=((i+1:Nat):Int):=by rw [dt (by omega) (by omega)];rfl
theorem n0 (i:Nat):(0:Int)<=(i:Int):=IS _
theorem bO {α:Type} {l:List α} {i:Nat} (h:i < l.length):∃x,l[i]?=some x:=⟨_,eI h⟩
def jr (n:Net):List SV:=[.sl 3 jq (λ_=>n.ins),.sl 5 kC (λ_=>n.aT),.sl 3 jq (λ_=>n.outs),.sl 1 bP (λ_=>n.bj)]
theorem mu (n:Net):cI (jr n):=⟨λx=>(ve x).1,λx=>(tZ x).1,λx=>(ve x).1,λx=>(df x).1,trivial⟩
theorem Q3 {N:Int}:∀{last:Int} {R:List Int},dM R->(∀r∈R,last < r/\r < N)->oT N last R=true
 | _,[],_,_=>rfl
 | last,r :: rs,h,k=>by
  have h':=fH.1 h
  simp only [oT,cQ,decide_eq_true_eq]
  exact ⟨k r (by simp),Q3 h'.2 λx hx=>⟨h'.1 x hx,(k x (by simp [hx])).2⟩⟩
theorem Q4 {sig:Int->Option Int}:∀{D:List Int},(∀d∈D,∃s,sig d=some s)->ql sig D (D.map λv=>(sig v).getD 0)=true
 | [],_=>rfl
 | d :: r,h=>by
  obtain ⟨s,hs⟩:=h d (by simp)
  simp only [iE,ql,cQ,decide_eq_true_eq]
  exact ⟨by rw [hs];rfl,Q4 λx hx=>h x (by simp [hx])⟩
theorem ajr (x:Cell):Gj x x=true:=by simp [Gj]
theorem Q5 {I:Nat} {gs:List Gate} {sig:Int->Option Int} {f:Int->List Int}:∀{R:List Int},(∀r∈R,(cellOf I gs r (f r) sig).2=0)->ow I gs sig (R.map λr=>(cellOf I gs r (f r) sig).1) R (R.map f)=true
 | [],_=>rfl
 | r :: rs,h=>by
  simp only [iE,ow,cQ,decide_eq_true_eq]
  exact ⟨⟨h r (by simp),ajr _⟩,Q5 λx hx=>h x (by simp [hx])⟩
theorem I9 {I:Nat} {R:List Int} {v:Int} (h:(0<=v/\v < 2+I)\/v∈R):∃s,eP I R v=some s:=by
 unfold eP
 split
 ·exact ⟨_,rfl⟩
 ·rename_i hn
  rcases h with h|h
  ·exact absurd h hn
  ·cases hq:R.findIdx? (λx=>decide (x=v)) with
   | some i=>exact ⟨_,rfl⟩
   | none =>
    rw [AM] at hq
    have:=hq v h
    simp at this
theorem akt {I:Nat} {gs:List Gate} (G:ca I gs) {i:Nat} {g:Gate} (hg:gs[i]?=some g) (h7:g.op≠7) {l:List Int} (a1:dM l) (a2:l.length<=4) (a3:∀x∈l,2<=x/\x < 2+(I:Int)+i)
  (a4:nh I gs (cC g) (·∈l)) (a5:∀S:List Int,S.length<=4->nh I gs (cC g) (·∈S)->dT S l=true->dT l S=true):(eC I gs (2+(I:Int)+i) l).isSome=true:=by
 rw [CS G]
 have hr:(2+(I:Int)+i).toNat=2+I+i:=by omega
 have hi:=(bt.1 hg).1
 refine ⟨⟨by omega,by omega,a2,λx hx=>by have:=a3 x hx;omega,a1⟩,.gate hg h7 a4,?_⟩
 rw [hr]
 classical
 have hS:∀x∈l.filter (λx=>decide (gM I gs l (2+I+i) x.toNat)),x∈l:=λx hx=>(mW.1 hx).1
 have main:∀v:Int,iT I gs (·∈l) v->0<=v->gM I gs l (2+I+i) v.toNat->iT I gs (·∈l.filter λx=>decide (gM I gs l (2+I+i) x.toNat)) v:=by
  intro v h
  induction h with
  | mem h1=>exact λ_ hr=>.mem (mW.2 ⟨h1,by simpa using hr⟩)
  | const h1 h2=>exact λ_ _=>.const h1 h2
  | @gate j g' h1 h2 h3 ih =>
   intro _ hr
   by_cases hm:2+(I:Int)+j∈l
   ·exact .mem (mW.2 ⟨hm,by simpa using hr⟩)
   ·refine .gate h1 h2 λo ho=>ih o ho (G.ops h1 o ho).1 ?_
    refine .step hr (qk.2 ⟨?_,g',lL.2 ⟨j,by omega,h1⟩,h2,ho⟩)
    rw [show (((2+(I:Int)+j).toNat:Nat):Int)=2+(I:Int)+j by omega]
    exact hm
 have J0:=a5 _ (oR (FD _ _) a2) (λo ho=>main o (a4 o ho) (G.ops hg o ho).1 (.step (.base rfl) (qk.2 ⟨λhm=>by have:=a3 _ hm;omega,g,lL.2 ⟨i,rfl,hg⟩,h7,ho⟩))) (qh.2 hS)
 intro x hx
 have:=(mW.1 (qh.1 J0 x hx)).2
 simpa using this
theorem abu {I:Nat} {gs:List Gate} {s:eT} (h:oy I gs s) {r:Int} (h1:2+(I:Int)<=r) (h2:r < 2+I+gs.length) :
  ∃(i:Nat) (g:Gate),r=2+(I:Int)+i/\gs[i]?=some g/\s.leaves[2+I+i]?=some (na s r):=by
 have hi:r.toNat - 2 - I < gs.length:=by omega
 refine ⟨r.toNat - 2 - I,_,by omega,eI hi,?_⟩
 unfold na
 rw [show 2+I+(r.toNat - 2 - I)=r.toNat by omega,List.getD_eq_getElem?_getD,eI (by rw [h.q9];omega)]
 rfl
theorem aly {I:Nat} {gs:List Gate} (G:ca I gs) {s:eT} (h:oy I gs s) {sig:Int->Option Int} {r:Int} (h1:2+(I:Int)<=r) (h2:r < 2+I+gs.length) (arQ:∀x∈na s r,∃y,sig x=some y) :
  (cellOf I gs r (na s r) sig).2=0:=by
 obtain ⟨i,g,rfl,hg,hl⟩:=abu h h1 h2
 have hr:(2+(I:Int)+i).toNat=2+I+i:=by omega
 have rq:fI I gs (2+(I:Int)+i).toNat=some g:=by rw [hr];exact lL.2 ⟨i,rfl,hg⟩
 have k:=h.lf i _ g hl hg
 unfold cellOf
 rw [IF arQ]
 simp only [if_true,rq]
 split
 ·rename_i h7
  rw [if_pos h7] at k
  simp only
  rw [if_pos k]
 ·rename_i h7
  rw [if_neg h7] at k
  obtain ⟨a1,a2,a3,a4,a5,_⟩:=k
  split
  ·rename_i e
   have:=a3 (2+(I:Int)+i) (by rw [e];simp)
   omega
  ·have hc:=akt G hg h7 a1 a2 a3 a4 a5
   unfold nU
   cases hq:eC I gs (2+(I:Int)+i) (na s (2+(I:Int)+i)) with
   | none=>rw [hq] at hc;cases hc
   | some l=>rfl
theorem amN {I:Nat} {gs:List Gate} (G:ca I gs) {s:eT} (h:oy I gs s) {r:Int} (h1:2+(I:Int)<=r) (h2:r < 2+I+gs.length):∀x∈na s r,0<=x/\x < r:=by
 obtain ⟨i,g,rfl,hg,hl⟩:=abu h h1 h2
 have k:=h.lf i _ g hl hg
 intro x hx
 split at k
 ·rw [k] at hx;have:=G.ops hg x hx;omega
 ·have:=k.2.2.1 x hx;omega
theorem ach {I:Nat} {gs:List Gate} (G:ca I gs) {s:eT} (h:oy I gs s) {bj:List Int} (hd:∀d∈bj,0<=d/\d < 2+I+gs.length) :
  mA I gs bj (ox I gs s bj).1 (ox I gs s bj).2=true:=by
 obtain ⟨r1,r2,r3,r4,r5⟩:=Yh G h hd
 unfold mA ox
 simp only [cQ,decide_eq_true_eq,iR]
 refine ⟨⟨⟨⟨trivial,trivial⟩,trivial⟩,trivial⟩,Q3 r1 λr hr=>by have:=r2 r hr;omega,Q5 λr hr=>?_,Q4 λd lZ=>?_⟩
 ·have hb:=r2 r hr
  refine aly G h hb.1 hb.2 λx hx=>I9 ?_
  have:=amN G h hb.1 hb.2 x hx
  by_cases iK:x < 2+(I:Int)
  ·exact .inl ⟨this.1,iK⟩
  ·exact .inr (r4 r hr x hx (by omega))
 ·refine I9 ?_
  have:=hd d lZ
  by_cases iK:d < 2+(I:Int)
  ·exact .inl ⟨this.1,iK⟩
  ·exact .inr (r3 d lZ (by omega))

theorem F5 {I:Nat} {R:List Int} (hR:dM R) (fb:∀r∈R,2+(I:Int)<=r) {v s:Int}:eP I R v=some s↔(0<=v/\v < 2+I/\s=v)\/∃i:Nat,R[i]?=some v/\s=2+I+i:=by
 unfold eP
 split
 ·rename_i h
  constructor
  ·intro e;simp at e;exact .inl ⟨h.1,h.2,e.symm⟩
  ·rintro (⟨_,_,e⟩|⟨i,hi,e⟩)
   ·rw [e]
   ·have:=fb v (cB hi);omega
 ·rename_i h
  constructor
  ·intro e
   rw [II] at e
   obtain ⟨i,hi,rfl⟩:=e
   rw [FW] at hi
   obtain ⟨hl,hi,_⟩:=hi
   simp at hi
   exact .inr ⟨i,by rw [eI hl,hi],rfl⟩
  ·rintro (⟨h1,h2,_⟩|⟨i,hi,rfl⟩)
   ·exact absurd ⟨h1,h2⟩ h
   ·rw [II]
    refine ⟨i,?_,rfl⟩
    obtain ⟨hl,hi⟩:=bt.1 hi
    rw [FW]
    refine ⟨hl,by simpa using hi,λj hj=>?_⟩
    have:=(rG.1 hR) j i (by omega) hl hj
    simp;omega
theorem Yi {N:Int}:∀{last:Int} {R:List Int},oT N last R=true->dM R/\∀r∈R,last < r/\r < N
 | _,[],_=>⟨.nil,by simp⟩
 | last,r :: rs,h=>by
  simp only [oT,cQ,decide_eq_true_eq] at h
  obtain ⟨h1,h2⟩:=h
  obtain ⟨h3,h4⟩:=Yi h2
  refine ⟨fH.2 ⟨λx hx=>(h4 x hx).1,h3⟩,λx hx=>?_⟩
  rcases cV.1 hx with rfl|hx
  ·exact h1
  ·have:=h4 x hx;omega
theorem YI {sig:Int->Option Int}:∀{D E:List Int},E.length=D.length->ql sig D E=true->E=D.map λv=>(sig v).getD 0
 | [],[],_,_=>rfl
 | [],_ :: _,h,_=>by simp at h
 | _ :: _,[],h,_=>by simp at h
 | d :: D,e :: E,h,k=>by
  simp only [ql,cQ,decide_eq_true_eq] at k
  rw [iE,k.1,<-YI (by simpa using h) k.2]
  rfl
theorem X0 {sig:Int->Option Int}:∀{D E:List Int},E.length=D.length->ql sig D E=true->∀d∈D,∃s,sig d=some s
 | [],_,_,_=>by simp
 | _ :: _,[],h,_=>by simp at h
 | d :: D,e :: E,h,k=>by
  simp only [ql,cQ,decide_eq_true_eq] at k
  intro x hx
  rcases cV.1 hx with rfl|hx
  ·exact ⟨e,k.1⟩
  ·exact X0 (by simpa using h) k.2 x hx
theorem ajO {x y:Cell}:Gj x y=true↔x=y:=by
 unfold Gj
 cases x;cases y
 simp only [cQ,decide_eq_true_eq,Cell.mk.injEq]
 constructor
 ·rintro ⟨⟨a,b⟩,c⟩;exact ⟨c,a,b⟩
 ·rintro ⟨a,b,c⟩;exact ⟨⟨b,c⟩,a⟩
theorem Yj {I:Nat} {gs:List Gate} {sig:Int->Option Int}:∀{C:List Cell} {R:List Int} {L:List (List Int)},ow I gs sig C R L=true->∀(j:Nat) (x:Cell) (r:Int) (l:List Int),C[j]?=some x->R[j]?=some r->L[j]?=some l ->
  (cellOf I gs r l sig).2=0/\x=(cellOf I gs r l sig).1
 | x :: C,r :: R,l :: L,h,j,x',r',l',hx,hr,hl=>by
  simp only [ow,cQ,decide_eq_true_eq] at h
  cases j with
  | zero =>
   simp at hx hr hl
   subst hx;subst hr;subst hl
   exact ⟨h.1.1,ajO.1 h.1.2⟩
  | succ j=>exact Yj h.2 j x' r' l' (by simpa using hx) (by simpa using hr) (by simpa using hl)
 | [],_,_,_,j,x',r',l',hx,_,_=>by simp at hx
 | _ :: _,[],_,_,j,x',r',l',_,hr,_=>by simp at hr
 | _ :: _,_ :: _,[],_,j,x',r',l',_,_,hl=>by simp at hl
theorem ajP {I:Nat} {gs:List Gate} {r:Int} {l:List Int} {sig:Int->Option Int} (h:(cellOf I gs r l sig).2=0):(oW sig l).2=true/\(cellOf I gs r l sig).1.ins=l.map λx=>(sig x).getD 0:=by
 unfold cellOf at h ⊢
 split
 ·rename_i ha
  refine ⟨ha,?_⟩
  have:=IF (QQ ha)
  cases fI I gs r.toNat with
  | none=>simp only;rw [this]
  | some g =>
   simp only
   split
   ·rw [this]
   ·split
    ·rw [this]
    ·rw [this]
 ·rename_i ha
  rw [if_neg ha] at h
  simp at h
structure Bd (I:Nat) (gs:List Gate) (bj:List Int) (m:ej) (c:k9):Prop where
 n:m.n=I
 rl:c.root.length=m.cells.length
 ll:c.leaves.length=m.cells.length
 dl:m.bj.length=bj.length
 inc:dM c.root
 lim:∀r∈c.root,2+(I:Int)<=r/\r < 2+I+gs.length
 cell:∀(j:Nat) (x:Cell) (r:Int) (l:List Int),m.cells[j]?=some x->c.root[j]?=some r->c.leaves[j]?=some l->(cellOf I gs r l (eP I c.root)).2=0/\x=(cellOf I gs r l (eP I c.root)).1
 EJ:m.bj=bj.map λv=>(eP I c.root v).getD 0
 OX:∀d∈bj,∃s,eP I c.root d=some s
theorem C2 {I:Nat} {gs:List Gate} {bj:List Int} {m:ej} {c:k9} (h:mA I gs bj m c=true):Bd I gs bj m c:=by
 unfold mA at h
 simp only [cQ,decide_eq_true_eq] at h
 obtain ⟨⟨⟨⟨h1,h2⟩,h3⟩,h4⟩,h5,h6,h7⟩:=h
 obtain ⟨h8,h9⟩:=Yi h5
 exact ⟨h1,h2,h3,h4,h8,λr hr=>by have:=h9 r hr;omega,Yj h6,YI h4 h7,X0 h4 h7⟩
def y8 (n:Net):Int:=2+n.ins.length+n.aT.length
@[reducible] noncomputable def aeM:Vc.Spec where
 α:=Net
 args n:=[.agg (jr n)]
 pre n:=n.ins.length<=1000/\n.aT.length<=1000
 res n:=.i .i64 (λ_=>y8 n)
noncomputable def cM0 (n m:Nat):Ctx:=dH n m [] []
theorem rP (n m:Nat):CB PP (cM0 n m):=dK n m trivial trivial
theorem anW:cR (PP ()) 261 aeM:=by
 refine et (rP 0 0) (fo Tryz.func261) (λn=>⟨mu n,trivial⟩) (λn=>trivial) ?_
 rintro ⟨ins,gs,outs,dr⟩ ⟨h1,h2⟩
 have h1:ins.length<=1000:=h1
 have h2:gs.length<=1000:=h2
 have hw:IntKind.i64.wrap (2+(ins.length:Int))=2+ins.length:=dt (by omega) (by omega)
 have hv:IntKind.i64.wrap (IntKind.i64.wrap (2+(ins.length:Int))+gs.length)=y8 ⟨ins,gs,outs,dr⟩:=by rw [hw,dt (by omega) (by omega)];rfl
 refine ⟨?_⟩
 cbv
 exact ⟨by have bH:=hv;exact bX⟩
def sR (n:Net) (v:Int):Gate × Bool:=match fI n.ins.length n.aT v.toNat with
 | some g=>if g.op=7 then (⟨0,0,0,0,0⟩,false) else (g,true)
 | none=>(⟨0,0,0,0,0⟩,false)
structure ap8 where
 n:Net
 v:Int
 g:Gate
 b:Bool
@[reducible] noncomputable def UK:Vc.Spec where
 α:=ap8
 args x:=[.agg (jr x.n),.i .i64 (λ_=>x.v)]
 pre x:=x.n.ins.length<=1000/\x.n.aT.length<=1000/\0<=x.v/\x.v < y8 x.n/\sR x.n x.v=(x.g,x.b)
 res x:=.cS [.agg (kC x.g),.b (λ_=>x.b)]
theorem aci:cR (PP ()) 243 UK:=by
 refine et (rP 0 0) (fo Tryz.func243) (λx=>⟨mu x.n,trivial,trivial⟩) (λx=>⟨(tZ _).1,trivial,trivial⟩) ?_
 rintro ⟨⟨ins,gs,outs,dr⟩,v,⟨o,a,b,c,d⟩,B⟩ ⟨h1,h2,h3,h4,h5⟩
 have h1:ins.length<=1000:=h1
 have h2:gs.length<=1000:=h2
 have h3:0<=v:=h3
 have h4:v < 2+(ins.length:Int)+gs.length:=h4
 have hw:IntKind.i64.wrap (IntKind.i64.wrap (v - 2) - ins.length)=v - 2 - ins.length:=by rw [dt (n:=v - 2) (by omega) (by omega),dt (by omega) (by omega)]
 have dg:v < 2+(ins.length:Int)->(⟨o,a,b,c,d⟩:Gate)=⟨0,0,0,0,0⟩/\B=false:=λh=>by
  have h5:sR ⟨ins,gs,outs,dr⟩ v=(⟨o,a,b,c,d⟩,B):=h5
  unfold sR fI at h5;rw [if_pos (by show v.toNat < 2+ins.length;omega)] at h5;cases h5;exact ⟨rfl,rfl⟩
 have cG:∀g,2+(ins.length:Int)<=v->gs[(IntKind.i64.wrap (IntKind.i64.wrap (v - 2) - ins.length)).toNat]?=some g->(if g.op=7 then ((⟨0,0,0,0,0⟩,false):Gate × Bool) else (g,true))=(⟨o,a,b,c,d⟩,B):=λg h hg=>by
  have h5:sR ⟨ins,gs,outs,dr⟩ v=(⟨o,a,b,c,d⟩,B):=h5
  unfold sR fI at h5
  rw [if_neg (by show ¬v.toNat < 2+ins.length;omega)] at h5
  rw [hw,show (v - 2 - (ins.length:Int)).toNat=v.toNat - 2 - ins.length by omega] at hg
  simp only [hg] at h5
  exact h5
 clear h5
 have fY:0<=IntKind.i64.wrap (IntKind.i64.wrap (v - 2) - ins.length)->2+(ins.length:Int)<=v/\(IntKind.i64.wrap (IntKind.i64.wrap (v - 2) - ins.length)).toNat < gs.length:=λh=>by rw [hw] at h ⊢;omega
 refine ⟨?_⟩
 cbv
 refine ⟨λh=>?_,λh=>?_⟩
 ·have aP:IntKind.i64.wrap (IntKind.i64.wrap (v - 2) - ins.length) < 0:=aH
  rw [hw] at aP
  obtain ⟨e,rfl⟩:=dg (by omega)
  cases e
  cbv
  exact ⟨by exact bp⟩
 ·have aP:0<=IntKind.i64.wrap (IntKind.i64.wrap (v - 2) - ins.length):=aH
  refine (bO (fY aP).2).elim λg hg=>?_
  have jt:=cG g (fY aP).1 hg
  cbv
  refine ⟨g,⟨aP,hg⟩,?_⟩
  cbv
  refine ⟨λh=>?_,λh=>?_⟩
  ·have h7:g.op=7:=aH
   rw [if_pos h7] at jt
   cases jt
   cbv
   exact ⟨by exact bp⟩
  ·have h7:¬g.op=7:=aH
   rw [if_neg h7] at jt
   cases jt
   cbv
   refine ⟨_,⟨aP,hg⟩,?_⟩
   cbv
   exact ⟨by exact bp⟩
structure arR where
 g:Gate
 l:List Int
@[reducible] noncomputable def aeN:Vc.Spec where
 α:=arR
 args x:=[.agg (kC x.g)]
 pre x:=cC x.g=x.l
 res x:=.sl 1 bP (λ_=>x.l)
theorem amO {o a b c d:Int}:(o=1->cC ⟨o,a,b,c,d⟩=[a])/\(¬o=1->o=2\/o=3\/o=4->cC ⟨o,a,b,c,d⟩=[a,b])/\(¬o=1->¬o=2->¬o=3->¬o=4->cC ⟨o,a,b,c,d⟩=[a,b,c]):=by
 refine ⟨λh=>?_,λh k=>?_,λh k1 k2 k3=>?_⟩<;>simp [cC,jz, *]
theorem anX:cR (PP ()) 264 aeN:=by
 refine et (rP 0 0) (fo Tryz.func264) (λx=>⟨(tZ _).1,trivial⟩) (λx=>(λy=>(df y).1)) ?_
 rintro ⟨⟨o,a,b,c,d⟩,l⟩ hx
 have hx:cC ⟨o,a,b,c,d⟩=l:=hx
 obtain ⟨q1,q2,q3⟩:=amO (o:=o) (a:=a) (b:=b) (c:=c) (d:=d)
 rw [hx] at q1 q2 q3
 clear hx
 refine ⟨?_⟩
 cbv
 refine ⟨λh=>?_,λh=>?_⟩
 ·have h1:o=1:=aH
  have e:=q1 h1
  subst e
  cbv
  exact ⟨by exact bp⟩
 have h1:¬o=1:=aH
 clear h q1
 cbv
 refine ⟨λh=>?_,λh=>?_⟩
 ·have h2:o=2:=aH
  have e:=q2 h1 (.inl h2)
  subst e
  cbv
  exact ⟨by exact bp⟩
 have h2:¬o=2:=aH
 clear h
 cbv
 refine ⟨λh=>?_,λh=>?_⟩
 ·have h2:o=3:=aH
  have e:=q2 h1 (.inr (.inl h2))
  subst e
  cbv
  exact ⟨by exact bp⟩
 have h3:¬o=3:=aH
 clear h
 cbv
 refine ⟨λh=>?_,λh=>?_⟩
 ·have h2:o=4:=aH
  have e:=q2 h1 (.inr (.inr h2))
  subst e
  cbv
  exact ⟨by exact bp⟩
 have h4:¬o=4:=aH
 have e:=q3 h1 h2 h3 h4
 subst e
 cbv
 exact ⟨by exact bp⟩
@[reducible] noncomputable def aeO:Vc.Spec where
 α:=Int
 args x:=[.i .i64 (λ_=>x)]
 pre x:=True
 res x:=.i .i64 (λ_=>((jz x:Nat):Int))
theorem anY:cR (PP ()) 240 aeO:=by
 refine et (rP 0 0) (fo Tryz.func240) (λx=>⟨trivial,trivial⟩) (λx=>trivial) ?_
 intro o _
 have q1:o=1->(1:Int)=((jz o:Nat):Int):=λh=>by simp [jz,h]
 have q2:¬o=1->o=2\/o=3\/o=4->(2:Int)=((jz o:Nat):Int):=λh k=>by simp [jz,h,k]
 have q3:¬o=1->¬o=2->¬o=3->¬o=4->(3:Int)=((jz o:Nat):Int):=λh k1 k2 k3=>by simp [jz, *]
 refine ⟨?_⟩
 cbv
 refine ⟨λh=>?_,λh=>?_⟩
 ·have h1:o=1:=aH
  have e:=q1 h1
  exact ⟨by exact bp⟩
 have h1:¬o=1:=aH
 clear h q1
 cbv
 refine ⟨λh=>?_,λh=>?_⟩
 ·have h2:o=2:=aH
  have e:=q2 h1 (.inl h2)
  cbv
  exact ⟨by exact bp⟩
 have h2:¬o=2:=aH
 clear h
 cbv
 refine ⟨λh=>?_,λh=>?_⟩
 ·have h2:o=3:=aH
  have e:=q2 h1 (.inr (.inl h2))
  cbv
  exact ⟨by exact bp⟩
 have h3:¬o=3:=aH
 clear h
 cbv
 refine ⟨λh=>?_,λh=>?_⟩
 ·have h2:o=4:=aH
  have e:=q2 h1 (.inr (.inr h2))
  cbv
  exact ⟨by exact bp⟩
 have h4:¬o=4:=aH
 have e:=q3 h1 h2 h3 h4
 cbv
 exact ⟨by exact bp⟩
theorem aku (o:Int):jz o<=3:=by
 unfold jz
 split
 ·omega
 ·split<;>omega
@[reducible] noncomputable def OY:Vc.Spec where
 α:=Gate
 args g:=[.agg (kC g)]
 pre g:=True
 res g:=.sl 1 bP (λ_=>cC g)
noncomputable def cM1 (n m:Nat):Ctx:=dH n m [] [(240,aeO)]
theorem ap9 (n m:Nat):CB PP (cM1 n m):=dK n m trivial ⟨anY,trivial⟩
theorem Tl:cR (PP ()) 186 OY:=by
 refine et (ap9 0 0) (fo Tryz.func186) (λx=>⟨(tZ _).1,trivial⟩) (λx=>(λy=>(df y).1)) ?_
 rintro ⟨o,a,b,c,d⟩ _
 have hk:=aku o
 have hn:(0:Int)<=0/\(0:Int)<=((jz o:Nat):Int)/\((jz o:Nat):Int)<=3:=by omega
 have hl:(([a,b,c]:List Int).take (((jz o:Nat):Int)).toNat).drop (0:Int).toNat=cC ⟨o,a,b,c,d⟩:=by rw [jQ];rfl
 refine ⟨?_⟩
 cbv
 refine ⟨o,⟨by exact bp,trivial⟩,?_⟩
 cbv
 refine ⟨[a,b,c],⟨⟨rfl,by exact cj,hn⟩,?_⟩⟩
 cbv
 exact ⟨by have gS:=hl;exact bX⟩
theorem lt4 {j:Nat} (h:j < 4):j=0\/j=1\/j=2\/j=3:=by omega
@[reducible] noncomputable def aeP:Vc.Spec where
 α:=Nat
 args j:=[.i .i64 (λ_=>(j:Int))]
 pre j:=j < 4
 res j:=.i .i64 (λ_=>wA j)
theorem anZ:cR (PP ()) 242 aeP:=by
 refine et (rP 0 0) (fo Tryz.func242) (λx=>⟨trivial,trivial⟩) (λx=>trivial) ?_
 intro j hj
 have hj:(j:Nat) < 4:=hj
 rcases lt4 hj with rfl|rfl|rfl|rfl
 ·have e:(43690:Int)=wA 0:=rfl
  refine ⟨?_⟩
  cbv
  refine ⟨0,⟨rfl,by decide,rfl⟩,?_⟩
  cbv
  exact ⟨by exact bp⟩
 ·have e:(52428:Int)=wA 1:=rfl
  refine ⟨?_⟩
  cbv
  refine ⟨1,⟨rfl,by decide,rfl⟩,?_⟩
  cbv
  exact ⟨by exact bp⟩
 ·have e:(61680:Int)=wA 2:=rfl
  refine ⟨?_⟩
  cbv
  refine ⟨2,⟨rfl,by decide,rfl⟩,?_⟩
  cbv
  exact ⟨by exact bp⟩
 ·have e:(65280:Int)=wA 3:=rfl
  refine ⟨?_⟩
  cbv
  refine ⟨3,⟨rfl,by decide,rfl⟩,?_⟩
  cbv
  exact ⟨by exact bp⟩
structure arS where
 op:Int
 a:Int
 b:Int
 c:Int
 r:Int
@[reducible] noncomputable def aeQ:Vc.Spec where
 α:=arS
 args x:=[.i .i64 (λ_=>x.op),.i .i64 (λ_=>x.a),.i .i64 (λ_=>x.b),.i .i64 (λ_=>x.c)]
 pre x:=combineM x.op x.a x.b x.c=x.r
 res x:=.i .i64 (λ_=>x.r)
theorem an0:cR (PP ()) 244 aeQ:=by
 refine et (rP 0 0) (fo Tryz.func244) (λx=>⟨trivial,trivial,trivial,trivial,trivial⟩) (λx=>trivial) ?_
 rintro ⟨o,a,b,c,R⟩ hx
 have hx:combineM o a b c=R:=hx
 have q1:o=1->fN .xor .i64 (-1) a=R:=λh=>by rw [<-hx];simp [combineM,h,Ei]
 have q2:o=2->fN .and .i64 a b=R:=λh=>by rw [<-hx];simp [combineM,h,pL]
 have q3:o=3->fN .or .i64 a b=R:=λh=>by rw [<-hx];simp [combineM,h,B6]
 have q4:o=4->fN .xor .i64 a b=R:=λh=>by rw [<-hx];simp [combineM,h,Ei]
 have q5:o=5->fN .or .i64 (fN .and .i64 a b) (fN .and .i64 (fN .xor .i64 (-1) a) c)=R:=λh=>by rw [<-hx];simp [combineM,h,B6,pL,Ei]
 have q6:¬o=1->¬o=2->¬o=3->¬o=4->¬o=5->fN .or .i64 (fN .or .i64 (fN .and .i64 a b) (fN .and .i64 a c)) (fN .and .i64 b c)=R:=λk1 k2 k3 k4 k5=>by rw [<-hx];simp [combineM, *,B6,pL]
 clear hx
 refine ⟨?_⟩
 cbv
 refine ⟨λh=>?_,λh=>?_⟩
 ·have e:=q1 aH
  cbv
  exact ⟨by exact bp⟩
 have n1:¬o=1:=aH
 clear h q1
 cbv
 refine ⟨λh=>?_,λh=>?_⟩
 ·have e:=q2 aH
  cbv
  exact ⟨by exact bp⟩
 have n2:¬o=2:=aH
 clear h q2
 cbv
 refine ⟨λh=>?_,λh=>?_⟩
 ·have e:=q3 aH
  cbv
  exact ⟨by exact bp⟩
 have n3:¬o=3:=aH
 clear h q3
 cbv
 refine ⟨λh=>?_,λh=>?_⟩
 ·have e:=q4 aH
  cbv
  exact ⟨by exact bp⟩
 have n4:¬o=4:=aH
 clear h q4
 cbv
 refine ⟨λh=>?_,λh=>?_⟩
 ·have e:=q5 aH
  cbv
  exact ⟨by exact bp⟩
 have n5:¬o=5:=aH
 clear h q5
 have e:=q6 n1 n2 n3 n4 n5
 cbv
 exact ⟨by exact bp⟩
structure LV where
 l:List Int
 v:Int
def Ek (l:List Int) (v:Int):Int:=match l.findIdx? (λx=>decide (x=v)) with
 | some i=>i
 | none=>-1
theorem amP {l:List Int} {v:Int} {i:Nat} (h:∀j,j < i->∀x,l[j]?=some x->¬v=x) (hi:l[i]?=some v):(i:Int)=Ek l v:=by
 unfold Ek
 obtain ⟨hl,e⟩:=bt.1 hi
 have:l.findIdx? (λx=>decide (x=v))=some i:=by
  rw [FW]
  refine ⟨hl,by simpa using e,λj hj=>?_⟩
  have:=h j hj _ (eI (by omega))
  simp;exact λe=>this e.symm
 rw [this]
theorem amQ {l:List Int} {v:Int} (h:∀j,j < l.length->∀x,l[j]?=some x->¬v=x):(-1:Int)=Ek l v:=by
 unfold Ek
 have:l.findIdx? (λx=>decide (x=v))=none:=by
  rw [AM]
  intro x hx
  obtain ⟨j,hj⟩:=nG hx
  have:=h j (bt.1 hj).1 x hj
  simp;exact λe=>this e.symm
 rw [this]
theorem aiV (l:List Int) (v:Int):gI 0 (Ek l v)=l.contains v:=by
 unfold Ek gI
 cases h:l.findIdx? (λx=>decide (x=v)) with
 | none =>
  rw [AM] at h
  have:v∉l:=λhm=>by have:=h v hm;simp at this
  simp [this]
 | some i =>
  rw [FW] at h
  obtain ⟨hl,hp,_⟩:=h
  simp at hp
  have:v∈l:=hp ▸ Ry hl
  simp [this]
@[reducible] noncomputable def adL:Vc.Spec where
 α:=LV
 args x:=[.sl 1 bP (λ_=>x.l),.i .i64 (λ_=>x.v)]
 pre x:=x.l.length<=1000000000000
 res x:=.i .i64 (λ_=>Ek x.l x.v)
theorem amR:cR (PP ()) 276 adL:=by
 refine et (rP 0 0) (fo Tryz.func276) (λa=>⟨λx=>(df x).1,trivial,trivial⟩) (λa=>trivial) ?_
 rintro ⟨l,v⟩ hx
 have hl:l.length<=1000000000000:=hx
 refine ⟨?_⟩
 cbv
 refine Sat.dq (rP 0 0) 0 5 [] (λi:Nat=>[(6,.sl 1 bP (λ_=>l)),(7,.i .i64 (λ_=>(l.length:Int))),(8,.i .i64 λ_=>(i:Int))]) (λ_=>[]) (λi=>i<=l.length/\∀j,j < i->∀x,l[j]?=some x->¬v=x) (λi=>l.length - i) 0 (by exact aM) (by exact aM) ⟨cg _,λj h=>absurd h (qf _)⟩ ?_
 rintro i ⟨hi,dg⟩
 have hi:i<=l.length:=hi
 have h0:=n0 i
 have h1:=dC (i:=i) (by omega)
 cbv
 refine ⟨λh=>?_,λh=>?_⟩
 ·have bM:i < l.length:=aH
  have bZ:l.length - (i+1) < l.length - i:=by omega
  refine (bO bM).elim λx hx=>?_
  cbv
  refine ⟨x,⟨h0,hx⟩,?_⟩
  cbv
  refine ⟨λh=>?_,λh=>?_⟩
  ·have e:v=x:=aH
   have hr:=amP dg (e ▸ hx)
   cbv
   exact ⟨by have bH:=hr;exact bX⟩
  ·have bW:¬v=x:=aH
   have bS:i+1<=l.length/\∀j,j < i+1->∀x,l[j]?=some x->¬v=x:=⟨bM,λj hj y hy=>by
    by_cases oh:j=i
    ·subst oh;rw [hx] at hy;cases hy;exact bW
    ·exact dg j (by omega) y hy⟩
   cbv
   exact ⟨i+1,by exact aM,by exact aM,⟨⟨bS,bZ⟩⟩⟩
 ·have cG:¬i < l.length:=by have h:l.length<=i:=aH;omega
  have hr:=amQ (l:=l) (v:=v) λj hj=>dg j (by omega)
  cbv
  exact ⟨by have iY:=hr;exact bX⟩
@[reducible] noncomputable def Oj:Vc.Spec where
 α:=LV
 args x:=[.sl 1 bP (λ_=>x.l),.i .i64 (λ_=>x.v)]
 pre x:=x.l.length<=1000000000000
 res x:=.b (λ_=>x.l.contains x.v)
noncomputable def cMc (n m:Nat):Ctx:=dH n m [] [(276,adL)]
theorem aqa (n m:Nat):CB PP (cMc n m):=dK n m trivial ⟨amR,trivial⟩
theorem S2:cR (PP ()) 263 Oj:=by
 refine et (aqa 0 0) (fo Tryz.func263) (λa=>⟨λx=>(df x).1,trivial,trivial⟩) (λa=>trivial) ?_
 rintro ⟨l,v⟩ hx
 have hl:l.length<=1000000000000:=hx
 have hr:=aiV l v
 refine ⟨?_⟩
 cbv
 refine ⟨⟨l,v⟩,⟨by exact bp,hl⟩,?_⟩
 cbv
 exact ⟨by have kQ:=hr;exact bX⟩
structure L2 where
 a:List Int
 b:List Int
@[reducible] noncomputable def UL:Vc.Spec where
 α:=L2
 args x:=[.sl 1 bP (λ_=>x.a),.sl 1 bP (λ_=>x.b)]
 pre x:=x.a.length<=1000000000000/\x.b.length<=1000000000000
 res x:=.b (λ_=>decide (x.a=x.b))
theorem acj:cR (PP ()) 96 UL:=by
 refine et (rP 0 0) (fo Tryz.func96) (λa=>⟨λx=>(df x).1,λx=>(df x).1,trivial⟩) (λa=>trivial) ?_
 rintro ⟨a,b⟩ hx
 obtain ⟨ha,hb⟩:a.length<=1000000000000/\b.length<=1000000000000:=hx
 refine ⟨?_⟩
 cbv
 refine ⟨λh=>?_,λh=>?_⟩
 ·have bW:¬(a.length:Int)=b.length:=aH
  have hr:false=decide (a=b):=by rw [eq_comm,decide_eq_false_iff_not];rintro rfl;exact bW rfl
  cbv
  exact ⟨by have eK:=hr;exact bX⟩
 have gl:(a.length:Int)=b.length:=aH
 have gl:a.length=b.length:=by omega
 clear h
 cbv
 refine Sat.dq (rP 0 0) 0 5 [] (λi:Nat=>[(12,.i .i64 (λ_=>(a.length:Int))),(13,.i .i64 λ_=>(i:Int))]) (λ_=>[]) (λi=>i<=a.length/\a.take i=b.take i) (λi=>a.length - i) 0 (by exact aM) (by exact aM) ⟨cg _,by simp⟩ ?_
 rintro i ⟨hi,he⟩
 have hi:i<=a.length:=hi
 have he:a.take i=b.take i:=he
 have h0:=n0 i
 have h1:=dC (i:=i) (by omega)
 cbv
 refine ⟨λh=>?_,λh=>?_⟩
 ·have bM:i < a.length:=aH
  have bZ:a.length - (i+1) < a.length - i:=by omega
  refine (bO bM).elim λx hx=>?_
  refine (bO (show i < b.length by omega)).elim λy hy=>?_
  cbv
  refine ⟨x,⟨h0,hx⟩,?_⟩
  cbv
  refine ⟨y,⟨h0,hy⟩,?_⟩
  cbv
  refine ⟨λh=>?_,λh=>?_⟩
  ·have bW:¬x=y:=aH
   have hr:false=decide (a=b):=by rw [eq_comm,decide_eq_false_iff_not];rintro rfl;rw [hx] at hy;cases hy;exact bW rfl
   cbv
   exact ⟨by have eK:=hr;exact bX⟩
  ·have e:x=y:=aH
   have bS:i+1<=a.length/\a.take (i+1)=b.take (i+1):=⟨bM,by rw [jR,jR,hx,hy,he,e]⟩
   cbv
   exact ⟨i+1,by exact aM,by exact aM,⟨⟨bS,bZ⟩⟩⟩
 ·have cG:a.length<=i:=aH
  have hr:true=decide (a=b):=by
   rw [eq_comm,decide_eq_true_eq]
   rw [iQ (by omega),iQ (by omega)] at he
   exact he
  cbv
  exact ⟨by have eK:=hr;exact bX⟩
@[reducible] noncomputable def aeR:Vc.Spec where
 α:=Int
 args x:=[.i .i64 (λ_=>x)]
 pre x:=True
 res x:=.b (λ_=>false)
theorem an2:cR (PP ()) 189 aeR:=by
 refine et (rP 0 0) (fo Tryz.func189) (λx=>⟨trivial,trivial⟩) (λx=>trivial) ?_
 intro x _
 have e:(!eW x x)=false:=by simp [eW]
 refine ⟨?_⟩
 cbv
 exact ⟨by have kQ:=e;exact bX⟩
def sZ (a b:Int):Int:=if a < b then -1 else if b < a then 1 else 0
structure AB where
 a:Int
 b:Int
@[reducible] noncomputable def TW:Vc.Spec where
 α:=AB
 args x:=[.i .i64 (λ_=>x.a),.i .i64 (λ_=>x.b)]
 pre x:=True
 res x:=.i .i64 (λ_=>sZ x.a x.b)
noncomputable def arY (n m:Nat):Ctx:=dH n m [] [(189,aeR)]
theorem an3 (n m:Nat):CB PP (arY n m):=dK n m trivial ⟨an2,trivial⟩
theorem abv:cR (PP ()) 130 TW:=by
 refine et (an3 0 0) (fo Tryz.func130) (λx=>⟨trivial,trivial,trivial⟩) (λx=>trivial) ?_
 rintro ⟨a,b⟩ _
 have q1:a < b->(-1:Int)=sZ a b:=λh=>by simp [sZ,h]
 have q2:b<=a->b < a->(1:Int)=sZ a b:=λk h=>by unfold sZ;rw [if_neg (by omega),if_pos h]
 have q3:b<=a->a<=b->(0:Int)=sZ a b:=λk h=>by unfold sZ;rw [if_neg (by omega),if_neg (by omega)]
 refine ⟨?_⟩
 cbv
 refine ⟨a,⟨by exact bp,trivial⟩,?_⟩
 cbv
 refine ⟨b,⟨by exact bp,trivial⟩,?_⟩
 cbv
 refine ⟨λh=>(by have:=h.out;cases this),λh=>?_⟩
 clear h
 cbv
 refine ⟨λh=>(by have:=h.out;cases this),λh=>?_⟩
 clear h
 cbv
 refine ⟨λh=>?_,λh=>?_⟩
 ·have e:=q1 aH
  cbv
  exact ⟨by have iY:=e;exact bX⟩
 have n1:b<=a:=aH
 clear h
 cbv
 refine ⟨λh=>?_,λh=>?_⟩
 ·have e:=q2 n1 aH
  cbv
  exact ⟨by have iY:=e;exact bX⟩
 have e:=q3 n1 aH
 cbv
 exact ⟨by have iY:=e;exact bX⟩
def yv:List Int->Int
 | []=>0
 | x :: r=>if x=0 then yv r else x
theorem an4 {l:List Int} {x:Int} (hx:¬x=0):∀{i:Nat},l[i]?=some x->(∀j y,j < i->l[j]?=some y->y=0)->x=yv l:=by
 induction l with
 | nil=>intro i h;simp at h
 | cons y r ih =>
  intro i h k
  unfold yv
  cases i with
  | zero=>simp at h;subst h;rw [if_neg hx]
  | succ i=>rw [if_pos (k 0 y (by omega) rfl)];exact ih (by simpa using h) λj z hj hz=>k (j+1) z (by omega) (by simpa using hz)
theorem ack:∀{l:List Int},(∀(j:Nat) (y:Int),l[j]?=some y->y=0)->(0:Int)=yv l
 | [],_=>rfl
 | x :: r,k=>by unfold yv;rw [if_pos (k 0 x rfl)];exact ack λj y hy=>k (j+1) y (by simpa using hy)
@[reducible] noncomputable def aeS:Vc.Spec where
 α:=List Int
 args l:=[.sl 1 bP (λ_=>l)]
 pre l:=l.length<=1000000
 res l:=.i .i64 (λ_=>yv l)
theorem an5:cR (PP ()) 274 aeS:=by
 refine et (rP 0 0) (fo Tryz.func274) (λa=>⟨λx=>(df x).1,trivial⟩) (λa=>trivial) ?_
 intro l hx
 have hl:l.length<=1000000:=hx
 refine ⟨?_⟩
 cbv
 refine Sat.dq (rP 0 0) 0 5 [] (λi:Nat=>[(6,.sl 1 bP (λ_=>l)),(7,.i .i64 (λ_=>(l.length:Int))),(8,.i .i64 λ_=>(i:Int))]) (λ_=>[]) (λi=>i<=l.length/\∀j y,j < i->l[j]?=some y->y=0) (λi=>l.length - i) 0 (by exact aM) (by exact aM) ⟨cg _,λj y h=>absurd h (qf _)⟩ ?_
 rintro i ⟨hi,dg⟩
 have hi:i<=l.length:=hi
 have h0:=n0 i
 have h1:=dC (i:=i) (by omega)
 cbv
 refine ⟨λh=>?_,λh=>?_⟩
 ·have bM:i < l.length:=aH
  have bZ:l.length - (i+1) < l.length - i:=by omega
  refine (bO bM).elim λx hx=>?_
  cbv
  refine ⟨x,⟨h0,hx⟩,?_⟩
  cbv
  refine ⟨λh=>?_,λh=>?_⟩
  ·have bW:¬x=0:=aH
   have hr:=an4 bW hx dg
   cbv
   exact ⟨by have bH:=hr;exact bX⟩
  ·have e:x=0:=aH
   have bS:i+1<=l.length/\∀j y,j < i+1->l[j]?=some y->y=0:=⟨bM,λj y hj hy=>by
    by_cases oh:j=i
    ·subst oh;rw [hx] at hy;cases hy;exact e
    ·exact dg j y (by omega) hy⟩
   cbv
   exact ⟨i+1,by exact aM,by exact aM,⟨⟨bS,bZ⟩⟩⟩
 ·have cG:l.length<=i:=aH
  have hr:=ack (l:=l) λj y hy=>dg j y (by have:=(bt.1 hy).1;omega) hy
  cbv
  exact ⟨by have iY:=hr;exact bX⟩
@[reducible] noncomputable def aeT:Vc.Spec where
 α:=L2
 args x:=[.sl 1 bP (λ_=>x.a),.sl 1 bP (λ_=>x.b)]
 pre x:=x.a.length<=1000000/\x.b.length<=1000000
 res x:=.i .i64 (λ_=>gh x.a x.b)
theorem akv {a b:List Int} {i:Nat} {x:Int} (hx:a[i]?=some x) (h:gh (a.drop i) (b.drop i)=gh a b):(b.length<=i->(1:Int)=gh a b)/\∀y,b[i]?=some y->(¬sZ x y=0->sZ x y=gh a b)/\(sZ x y=0->gh (a.drop (i+1)) (b.drop (i+1))=gh a b):=by
 obtain ⟨bM,hx⟩:=bt.1 hx
 rw [rF bM,hx] at h
 refine ⟨λhb=>?_,λy hy=>?_⟩
 ·rw [F1 hb] at h
  rw [<-h];rfl
 ·obtain ⟨jW,hy⟩:=bt.1 hy
  rw [rF jW,hy] at h
  rw [<-h]
  have e:∀A B:List Int,gh (x :: A) (y :: B)=if x < y then -1 else if y < x then 1 else gh A B:=λ_ _=>rfl
  rw [e]
  unfold sZ
  by_cases h1:x < y
  ·simp [h1]
  ·by_cases h2:y < x
   ·simp [h1,h2]
   ·simp [h1,h2]
theorem alz {a b:List Int} {i:Nat} (hi:a.length<=i) (jD:i<=a.length) (h:gh (a.drop i) (b.drop i)=gh a b):((a.length:Int) < b.length->(-1:Int)=gh a b)/\((b.length:Int)<=a.length->(0:Int)=gh a b):=by
 rw [F1 hi] at h
 rw [<-h]
 refine ⟨λhb=>?_,λhb=>?_⟩
 ·rw [rF (show i < b.length by omega)];rfl
 ·rw [F1 (by omega)];rfl
noncomputable def arZ (n m:Nat):Ctx:=dH n m [] [(130,TW)]
theorem acm (n m:Nat):CB PP (arZ n m):=dK n m trivial ⟨abv,trivial⟩
theorem an6:cR (PP ()) 275 aeT:=by
 refine et (acm 0 0) (fo Tryz.func275) (λa=>⟨λx=>(df x).1,λx=>(df x).1,trivial⟩) (λa=>trivial) ?_
 rintro ⟨a,b⟩ hx
 obtain ⟨ha,hb⟩:a.length<=1000000/\b.length<=1000000:=hx
 refine ⟨?_⟩
 cbv
 refine Sat.dq (acm 0 0) 0 5 [] (λi:Nat=>[(9,.sl 1 bP (λ_=>a)),(10,.i .i64 (λ_=>(a.length:Int))),(11,.i .i64 λ_=>(i:Int))]) (λ_=>[]) (λi=>i<=a.length/\gh (a.drop i) (b.drop i)=gh a b) (λi=>a.length - i) 0 (by exact aM) (by exact aM) ⟨cg _,by simp⟩ ?_
 rintro i ⟨hi,he⟩
 have hi:i<=a.length:=hi
 have he:gh (a.drop i) (b.drop i)=gh a b:=he
 have h0:=n0 i
 have h1:=dC (i:=i) (by omega)
 cbv
 refine ⟨λh=>?_,λh=>?_⟩
 ·have bM:i < a.length:=aH
  have bZ:a.length - (i+1) < a.length - i:=by omega
  refine (bO bM).elim λx hx=>?_
  have x7:=akv hx he
  cbv
  refine ⟨x,⟨h0,hx⟩,?_⟩
  cbv
  refine ⟨λh=>?_,λh=>?_⟩
  ·have e:=x7.1 aH
   cbv
   exact ⟨by have iY:=e;exact bX⟩
  have jW:i < b.length:=aH
  refine (bO jW).elim λy hy=>?_
  have PF:=x7.2 y hy
  clear h
  cbv
  refine ⟨y,⟨h0,hy⟩,?_⟩
  cbv
  refine ⟨⟨x,y⟩,⟨by exact bp,trivial⟩,?_⟩
  cbv
  refine ⟨λh=>?_,λh=>?_⟩
  ·have e:=PF.1 aH
   cbv
   exact ⟨by have bH:=e;exact bX⟩
  ·have e:=PF.2 aH
   have bS:i+1<=a.length/\gh (a.drop (i+1)) (b.drop (i+1))=gh a b:=⟨bM,e⟩
   cbv
   exact ⟨i+1,by exact aM,by exact aM,⟨⟨bS,bZ⟩⟩⟩
 ·have cG:a.length<=i:=aH
  have q:=alz cG hi he
  cbv
  refine ⟨λh=>?_,λh=>?_⟩
  ·have e:=q.1 aH
   cbv
   exact ⟨by have iY:=e;exact bX⟩
  ·have e:=q.2 aH
   cbv
   exact ⟨by have iY:=e;exact bX⟩
@[reducible] noncomputable def UM:Vc.Spec where
 α:=L2
 args x:=[.sl 1 bP (λ_=>x.a),.sl 1 bP (λ_=>x.b)]
 pre x:=x.a.length<=1000000/\x.b.length<=1000000
 res x:=.i .i64 (λ_=>jb x.a x.b)
theorem amS (a b:List Int):yv [sZ a.length b.length,gh a b]=jb a b:=by
 unfold yv sZ jb yv
 by_cases h1:a.length < b.length
 ·rw [if_pos (by omega:(a.length:Int) < b.length),if_pos h1];rfl
 ·by_cases h2:b.length < a.length
  ·rw [if_neg (by omega:¬(a.length:Int) < b.length),if_pos (by omega:(b.length:Int) < a.length),if_neg h1,if_pos h2];rfl
  ·rw [if_neg (by omega:¬(a.length:Int) < b.length),if_neg (by omega:¬(b.length:Int) < a.length),if_neg h1,if_neg h2,if_pos rfl]
   split
   ·rename_i e;rw [e];rfl
   ·rfl
noncomputable def ar0 (n m:Nat):Ctx:=dH n m [] [(130,TW),(275,aeT),(274,aeS)]
theorem an7 (n m:Nat):CB PP (ar0 n m):=dK n m trivial ⟨abv,an6,an5,trivial⟩
theorem an8:cR (PP ()) 273 UM:=by
 refine et (an7 0 0) (fo Tryz.func273) (λa=>⟨λx=>(df x).1,λx=>(df x).1,trivial⟩) (λa=>trivial) ?_
 rintro ⟨a,b⟩ hx
 have gl:a.length<=1000000/\b.length<=1000000:=hx
 obtain ⟨A,hA⟩:∃A:Int,(a.length:Int)=A:=⟨_,rfl⟩
 obtain ⟨B,hB⟩:∃B:Int,(b.length:Int)=B:=⟨_,rfl⟩
 obtain ⟨U,hU⟩:∃U:Int,sZ A B=U:=⟨_,rfl⟩
 obtain ⟨V,hV⟩:∃V:Int,gh a b=V:=⟨_,rfl⟩
 have e:yv [U,V]=jb a b:=by rw [<-hU,<-hV,<-hA,<-hB];exact amS a b
 have h2:([U,V]:List Int).length<=1000000:=by show 2<=1000000;decide
 refine ⟨?_⟩
 cbv
 refine ⟨⟨A,B⟩,⟨by have bH:=hA;have jv:=hB;exact bX,trivial⟩,?_⟩
 cbv
 refine ⟨⟨a,b⟩,⟨by exact bp,gl⟩,?_⟩
 cbv
 refine ⟨[U,V],⟨.inl ⟨by have bH:=hU;have jv:=hV;exact bX,rfl⟩,h2⟩,?_⟩
 cbv
 exact ⟨by have bH:=e;exact bX⟩
def OZ (n:Net) (s:eT):List SV:=[.sl 3 jq (λ_=>n.ins),.sl 5 kC (λ_=>n.aT),.sl 3 jq (λ_=>n.outs),.sl 1 bP (λ_=>n.bj),.sl 1 bP (λ_=>s.labels),.sl 1 Dy (λ_=>s.gG),.sl 1 e8 (λ_=>s.leaves)]
theorem abw (n:Net) (s:eT):cI (OZ n s):=⟨λx=>(ve x).1,λx=>(tZ x).1,λx=>(ve x).1,λx=>(df x).1,λx=>(df x).1,λx=>(Zq x).1,λx=>(nJ x).1,trivial⟩
structure ar1 where
 n:Net
 s:eT
 l:List Int
structure mG (L l:List Int):Prop where
 len:l.length<=1000000
 mem:∀v∈l,0<=v/\v < L.length
 ji:∀x∈L,0<=x/\x<=1000000
theorem mG.le {L l:List Int} (h:mG L l):0<=cU L l/\cU L l<=1000000:=by
 refine ⟨AV L l,AI (by decide) λv hv=>?_⟩
 have hb:=h.mem v hv
 rw [List.getD_eq_getElem?_getD,eI (show v.toNat < L.length by omega)]
 exact (h.ji _ (Ry _)).2
theorem Yk {L l:List Int} {i:Nat} {v x:Int} (hv:l[i]?=some v) (hx:L[v.toNat]?=some x):max (cU L (l.take i)) x=cU L (l.take (i+1)):=by
 unfold cU
 rw [jR,hv,oQ,List.foldl_append,kW,FN,List.getD_eq_getElem?_getD,hx]
 rfl
@[reducible] noncomputable def Ke:Vc.Spec where
 α:=ar1
 args x:=[.dU (OZ x.n x.s) 0,.sl 1 bP (λ_=>x.l)]
 pre x:=mG x.s.labels x.l
 res x:=.i .i64 (λ_=>cU x.s.labels x.l)
theorem NQ:cR (PP ()) 259 Ke:=by
 refine et (rP 0 0) (fo Tryz.func259) (λa=>⟨abw a.n a.s,λx=>(df x).1,trivial⟩) (λa=>trivial) ?_
 rintro ⟨n,⟨L,C,F⟩,l⟩ hx
 have hx:mG L l:=hx
 have kP:=hx.len
 have B7:cU L (l.take 0)=0:=rfl
 refine ⟨?_⟩
 cbv
 refine Sat.dq (rP 0 0) 0 5 [] (λi:Nat=>[(5,.i .i64 (λ_=>cU L (l.take i))),(8,.sl 1 bP (λ_=>l)),(9,.i .i64 (λ_=>(l.length:Int))),(10,.i .i64 λ_=>(i:Int))]) (λ_=>[]) (λi=>i<=l.length) (λi=>l.length - i) 0 (by have iY:=B7.symm;exact bh) (by exact aM) (cg _) ?_
 intro i hi
 have hi:i<=l.length:=hi
 have h0:=n0 i
 have h1:=dC (i:=i) (by omega)
 cbv
 refine ⟨λh=>?_,λh=>?_⟩
 ·have bM:i < l.length:=aH
  have bZ:l.length - (i+1) < l.length - i:=by omega
  refine (bO bM).elim λv hv=>?_
  have hb:=hx.mem v (cB hv)
  refine (bO (l:=L) (i:=v.toNat) (by omega)).elim λx jc=>?_
  have cH:=Yk hv jc
  have ib:=hb.1
  cbv
  refine ⟨v,⟨h0,hv⟩,?_⟩
  cbv
  refine ⟨x,⟨ib,jc⟩,?_⟩
  cbv
  exact ⟨i+1,by have bH:=cH;have jv:=h1;exact bh,by exact aM,⟨⟨bM,bZ⟩⟩⟩
 ·have cG:l.length<=i:=aH
  have hr:cU L (l.take i)=cU L l:=by rw [iQ cG]
  cbv
  exact ⟨by have bH:=hr;exact bX⟩
theorem R4 {f:List Int->Int} {x:List Int}:∀{r:List (List Int)} {m:List Int},kh f m (r++[x])=if f x - f (kh f m r) < 0 then x else kh f m r
 | [],m=>by
  show (if f x - f m < 0 then kh f x [] else kh f m [])=_
  rfl
 | y :: r,m=>by
  show (if f y - f m < 0 then kh f y (r++[x]) else kh f m (r++[x]))=if f x - f (if f y - f m < 0 then kh f y r else kh f m r) < 0 then x else (if f y - f m < 0 then kh f y r else kh f m r)
  by_cases hc:f y - f m < 0
  ·rw [if_pos hc,if_pos hc];exact R4
  ·rw [if_neg hc,if_neg hc];exact R4
def ar4 (n:Net) (k:Nat):List SV:=[.sl 3 jq (λ_=>n.ins),.sl 5 kC (λ_=>n.aT),.sl 3 jq (λ_=>n.outs),.sl 1 bP (λ_=>n.bj),.own (k+1),.own (k+2),.own (k+3)]
def GZ (n:Net) (s:eT) (k:Nat):List Slot:=[.fix 324 (ar4 n k),.dyn 3 1 bP (λ_=>s.labels),.dyn 36 1 Dy (λ_=>s.gG),.dyn 35 1 e8 (λ_=>s.leaves)]
structure ar5 where
 n:Net
 s:eT
 m:List Int
 r:List (List Int)
 b:List Int
@[reducible] noncomputable def aqg:pC where
 α:=ar5
 args x:=[.own 5,.fn (.func 258) [] [.ptr 0 0]]
 io x:=.fix 320 [.ptr 1 0] :: (GZ x.n x.s 1++[.dyn 35 1 e8 (λ_=>x.m :: x.r)])
 pre x:=x.r.length<=100000000/\(∀y∈x.m :: x.r,mG x.s.labels y)/\kh (cU x.s.labels) x.m x.r=x.b
 β:=Unit
 post _ _:=True
 mv:=[]
 res x _:=.sl 1 bP (λ_=>x.b)
 mM x _:=.fix 320 [.ptr 1 0] :: (GZ x.n x.s 1++[.dyn 35 1 e8 (λ_=>x.m :: x.r)])
noncomputable def ar6 (n m:Nat):Ctx:=dH n m [(258,Tryz.f258)] [(259,Ke)]
theorem acn (n m:Nat):CB PP (ar6 n m):=dK n m ⟨fo Tryz.func258,trivial⟩ ⟨NQ,trivial⟩
theorem amT:nT PP 257 aqg:=by
 refine tl (acn 6 0) (fo Tryz.func257) (λa y=>rfl) (λa=>⟨rfl,rfl⟩) Az ?_
 rintro ⟨n,⟨LL,CC,FF⟩,m,r,b⟩ hx
 obtain ⟨hr,kI,tq⟩:r.length<=100000000/\(∀y∈m :: r,mG LL y)/\kh (cU LL) m r=b:=hx
 have h00:(m :: r)[(0:Int).toNat]?=some m:=rfl
 have o9:∀k,mG LL (kh (cU LL) m (r.take k)):=λk=>kI _ (by
  rcases cV.1 (I7 (f:=cU LL) (r:=r.take k) (m:=m)) with h|h
  ·rw [h];simp
  ·exact rH _ (tU h))
 obtain ⟨Bf,K1⟩:∃Bf:Nat->List Int,∀i,Bf i=kh (cU LL) m (r.take (i - 1)):=⟨_,λ_=>rfl⟩
 have s9:Bf 1=m:=by rw [K1];rfl
 have aqh:∀i,r.length<=i - 1->Bf i=b:=λi h=>by rw [K1,iQ h,tq]
 have cH:∀i x,1<=i->r[i - 1]?=some x->(cU LL x - cU LL (Bf i) < 0->x=Bf (i+1))/\(0<=cU LL x - cU LL (Bf i)->Bf i=Bf (i+1)):=λi x hi hk=>by
  have e:Bf (i+1)=kh (cU LL) m (r.take (i - 1)++[x]):=by
   rw [K1,show i+1 - 1=(i - 1)+1 by omega,jR,hk,oQ]
  rw [e,R4,<-K1]
  exact ⟨λh=>by rw [if_pos h],λh=>by rw [if_neg (by omega)]⟩
 have ar7:∀i,mG LL (Bf i):=λi=>by rw [K1];exact o9 _
 have V2:0<=(0:Int)/\(0:Int).toNat < (m :: r).length:=⟨mr _,Nat.zero_lt_succ _⟩
 refine ⟨?_⟩
 cbv
 refine ⟨λh=>?_,λ_=>?_⟩
 ·have h':(((m :: r).length:Nat):Int) < 1:=aH
  cases (show False by rw [qd] at h';omega)
 cbv
 refine ⟨⟨V2⟩,m,⟨h00,rfl⟩,?_⟩
 cbv
 refine Sat.dq (acn 6 0) 6 5 [] (λi:Nat=>[(5,.sl 1 bP (λ_=>Bf i)),(6,.i .i64 (λ_=>(i:Int)))]) (λ_=>[]) (λi=>1<=i/\i<=r.length+1) (λi=>r.length+1 - i) 1 (by have gS:=s9.symm;exact bh) (by exact aM) ⟨fq _,RC _ _⟩ ?_
 intro i hi
 obtain ⟨e7,hi⟩:1<=i/\i<=r.length+1:=hi
 obtain ⟨B,hB⟩:∃B,Bf i=B:=⟨_,rfl⟩
 have hBk:mG LL B:=hB ▸ ar7 i
 have h0:=n0 i
 have h1:=dC (i:=i) (by omega)
 cbv
 refine ⟨λh=>?_,λh=>?_⟩
 ·have bM:i < (m :: r).length:=aH
  have tu:i < r.length+1:=bM
  have e7:1<=i:=e7
  have bZ:r.length+1 - (i+1) < r.length+1 - i:=by omega
  refine (bO bM).elim λx hx=>?_
  have jK:r[i - 1]?=some x:=by rw [<-hx,show i=(i - 1)+1 by omega];rfl
  have aeU:=kI x (cB hx)
  obtain ⟨e1,e2⟩:=cH i x e7 jK
  rw [hB] at e1 e2
  have e:IntKind.i64.wrap (cU LL x - cU LL B)=cU LL x - cU LL B:=by have:=aeU.le;have:=hBk.le;exact dt (by omega) (by omega)
  have lS:(m :: r)[(i:Int).toNat]?=some x:=hx
  have nq:0<=(i:Int)/\(i:Int).toNat < (m :: r).length:=⟨h0,bM⟩
  have gy:(1<=i+1/\i+1<=r.length+1)/\r.length+1 - (i+1) < r.length+1 - i:=⟨⟨RC _ _,by omega⟩,bZ⟩
  cbv
  refine ⟨⟨nq⟩,x,⟨lS,rfl⟩,?_⟩
  cbv
  refine ⟨⟨n,⟨LL,CC,FF⟩,x⟩,⟨.inl ⟨by exact bp,rfl⟩,aeU⟩,?_⟩
  cbv
  refine ⟨⟨n,⟨LL,CC,FF⟩,B⟩,⟨.inl ⟨by have gS:=hB;exact bX,rfl⟩,hBk⟩,?_⟩
  cbv
  refine ⟨λh=>?_,λh=>?_⟩
  ·have aP:IntKind.i64.wrap (cU LL x - cU LL B) < 0:=aH
   have e:=e1 (e ▸ aP)
   cbv
   refine ⟨⟨nq⟩,x,⟨lS,rfl⟩,?_⟩
   cbv
   exact ⟨i+1,by have gS:=e;have bH:=h1;exact bh,by exact aM,⟨gy⟩⟩
  ·have cG:0<=IntKind.i64.wrap (cU LL x - cU LL B):=aH
   have e:=hB.trans (e2 (e ▸ cG))
   cbv
   exact ⟨i+1,by have gS:=e;have bH:=h1;exact bh,by exact aM,⟨gy⟩⟩
 ·have cG:(m :: r).length<=i:=aH
  have cG:r.length<=i - 1:=Nat.le_sub_of_add_le cG
  have hr:=aqh i cG
  cbv
  exact ⟨(),[],[],by have gS:=hr;exact bh,by exact aM,⟨trivial⟩⟩
end Go.Proofs.Pk
