/- Texts of this claim, one behind the other (merged by a program of mine). -/
import Derived.Test.YtceknlcbfomdhaaGreatDoorRows
import Derived.ProofKit
import Derived.OpenShut
import Derived.ShutString
import Derived.ChangeOld
import Derived.Below
import Derived.Deep.Slices
import Derived.Test.YtceknlcbfomdhaaGreatDoorProg
import Derived.Shelf.LaysM
import Derived.Ground.NamesProg
import Derived.Shelf.Strconv.Itoa4
import Derived.Lib.AppendIntMem
import Derived.Shelf.SortM.Plain
import Derived.Shelf.SortM.SortNone
import Derived.Ground.SlgmProg
import Derived.Shelf.SlGeneric
import Derived.Sort.OwnSortedInts
import Derived.StillTailTactics
import Derived.Laws.OwnMore
import Derived.Deep.AppendLies
import Derived.Deep.Draws
import Derived.Laws.Rows
import Derived.Shelf.SlicesG.Clone
import Derived.Ground.SlgnProg
import Derived.BigCall
import Derived.Deep.RegionHeld3
import Derived.Test.YtceknlcbfomdhaaGreatDoorGN3
set_option linter.unusedSimpArgs false
set_option linter.unusedVariables false
namespace Go.Proofs.YtceknlcbfomdhaaGreatDoor
open Go.ChangeShapes Go.WideShapes Go.ChangeAt Go.RowKit
open Go.ChangeMaps (open_string shut_string)
set_option maxRecDepth 100000
theorem own:ownKnob Tryz.prog.godebug=none:=by kernel_rfl
end Go.Proofs.YtceknlcbfomdhaaGreatDoor
namespace Go.Proofs.YtceknlcbfomdhaaGreatDoor
open Go.ChangeShapes Go.WideShapes Go.ChangeAt Go.RowKit Go.Deep
set_option linter.unusedVariables false
set_option maxRecDepth 100000
theorem aS2 {w:World} : ∀ (i:Nat) v a,(List.toArray ([]:List Value))[i]? = some v→([]:List AV)[i]? = some a→fC w (fun b=>b<w.heap.size) (fun _ _=>none) (lks []) v a:=fun i v a h=>by simp at h
section
variable {H:Type} {enc:TypeId × Value→H} {W:World} {b0:Nat} {spare:Nat→Bool} {held:Bool} {aTn:Nat} {cs:List Value} {x:DataW H × List MemPlace}
end
end Go.Proofs.YtceknlcbfomdhaaGreatDoor
namespace Go.Proofs.YtceknlcbfomdhaaGreatDoor
open Go.ChangeShapes Go.WideShapes Go.ChangeAt Go.RowKit Go.Deep
set_option linter.unusedVariables false
set_option maxRecDepth 100000
def osI (x:Int):Prop := -9223372036854775808≤x∧x≤9223372036854775807
section
variable {H:Type} {enc:TypeId × Value→H} {W:World} {b0:Nat} {spare:Nat→Bool} {held:Bool} {aTn:Nat} {cs:List Value} {x:DataW H × List MemPlace}
end
end Go.Proofs.YtceknlcbfomdhaaGreatDoor
namespace Go.Proofs.YtceknlcbfomdhaaGreatDoor
open Go.RowKit
set_option linter.unusedVariables false
set_option maxRecDepth 100000
set_option maxHeartbeats 2000000
end Go.Proofs.YtceknlcbfomdhaaGreatDoor
namespace Go.Proofs.YtceknlcbfomdhaaGreatDoor
open Go.ChangeShapes Go.WideShapes Go.ChangeAt Go.RowKit Go.Deep
set_option linter.unusedVariables false
set_option maxRecDepth 100000
set_option maxHeartbeats 2000000
end Go.Proofs.YtceknlcbfomdhaaGreatDoor
namespace Go.Proofs.YtceknlcbfomdhaaGreatDoor
open Go.RowKit
set_option linter.unusedVariables false
set_option maxRecDepth 100000
theorem ty2:kV Tryz.prog 2 ⟨.int .i64,1,8, .int .i64 0⟩:=cC (by kernel_rfl)
theorem ty3:kV Tryz.prog 3 ⟨.int .i64,1,8, .int .i64 0⟩:=cC (by kernel_rfl)
theorem ty4:kV Tryz.prog 4 ⟨.bool,1,1, .bool false⟩:=cC (by kernel_rfl)
theorem ty5:kV Tryz.prog 5 ⟨.int .u8,1,1, .int .u8 0⟩:=cC (by kernel_rfl)
theorem ty6:kV Tryz.prog 6 ⟨.int .u8,1,1, .int .u8 0⟩:=cC (by kernel_rfl)
theorem ty8 : kV Tryz.prog 8 ⟨.struct #[⟨"x",2,0,false, "", "runtime",0⟩,⟨"y",3,1,false, "", "runtime",8⟩,⟨"signed",4,2,false, "", "runtime",16⟩,⟨"code",6,3,false, "", "runtime",17⟩],4,24, .agg #[.int .i64 0, .int .i64 0, .bool false, .int .u8 0]⟩ := cC (by kernel_rfl)
theorem ty9:kV Tryz.prog 9 ⟨.string,1,16, .string ⟨#[]⟩⟩:=cC (by kernel_rfl)
theorem aZ9:kV Tryz.prog 10 ⟨.string,1,16, .string ⟨#[]⟩⟩:=cC (by kernel_rfl)
theorem bAa:kV Tryz.prog 11 ⟨.string,1,16, .string ⟨#[]⟩⟩:=cC (by kernel_rfl)
theorem bAb:kV Tryz.prog 12 ⟨.int .u64,1,8, .int .u64 0⟩:=cC (by kernel_rfl)
theorem bAc : kV Tryz.prog 14 ⟨.struct #[⟨"msg",9,0,false, "", "runtime",0⟩,⟨"addr",12,1,false, "", "runtime",16⟩],2,24, .agg #[.string ⟨#[]⟩, .int .u64 0]⟩ := cC (by kernel_rfl)
theorem bAd:kV Tryz.prog 15 ⟨.pointer 288,1,8, .pointer none⟩:=cC (by kernel_rfl)
theorem bAe:kV Tryz.prog 16 ⟨.pointer 291,1,8, .pointer none⟩:=cC (by kernel_rfl)
theorem bAf:kV Tryz.prog 17 ⟨.pointer 300,1,8, .pointer none⟩:=cC (by kernel_rfl)
theorem bAg : kV Tryz.prog 19 ⟨.struct #[⟨"typ",17,0,false, "", "internal/runtime/maps",0⟩],1,8, .agg #[.pointer none]⟩ := cC (by kernel_rfl)
theorem bAh:kV Tryz.prog 22 ⟨.slice 88,1,24, .slice none 0 0⟩:=cC (by kernel_rfl)
theorem bAi:kV Tryz.prog 23 ⟨.slice 90,1,24, .slice none 0 0⟩:=cC (by kernel_rfl)
theorem bAj : kV Tryz.prog 25 ⟨.struct #[⟨"Arbors",22,0,false, "", "",0⟩,⟨"Meshes",23,1,false, "", "",24⟩],2,48, .agg #[.slice none 0 0, .slice none 0 0]⟩ := cC (by kernel_rfl)
theorem bAk:kV Tryz.prog 26 ⟨.slice 62,1,24, .slice none 0 0⟩:=cC (by kernel_rfl)
theorem bAl:kV Tryz.prog 27 ⟨.slice 66,1,24, .slice none 0 0⟩:=cC (by kernel_rfl)
theorem bAm : kV Tryz.prog 29 ⟨.struct #[⟨"Name",9,0,false, "", "",0⟩,⟨"Months",26,1,false, "", "",16⟩,⟨"Rules",27,2,false, "", "",40⟩,⟨"Week",2,3,false, "", "",64⟩],4,72, .agg #[.string ⟨#[]⟩, .slice none 0 0, .slice none 0 0, .int .i64 0]⟩ := cC (by kernel_rfl)
theorem bAn:kV Tryz.prog 30 ⟨.slice 2,1,24, .slice none 0 0⟩:=cC (by kernel_rfl)
theorem bAo : kV Tryz.prog 32 ⟨.struct #[⟨"Name",9,0,false, "", "",0⟩,⟨"Works",25,1,false, "", "",16⟩,⟨"Minute",2,3,false, "", "",64⟩,⟨"Hour",2,4,false, "", "",72⟩,⟨"Escape",2,5,false, "", "",80⟩,⟨"Teeth",2,6,false, "", "",88⟩,⟨"Beats",2,7,false, "", "",96⟩,⟨"Calendar",29,8,false, "", "",104⟩,⟨"Cam",30,12,false, "", "",176⟩,⟨"Strike",2,13,false, "", "",200⟩],14,208, .agg #[.string ⟨#[]⟩, .slice none 0 0, .slice none 0 0, .int .i64 0, .int .i64 0, .int .i64 0, .int .i64 0, .int .i64 0, .string ⟨#[]⟩, .slice none 0 0, .slice none 0 0, .int .i64 0, .slice none 0 0, .int .i64 0]⟩ := cC (by kernel_rfl)
theorem bAp : kV Tryz.prog 34 ⟨.struct #[⟨"Year",2,0,false, "", "",0⟩,⟨"Month",2,1,false, "", "",8⟩,⟨"Day",2,2,false, "", "",16⟩],3,24, .agg #[.int .i64 0, .int .i64 0, .int .i64 0]⟩ := cC (by kernel_rfl)
theorem bAq : kV Tryz.prog 36 ⟨.struct #[⟨"Cam",30,0,false, "", "",0⟩,⟨"Months",2,1,false, "", "",24⟩,⟨"Teeth",2,2,false, "", "",32⟩,⟨"At",2,3,false, "", "",40⟩,⟨"Day",2,4,false, "", "",48⟩,⟨"Week",2,5,false, "", "",56⟩,⟨"Weekday",2,6,false, "", "",64⟩],7,72, .agg #[.slice none 0 0, .int .i64 0, .int .i64 0, .int .i64 0, .int .i64 0, .int .i64 0, .int .i64 0]⟩ := cC (by kernel_rfl)
theorem bAr : kV Tryz.prog 38 ⟨.struct #[⟨"Movement",32,0,false, "", "",0⟩,⟨"Start",34,14,false, "", "",208⟩,⟨"First",2,17,false, "", "",232⟩,⟨"Clock",2,18,false, "", "",240⟩,⟨"Dial",36,19,false, "", "",248⟩],26,320, .agg #[.string ⟨#[]⟩, .slice none 0 0, .slice none 0 0, .int .i64 0, .int .i64 0, .int .i64 0, .int .i64 0, .int .i64 0, .string ⟨#[]⟩, .slice none 0 0, .slice none 0 0, .int .i64 0, .slice none 0 0, .int .i64 0, .int .i64 0, .int .i64 0, .int .i64 0, .int .i64 0, .int .i64 0, .slice none 0 0, .int .i64 0, .int .i64 0, .int .i64 0, .int .i64 0, .int .i64 0, .int .i64 0]⟩ := cC (by kernel_rfl)
theorem bAs : kV Tryz.prog 40 ⟨.struct #[⟨"Sim",38,0,false, "", "",0⟩],26,320, .agg #[.string ⟨#[]⟩, .slice none 0 0, .slice none 0 0, .int .i64 0, .int .i64 0, .int .i64 0, .int .i64 0, .int .i64 0, .string ⟨#[]⟩, .slice none 0 0, .slice none 0 0, .int .i64 0, .slice none 0 0, .int .i64 0, .int .i64 0, .int .i64 0, .int .i64 0, .int .i64 0, .int .i64 0, .slice none 0 0, .int .i64 0, .int .i64 0, .int .i64 0, .int .i64 0, .int .i64 0, .int .i64 0]⟩ := cC (by kernel_rfl)
theorem bAt : kV Tryz.prog 62 ⟨.struct #[⟨"Name",9,0,false, "", "",0⟩,⟨"Days",2,1,false, "", "",16⟩,⟨"Leap",2,2,false, "", "",24⟩],3,32, .agg #[.string ⟨#[]⟩, .int .i64 0, .int .i64 0]⟩ := cC (by kernel_rfl)
theorem bAu : kV Tryz.prog 66 ⟨.struct #[⟨"Every",2,0,false, "", "",0⟩,⟨"Rest",2,1,false, "", "",8⟩,⟨"Leap",4,2,false, "", "",16⟩],3,24, .agg #[.int .i64 0, .int .i64 0, .bool false]⟩ := cC (by kernel_rfl)
theorem bAv:kV Tryz.prog 67 ⟨.slice 9,1,24, .slice none 0 0⟩:=cC (by kernel_rfl)
theorem bAw : kV Tryz.prog 75 ⟨.struct #[⟨"Num",2,0,false, "", "",0⟩,⟨"Den",2,1,false, "", "",8⟩],2,16, .agg #[.int .i64 0, .int .i64 0]⟩ := cC (by kernel_rfl)
theorem bAx:kV Tryz.prog 78 ⟨.slice 86,1,24, .slice none 0 0⟩:=cC (by kernel_rfl)
theorem bAy : kV Tryz.prog 80 ⟨.struct #[⟨"Train",78,0,false, "", "",0⟩,⟨"Error",75,1,false, "", "",24⟩],3,40, .agg #[.slice none 0 0, .int .i64 0, .int .i64 0]⟩ := cC (by kernel_rfl)
theorem bAz : kV Tryz.prog 84 ⟨.struct #[⟨"LowDriver",2,0,false, "", "",0⟩,⟨"HighDriver",2,1,false, "", "",8⟩,⟨"LowDriven",2,2,false, "", "",16⟩,⟨"HighDriven",2,3,false, "", "",24⟩,⟨"Stages",2,4,false, "", "",32⟩],5,40, .agg #[.int .i64 0, .int .i64 0, .int .i64 0, .int .i64 0, .int .i64 0]⟩ := cC (by kernel_rfl)
theorem bA0 : kV Tryz.prog 86 ⟨.struct #[⟨"Driver",2,0,false, "", "",0⟩,⟨"Driven",2,1,false, "", "",8⟩],2,16, .agg #[.int .i64 0, .int .i64 0]⟩ := cC (by kernel_rfl)
theorem bA1 : kV Tryz.prog 88 ⟨.struct #[⟨"Name",9,0,false, "", "",0⟩,⟨"Wheels",30,1,false, "", "",16⟩],2,40, .agg #[.string ⟨#[]⟩, .slice none 0 0]⟩ := cC (by kernel_rfl)
theorem bA2 : kV Tryz.prog 90 ⟨.struct #[⟨"A",2,0,false, "", "",0⟩,⟨"WheelA",2,1,false, "", "",8⟩,⟨"B",2,2,false, "", "",16⟩,⟨"WheelB",2,3,false, "", "",24⟩],4,32, .agg #[.int .i64 0, .int .i64 0, .int .i64 0, .int .i64 0]⟩ := cC (by kernel_rfl)
theorem aYu:kV Tryz.prog 104 ⟨.pointer 29,1,8, .pointer none⟩:=cC (by kernel_rfl)
theorem aYv:kV Tryz.prog 111 ⟨.pointer 32,1,8, .pointer none⟩:=cC (by kernel_rfl)
theorem aYw:kV Tryz.prog 118 ⟨.slice 5,1,24, .slice none 0 0⟩:=cC (by kernel_rfl)
theorem aYx:kV Tryz.prog 132 ⟨.slice 75,1,24, .slice none 0 0⟩:=cC (by kernel_rfl)
theorem aYy:kV Tryz.prog 154 ⟨.int .u64,1,8, .int .u64 0⟩:=cC (by kernel_rfl)
theorem aYz:kV Tryz.prog 158 ⟨.pointer 84,1,8, .pointer none⟩:=cC (by kernel_rfl)
theorem aY0:kV Tryz.prog 161 ⟨.pointer 25,1,8, .pointer none⟩:=cC (by kernel_rfl)
theorem aY1:kV Tryz.prog 169 ⟨.slice 204,1,24, .slice none 0 0⟩:=cC (by kernel_rfl)
theorem aY2:kV Tryz.prog 172 ⟨.map 2 184,1,8, .map none⟩:=cC (by kernel_rfl)
theorem aY3 : kV Tryz.prog 174 ⟨.struct #[⟨"products",30,0,false, "", "loop.example/g00921/impl",0⟩,⟨"lists",172,1,false, "", "loop.example/g00921/impl",24⟩],2,32, .agg #[.slice none 0 0, .map none]⟩ := cC (by kernel_rfl)
theorem aY4:kV Tryz.prog 176 ⟨.slice 181,1,24, .slice none 0 0⟩:=cC (by kernel_rfl)
theorem aY5 : kV Tryz.prog 181 ⟨.struct #[⟨"p",2,0,false, "", "loop.example/g00921/impl",0⟩,⟨"q",2,1,false, "", "loop.example/g00921/impl",8⟩,⟨"far",2,2,false, "", "loop.example/g00921/impl",16⟩],3,24, .agg #[.int .i64 0, .int .i64 0, .int .i64 0]⟩ := cC (by kernel_rfl)
theorem aY6:kV Tryz.prog 184 ⟨.slice 30,1,24, .slice none 0 0⟩:=cC (by kernel_rfl)
theorem aY7 : kV Tryz.prog 204 ⟨.struct #[⟨"Year",2,0,false, "", "",0⟩,⟨"Month",2,1,false, "", "",8⟩,⟨"Shown",2,2,false, "", "",16⟩,⟨"Right",2,3,false, "", "",24⟩],4,32, .agg #[.int .i64 0, .int .i64 0, .int .i64 0, .int .i64 0]⟩ := cC (by kernel_rfl)
theorem aY8:kV Tryz.prog 210 ⟨.pointer 88,1,8, .pointer none⟩:=cC (by kernel_rfl)
theorem aY9:kV Tryz.prog 214 ⟨.slice 4,1,24, .slice none 0 0⟩:=cC (by kernel_rfl)
theorem aZa:kV Tryz.prog 221 ⟨.int .u64,1,8, .int .u64 0⟩:=cC (by kernel_rfl)
theorem aZb:kV Tryz.prog 233 ⟨.slice 240,1,24, .slice none 0 0⟩:=cC (by kernel_rfl)
theorem aZc:kV Tryz.prog 236 ⟨.pointer 238,1,8, .pointer none⟩:=cC (by kernel_rfl)
theorem aZd : kV Tryz.prog 238 ⟨.struct #[⟨"driver",2,0,false, "", "loop.example/g00921/spec",0⟩,⟨"driven",2,1,false, "", "loop.example/g00921/spec",8⟩,⟨"off",2,2,false, "", "loop.example/g00921/spec",16⟩,⟨"train",78,3,false, "", "loop.example/g00921/spec",24⟩],4,48, .agg #[.int .i64 0, .int .i64 0, .int .i64 0, .slice none 0 0]⟩ := cC (by kernel_rfl)
theorem aZe : kV Tryz.prog 240 ⟨.struct #[⟨"value",2,0,false, "", "loop.example/g00921/spec",0⟩,⟨"teeth",30,1,false, "", "loop.example/g00921/spec",8⟩],2,32, .agg #[.int .i64 0, .slice none 0 0]⟩ := cC (by kernel_rfl)
theorem aZf:kV Tryz.prog 243 ⟨.pointer 240,1,8, .pointer none⟩:=cC (by kernel_rfl)
theorem aZg:kV Tryz.prog 248 ⟨.array 24 5,24,24, .agg #[.int .u8 0, .int .u8 0, .int .u8 0, .int .u8 0, .int .u8 0, .int .u8 0, .int .u8 0, .int .u8 0, .int .u8 0, .int .u8 0, .int .u8 0, .int .u8 0, .int .u8 0, .int .u8 0, .int .u8 0, .int .u8 0, .int .u8 0, .int .u8 0, .int .u8 0, .int .u8 0, .int .u8 0, .int .u8 0, .int .u8 0, .int .u8 0]⟩:=cC (by kernel_rfl)
theorem aZh:kV Tryz.prog 255 ⟨.slice 3,1,24, .slice none 0 0⟩:=cC (by kernel_rfl)
theorem aZi:kV Tryz.prog 262 ⟨.array 20 154,20,160, .agg #[.int .u64 0, .int .u64 0, .int .u64 0, .int .u64 0, .int .u64 0, .int .u64 0, .int .u64 0, .int .u64 0, .int .u64 0, .int .u64 0, .int .u64 0, .int .u64 0, .int .u64 0, .int .u64 0, .int .u64 0, .int .u64 0, .int .u64 0, .int .u64 0, .int .u64 0, .int .u64 0]⟩:=cC (by kernel_rfl)
theorem aZj:kV Tryz.prog 263 ⟨.int .u32,1,4, .int .u32 0⟩:=cC (by kernel_rfl)
theorem aZk:kV Tryz.prog 264 ⟨.array 65 5,65,65, .agg #[.int .u8 0, .int .u8 0, .int .u8 0, .int .u8 0, .int .u8 0, .int .u8 0, .int .u8 0, .int .u8 0, .int .u8 0, .int .u8 0, .int .u8 0, .int .u8 0, .int .u8 0, .int .u8 0, .int .u8 0, .int .u8 0, .int .u8 0, .int .u8 0, .int .u8 0, .int .u8 0, .int .u8 0, .int .u8 0, .int .u8 0, .int .u8 0, .int .u8 0, .int .u8 0, .int .u8 0, .int .u8 0, .int .u8 0, .int .u8 0, .int .u8 0, .int .u8 0, .int .u8 0, .int .u8 0, .int .u8 0, .int .u8 0, .int .u8 0, .int .u8 0, .int .u8 0, .int .u8 0, .int .u8 0, .int .u8 0, .int .u8 0, .int .u8 0, .int .u8 0, .int .u8 0, .int .u8 0, .int .u8 0, .int .u8 0, .int .u8 0, .int .u8 0, .int .u8 0, .int .u8 0, .int .u8 0, .int .u8 0, .int .u8 0, .int .u8 0, .int .u8 0, .int .u8 0, .int .u8 0, .int .u8 0, .int .u8 0, .int .u8 0, .int .u8 0, .int .u8 0]⟩:=cC (by kernel_rfl)
theorem aZl:kV Tryz.prog 267 ⟨.int .i64,1,8, .int .i64 0⟩:=cC (by kernel_rfl)
theorem aZm:kV Tryz.prog 275 ⟨.int .u64,1,8, .int .u64 0⟩:=cC (by kernel_rfl)
theorem aZn:kV Tryz.prog 279 ⟨.pointer 3,1,8, .pointer none⟩:=cC (by kernel_rfl)
theorem aZo:kV Tryz.prog 281 ⟨.array 32 5,32,32, .agg #[.int .u8 0, .int .u8 0, .int .u8 0, .int .u8 0, .int .u8 0, .int .u8 0, .int .u8 0, .int .u8 0, .int .u8 0, .int .u8 0, .int .u8 0, .int .u8 0, .int .u8 0, .int .u8 0, .int .u8 0, .int .u8 0, .int .u8 0, .int .u8 0, .int .u8 0, .int .u8 0, .int .u8 0, .int .u8 0, .int .u8 0, .int .u8 0, .int .u8 0, .int .u8 0, .int .u8 0, .int .u8 0, .int .u8 0, .int .u8 0, .int .u8 0, .int .u8 0]⟩:=cC (by kernel_rfl)
theorem aZp:kV Tryz.prog 282 ⟨.array 64 5,64,64, .agg #[.int .u8 0, .int .u8 0, .int .u8 0, .int .u8 0, .int .u8 0, .int .u8 0, .int .u8 0, .int .u8 0, .int .u8 0, .int .u8 0, .int .u8 0, .int .u8 0, .int .u8 0, .int .u8 0, .int .u8 0, .int .u8 0, .int .u8 0, .int .u8 0, .int .u8 0, .int .u8 0, .int .u8 0, .int .u8 0, .int .u8 0, .int .u8 0, .int .u8 0, .int .u8 0, .int .u8 0, .int .u8 0, .int .u8 0, .int .u8 0, .int .u8 0, .int .u8 0, .int .u8 0, .int .u8 0, .int .u8 0, .int .u8 0, .int .u8 0, .int .u8 0, .int .u8 0, .int .u8 0, .int .u8 0, .int .u8 0, .int .u8 0, .int .u8 0, .int .u8 0, .int .u8 0, .int .u8 0, .int .u8 0, .int .u8 0, .int .u8 0, .int .u8 0, .int .u8 0, .int .u8 0, .int .u8 0, .int .u8 0, .int .u8 0, .int .u8 0, .int .u8 0, .int .u8 0, .int .u8 0, .int .u8 0, .int .u8 0, .int .u8 0, .int .u8 0]⟩:=cC (by kernel_rfl)
theorem aZq:kV Tryz.prog 283 ⟨.pointer 275,1,8, .pointer none⟩:=cC (by kernel_rfl)
theorem aZr:kV Tryz.prog 294 ⟨.int .u8,1,1, .int .u8 0⟩:=cC (by kernel_rfl)
def tt : Tab := kY (kY (kY (kY (kY (kY (kY (kY (kY (kY (kY (kY (kY (kY (kY (kY (kY (kY (kY (kY (kY (kY (kY (kY (kY (kY (kY (kY (kY (kY (kY (kY (kY (kY (kY (kY (kY (kY (kY (kY (kY (kY (kY (kY (kY (kY (kY (kY (kY (kY (kY (kY (kY (kY (kY (kY (kY (kY (kY (kY (kY (kY (kY (kY (kY (kY (kY (kY (kY (kY (kY ((fun _ => none)) 2 ⟨.int .i64,1,8, .int .i64 0⟩) 3 ⟨.int .i64,1,8, .int .i64 0⟩) 4 ⟨.bool,1,1, .bool false⟩) 5 ⟨.int .u8,1,1, .int .u8 0⟩) 6 ⟨.int .u8,1,1, .int .u8 0⟩) 8 ⟨.struct #[⟨"x",2,0,false, "", "runtime",0⟩,⟨"y",3,1,false, "", "runtime",8⟩,⟨"signed",4,2,false, "", "runtime",16⟩,⟨"code",6,3,false, "", "runtime",17⟩],4,24, .agg #[.int .i64 0, .int .i64 0, .bool false, .int .u8 0]⟩) 9 ⟨.string,1,16, .string ⟨#[]⟩⟩) 10 ⟨.string,1,16, .string ⟨#[]⟩⟩) 11 ⟨.string,1,16, .string ⟨#[]⟩⟩) 12 ⟨.int .u64,1,8, .int .u64 0⟩) 14 ⟨.struct #[⟨"msg",9,0,false, "", "runtime",0⟩,⟨"addr",12,1,false, "", "runtime",16⟩],2,24, .agg #[.string ⟨#[]⟩, .int .u64 0]⟩) 15 ⟨.pointer 288,1,8, .pointer none⟩) 16 ⟨.pointer 291,1,8, .pointer none⟩) 17 ⟨.pointer 300,1,8, .pointer none⟩) 19 ⟨.struct #[⟨"typ",17,0,false, "", "internal/runtime/maps",0⟩],1,8, .agg #[.pointer none]⟩) 22 ⟨.slice 88,1,24, .slice none 0 0⟩) 23 ⟨.slice 90,1,24, .slice none 0 0⟩) 25 ⟨.struct #[⟨"Arbors",22,0,false, "", "",0⟩,⟨"Meshes",23,1,false, "", "",24⟩],2,48, .agg #[.slice none 0 0, .slice none 0 0]⟩) 26 ⟨.slice 62,1,24, .slice none 0 0⟩) 27 ⟨.slice 66,1,24, .slice none 0 0⟩) 29 ⟨.struct #[⟨"Name",9,0,false, "", "",0⟩,⟨"Months",26,1,false, "", "",16⟩,⟨"Rules",27,2,false, "", "",40⟩,⟨"Week",2,3,false, "", "",64⟩],4,72, .agg #[.string ⟨#[]⟩, .slice none 0 0, .slice none 0 0, .int .i64 0]⟩) 30 ⟨.slice 2,1,24, .slice none 0 0⟩) 32 ⟨.struct #[⟨"Name",9,0,false, "", "",0⟩,⟨"Works",25,1,false, "", "",16⟩,⟨"Minute",2,3,false, "", "",64⟩,⟨"Hour",2,4,false, "", "",72⟩,⟨"Escape",2,5,false, "", "",80⟩,⟨"Teeth",2,6,false, "", "",88⟩,⟨"Beats",2,7,false, "", "",96⟩,⟨"Calendar",29,8,false, "", "",104⟩,⟨"Cam",30,12,false, "", "",176⟩,⟨"Strike",2,13,false, "", "",200⟩],14,208, .agg #[.string ⟨#[]⟩, .slice none 0 0, .slice none 0 0, .int .i64 0, .int .i64 0, .int .i64 0, .int .i64 0, .int .i64 0, .string ⟨#[]⟩, .slice none 0 0, .slice none 0 0, .int .i64 0, .slice none 0 0, .int .i64 0]⟩) 34 ⟨.struct #[⟨"Year",2,0,false, "", "",0⟩,⟨"Month",2,1,false, "", "",8⟩,⟨"Day",2,2,false, "", "",16⟩],3,24, .agg #[.int .i64 0, .int .i64 0, .int .i64 0]⟩) 36 ⟨.struct #[⟨"Cam",30,0,false, "", "",0⟩,⟨"Months",2,1,false, "", "",24⟩,⟨"Teeth",2,2,false, "", "",32⟩,⟨"At",2,3,false, "", "",40⟩,⟨"Day",2,4,false, "", "",48⟩,⟨"Week",2,5,false, "", "",56⟩,⟨"Weekday",2,6,false, "", "",64⟩],7,72, .agg #[.slice none 0 0, .int .i64 0, .int .i64 0, .int .i64 0, .int .i64 0, .int .i64 0, .int .i64 0]⟩) 38 ⟨.struct #[⟨"Movement",32,0,false, "", "",0⟩,⟨"Start",34,14,false, "", "",208⟩,⟨"First",2,17,false, "", "",232⟩,⟨"Clock",2,18,false, "", "",240⟩,⟨"Dial",36,19,false, "", "",248⟩],26,320, .agg #[.string ⟨#[]⟩, .slice none 0 0, .slice none 0 0, .int .i64 0, .int .i64 0, .int .i64 0, .int .i64 0, .int .i64 0, .string ⟨#[]⟩, .slice none 0 0, .slice none 0 0, .int .i64 0, .slice none 0 0, .int .i64 0, .int .i64 0, .int .i64 0, .int .i64 0, .int .i64 0, .int .i64 0, .slice none 0 0, .int .i64 0, .int .i64 0, .int .i64 0, .int .i64 0, .int .i64 0, .int .i64 0]⟩) 40 ⟨.struct #[⟨"Sim",38,0,false, "", "",0⟩],26,320, .agg #[.string ⟨#[]⟩, .slice none 0 0, .slice none 0 0, .int .i64 0, .int .i64 0, .int .i64 0, .int .i64 0, .int .i64 0, .string ⟨#[]⟩, .slice none 0 0, .slice none 0 0, .int .i64 0, .slice none 0 0, .int .i64 0, .int .i64 0, .int .i64 0, .int .i64 0, .int .i64 0, .int .i64 0, .slice none 0 0, .int .i64 0, .int .i64 0, .int .i64 0, .int .i64 0, .int .i64 0, .int .i64 0]⟩) 62 ⟨.struct #[⟨"Name",9,0,false, "", "",0⟩,⟨"Days",2,1,false, "", "",16⟩,⟨"Leap",2,2,false, "", "",24⟩],3,32, .agg #[.string ⟨#[]⟩, .int .i64 0, .int .i64 0]⟩) 66 ⟨.struct #[⟨"Every",2,0,false, "", "",0⟩,⟨"Rest",2,1,false, "", "",8⟩,⟨"Leap",4,2,false, "", "",16⟩],3,24, .agg #[.int .i64 0, .int .i64 0, .bool false]⟩) 67 ⟨.slice 9,1,24, .slice none 0 0⟩) 75 ⟨.struct #[⟨"Num",2,0,false, "", "",0⟩,⟨"Den",2,1,false, "", "",8⟩],2,16, .agg #[.int .i64 0, .int .i64 0]⟩) 78 ⟨.slice 86,1,24, .slice none 0 0⟩) 80 ⟨.struct #[⟨"Train",78,0,false, "", "",0⟩,⟨"Error",75,1,false, "", "",24⟩],3,40, .agg #[.slice none 0 0, .int .i64 0, .int .i64 0]⟩) 84 ⟨.struct #[⟨"LowDriver",2,0,false, "", "",0⟩,⟨"HighDriver",2,1,false, "", "",8⟩,⟨"LowDriven",2,2,false, "", "",16⟩,⟨"HighDriven",2,3,false, "", "",24⟩,⟨"Stages",2,4,false, "", "",32⟩],5,40, .agg #[.int .i64 0, .int .i64 0, .int .i64 0, .int .i64 0, .int .i64 0]⟩) 86 ⟨.struct #[⟨"Driver",2,0,false, "", "",0⟩,⟨"Driven",2,1,false, "", "",8⟩],2,16, .agg #[.int .i64 0, .int .i64 0]⟩) 88 ⟨.struct #[⟨"Name",9,0,false, "", "",0⟩,⟨"Wheels",30,1,false, "", "",16⟩],2,40, .agg #[.string ⟨#[]⟩, .slice none 0 0]⟩) 90 ⟨.struct #[⟨"A",2,0,false, "", "",0⟩,⟨"WheelA",2,1,false, "", "",8⟩,⟨"B",2,2,false, "", "",16⟩,⟨"WheelB",2,3,false, "", "",24⟩],4,32, .agg #[.int .i64 0, .int .i64 0, .int .i64 0, .int .i64 0]⟩) 104 ⟨.pointer 29,1,8, .pointer none⟩) 111 ⟨.pointer 32,1,8, .pointer none⟩) 118 ⟨.slice 5,1,24, .slice none 0 0⟩) 132 ⟨.slice 75,1,24, .slice none 0 0⟩) 154 ⟨.int .u64,1,8, .int .u64 0⟩) 158 ⟨.pointer 84,1,8, .pointer none⟩) 161 ⟨.pointer 25,1,8, .pointer none⟩) 169 ⟨.slice 204,1,24, .slice none 0 0⟩) 172 ⟨.map 2 184,1,8, .map none⟩) 174 ⟨.struct #[⟨"products",30,0,false, "", "loop.example/g00921/impl",0⟩,⟨"lists",172,1,false, "", "loop.example/g00921/impl",24⟩],2,32, .agg #[.slice none 0 0, .map none]⟩) 176 ⟨.slice 181,1,24, .slice none 0 0⟩) 181 ⟨.struct #[⟨"p",2,0,false, "", "loop.example/g00921/impl",0⟩,⟨"q",2,1,false, "", "loop.example/g00921/impl",8⟩,⟨"far",2,2,false, "", "loop.example/g00921/impl",16⟩],3,24, .agg #[.int .i64 0, .int .i64 0, .int .i64 0]⟩) 184 ⟨.slice 30,1,24, .slice none 0 0⟩) 204 ⟨.struct #[⟨"Year",2,0,false, "", "",0⟩,⟨"Month",2,1,false, "", "",8⟩,⟨"Shown",2,2,false, "", "",16⟩,⟨"Right",2,3,false, "", "",24⟩],4,32, .agg #[.int .i64 0, .int .i64 0, .int .i64 0, .int .i64 0]⟩) 210 ⟨.pointer 88,1,8, .pointer none⟩) 214 ⟨.slice 4,1,24, .slice none 0 0⟩) 221 ⟨.int .u64,1,8, .int .u64 0⟩) 233 ⟨.slice 240,1,24, .slice none 0 0⟩) 236 ⟨.pointer 238,1,8, .pointer none⟩) 238 ⟨.struct #[⟨"driver",2,0,false, "", "loop.example/g00921/spec",0⟩,⟨"driven",2,1,false, "", "loop.example/g00921/spec",8⟩,⟨"off",2,2,false, "", "loop.example/g00921/spec",16⟩,⟨"train",78,3,false, "", "loop.example/g00921/spec",24⟩],4,48, .agg #[.int .i64 0, .int .i64 0, .int .i64 0, .slice none 0 0]⟩) 240 ⟨.struct #[⟨"value",2,0,false, "", "loop.example/g00921/spec",0⟩,⟨"teeth",30,1,false, "", "loop.example/g00921/spec",8⟩],2,32, .agg #[.int .i64 0, .slice none 0 0]⟩) 243 ⟨.pointer 240,1,8, .pointer none⟩) 248 ⟨.array 24 5,24,24, .agg #[.int .u8 0, .int .u8 0, .int .u8 0, .int .u8 0, .int .u8 0, .int .u8 0, .int .u8 0, .int .u8 0, .int .u8 0, .int .u8 0, .int .u8 0, .int .u8 0, .int .u8 0, .int .u8 0, .int .u8 0, .int .u8 0, .int .u8 0, .int .u8 0, .int .u8 0, .int .u8 0, .int .u8 0, .int .u8 0, .int .u8 0, .int .u8 0]⟩) 255 ⟨.slice 3,1,24, .slice none 0 0⟩) 262 ⟨.array 20 154,20,160, .agg #[.int .u64 0, .int .u64 0, .int .u64 0, .int .u64 0, .int .u64 0, .int .u64 0, .int .u64 0, .int .u64 0, .int .u64 0, .int .u64 0, .int .u64 0, .int .u64 0, .int .u64 0, .int .u64 0, .int .u64 0, .int .u64 0, .int .u64 0, .int .u64 0, .int .u64 0, .int .u64 0]⟩) 263 ⟨.int .u32,1,4, .int .u32 0⟩) 264 ⟨.array 65 5,65,65, .agg #[.int .u8 0, .int .u8 0, .int .u8 0, .int .u8 0, .int .u8 0, .int .u8 0, .int .u8 0, .int .u8 0, .int .u8 0, .int .u8 0, .int .u8 0, .int .u8 0, .int .u8 0, .int .u8 0, .int .u8 0, .int .u8 0, .int .u8 0, .int .u8 0, .int .u8 0, .int .u8 0, .int .u8 0, .int .u8 0, .int .u8 0, .int .u8 0, .int .u8 0, .int .u8 0, .int .u8 0, .int .u8 0, .int .u8 0, .int .u8 0, .int .u8 0, .int .u8 0, .int .u8 0, .int .u8 0, .int .u8 0, .int .u8 0, .int .u8 0, .int .u8 0, .int .u8 0, .int .u8 0, .int .u8 0, .int .u8 0, .int .u8 0, .int .u8 0, .int .u8 0, .int .u8 0, .int .u8 0, .int .u8 0, .int .u8 0, .int .u8 0, .int .u8 0, .int .u8 0, .int .u8 0, .int .u8 0, .int .u8 0, .int .u8 0, .int .u8 0, .int .u8 0, .int .u8 0, .int .u8 0, .int .u8 0, .int .u8 0, .int .u8 0, .int .u8 0, .int .u8 0]⟩) 267 ⟨.int .i64,1,8, .int .i64 0⟩) 275 ⟨.int .u64,1,8, .int .u64 0⟩) 279 ⟨.pointer 3,1,8, .pointer none⟩) 281 ⟨.array 32 5,32,32, .agg #[.int .u8 0, .int .u8 0, .int .u8 0, .int .u8 0, .int .u8 0, .int .u8 0, .int .u8 0, .int .u8 0, .int .u8 0, .int .u8 0, .int .u8 0, .int .u8 0, .int .u8 0, .int .u8 0, .int .u8 0, .int .u8 0, .int .u8 0, .int .u8 0, .int .u8 0, .int .u8 0, .int .u8 0, .int .u8 0, .int .u8 0, .int .u8 0, .int .u8 0, .int .u8 0, .int .u8 0, .int .u8 0, .int .u8 0, .int .u8 0, .int .u8 0, .int .u8 0]⟩) 282 ⟨.array 64 5,64,64, .agg #[.int .u8 0, .int .u8 0, .int .u8 0, .int .u8 0, .int .u8 0, .int .u8 0, .int .u8 0, .int .u8 0, .int .u8 0, .int .u8 0, .int .u8 0, .int .u8 0, .int .u8 0, .int .u8 0, .int .u8 0, .int .u8 0, .int .u8 0, .int .u8 0, .int .u8 0, .int .u8 0, .int .u8 0, .int .u8 0, .int .u8 0, .int .u8 0, .int .u8 0, .int .u8 0, .int .u8 0, .int .u8 0, .int .u8 0, .int .u8 0, .int .u8 0, .int .u8 0, .int .u8 0, .int .u8 0, .int .u8 0, .int .u8 0, .int .u8 0, .int .u8 0, .int .u8 0, .int .u8 0, .int .u8 0, .int .u8 0, .int .u8 0, .int .u8 0, .int .u8 0, .int .u8 0, .int .u8 0, .int .u8 0, .int .u8 0, .int .u8 0, .int .u8 0, .int .u8 0, .int .u8 0, .int .u8 0, .int .u8 0, .int .u8 0, .int .u8 0, .int .u8 0, .int .u8 0, .int .u8 0, .int .u8 0, .int .u8 0, .int .u8 0, .int .u8 0]⟩) 283 ⟨.pointer 275,1,8, .pointer none⟩) 294 ⟨.int .u8,1,1, .int .u8 0⟩
theorem tok:TOk Tryz.prog tt:=(cA (cA (cA (cA (cA (cA (cA (cA (cA (cA (cA (cA (cA (cA (cA (cA (cA (cA (cA (cA (cA (cA (cA (cA (cA (cA (cA (cA (cA (cA (cA (cA (cA (cA (cA (cA (cA (cA (cA (cA (cA (cA (cA (cA (cA (cA (cA (cA (cA (cA (cA (cA (cA (cA (cA (cA (cA (cA (cA (cA (cA (cA (cA (cA (cA (cA (cA (cA (cA (cA (cA (aWl _) ty2) ty3) ty4) ty5) ty6) ty8) ty9) aZ9) bAa) bAb) bAc) bAd) bAe) bAf) bAg) bAh) bAi) bAj) bAk) bAl) bAm) bAn) bAo) bAp) bAq) bAr) bAs) bAt) bAu) bAv) bAw) bAx) bAy) bAz) bA0) bA1) bA2) aYu) aYv) aYw) aYx) aYy) aYz) aY0) aY1) aY2) aY3) aY4) aY5) aY6) aY7) aY8) aY9) aZa) aZb) aZc) aZd) aZe) aZf) aZg) aZh) aZi) aZj) aZk) aZl) aZm) aZn) aZo) aZp) aZq) aZr)
theorem follows:Tryz.prog.follows .mixedOrders=true:=by kernel_rfl
end Go.Proofs.YtceknlcbfomdhaaGreatDoor
namespace Go.Proofs
open Go.Shelf
def Tryz.layLaysMn173_ren:Go.Shelf.Ren:=⟨fun | 173=>126 | 246=>178 | 283=>207 | 284=>208 | 285=>209 | 286=>210 | 129=>221 | 317=>220 | 318=>222 | 319=>223 | 320=>224 | 337=>238 | 338=>239 | n=>n,fun | 2=>2 | 3=>3 | 9=>9 | 4=>4 | 171=>248 | 0=>0 | 53=>154 | 37=>118 | 5=>5 | 173=>251 | 212=>262 | 51=>263 | 20=>20 | 213=>264 | 46=>221 | 232=>281 | 233=>282 | n=>n,fun | 17=>0 | 18=>1 | 19=>2 | n=>n⟩
theorem Tryz.layLaysMn173:Go.Proofs.LaysM.n173 Tryz.prog Tryz.layLaysMn173_ren:={
 mixed:=by kernel_rfl
 f129:=Tryz.func221.trans (congrArg some (by kernel_rfl))
 f173:=Tryz.func126.trans (congrArg some (by kernel_rfl))
 f246:=Tryz.func178.trans (congrArg some (by kernel_rfl))
 f283:=Tryz.func207.trans (congrArg some (by kernel_rfl))
 f284:=Tryz.func208.trans (congrArg some (by kernel_rfl))
 f285:=Tryz.func209.trans (congrArg some (by kernel_rfl))
 f286:=Tryz.func210.trans (congrArg some (by kernel_rfl))
 f317:=Tryz.func220.trans (congrArg some (by kernel_rfl))
 f318:=Tryz.func222.trans (congrArg some (by kernel_rfl))
 f319:=Tryz.func223.trans (congrArg some (by kernel_rfl))
 f320:=Tryz.func224.trans (congrArg some (by kernel_rfl))
 f337:=Tryz.func238.trans (congrArg some (by kernel_rfl))
 f338:=Tryz.func239.trans (congrArg some (by kernel_rfl))
 t0:=Tryz.underlying0
 a0:=Tryz.isAgg0
 z0:=Tryz.sizeOf0
 v0:=Tryz.zeroValue0
 t2:=Tryz.underlying2
 a2:=Tryz.isAgg2
 z2:=Tryz.sizeOf2
 v2:=Tryz.zeroValue2
 t3:=Tryz.underlying3
 a3:=Tryz.isAgg3
 z3:=Tryz.sizeOf3
 v3:=Tryz.zeroValue3
 t4:=Tryz.underlying4
 a4:=Tryz.isAgg4
 z4:=Tryz.sizeOf4
 v4:=Tryz.zeroValue4
 t5:=Tryz.underlying5
 a5:=Tryz.isAgg5
 z5:=Tryz.sizeOf5
 v5:=Tryz.zeroValue5
 t9:=Tryz.underlying9
 a9:=Tryz.isAgg9
 z9:=Tryz.sizeOf9
 v9:=Tryz.zeroValue9
 t20:=Tryz.underlying20
 a20:=Tryz.isAgg20
 z20:=Tryz.sizeOf20
 v20:=Tryz.zeroValue20
 t37:=Tryz.underlying118
 a37:=Tryz.isAgg118
 z37:=Tryz.sizeOf118
 v37:=Tryz.zeroValue118
 t46:=Tryz.underlying221
 a46:=Tryz.isAgg221
 z46:=Tryz.sizeOf221
 v46:=Tryz.zeroValue221
 t51:=Tryz.underlying263
 a51:=Tryz.isAgg263
 z51:=Tryz.sizeOf263
 v51:=Tryz.zeroValue263
 t53:=Tryz.underlying154
 a53:=Tryz.isAgg154
 z53:=Tryz.sizeOf154
 v53:=Tryz.zeroValue154
 t171:=Tryz.underlying248
 a171:=Tryz.isAgg248
 z171:=Tryz.sizeOf248
 v171:=Tryz.zeroValue248
 t173:=Tryz.underlying251
 a173:=Tryz.isAgg251
 z173:=Tryz.sizeOf251
 v173:=Tryz.zeroValue251
 t212:=Tryz.underlying262
 a212:=Tryz.isAgg262
 z212:=Tryz.sizeOf262
 v212:=Tryz.zeroValue262
 t213:=Tryz.underlying264
 a213:=Tryz.isAgg264
 z213:=Tryz.sizeOf264
 t232:=Tryz.underlying281
 a232:=Tryz.isAgg281
 z232:=Tryz.sizeOf281
 v232:=Tryz.zeroValue281
 t233:=Tryz.underlying282
 a233:=Tryz.isAgg282
 z233:=Tryz.sizeOf282
 v233:=Tryz.zeroValue282
 g17:=by kernel_rfl
 g18:=by kernel_rfl
 g19:=by kernel_rfl
 i0:=by kernel_rfl
 i2:=by kernel_rfl
 i3:=by kernel_rfl
 i4:=by kernel_rfl
 i5:=by kernel_rfl
 i9:=by kernel_rfl
 i20:=by kernel_rfl
 i37:=by kernel_rfl
 i46:=by kernel_rfl
 i51:=by kernel_rfl
 i53:=by kernel_rfl
 i171:=by kernel_rfl
 i173:=by kernel_rfl
 i212:=by kernel_rfl
 i232:=by kernel_rfl
 i233:=by kernel_rfl
 m17:=by kernel_rfl
 m18:=by kernel_rfl
 m19:=by kernel_rfl }
end Go.Proofs
namespace Go.Proofs.YtceknlcbfomdhaaGreatDoor
open Go.Shelf Go.RowKit
set_option linter.unusedVariables false
set_option maxRecDepth 100000
theorem aUj : Tryz.prog.globalNamed "internal/strconv.uint64pow10" = some 0 := by kernel_rfl
theorem aUk {W : World} {F : Nat → Prop} (gl : aFc F W) : Lib.TabIs Tryz.prog W "internal/strconv.uint64pow10" .u64 Lib.pow10Tab := by
 obtain ⟨-,t,f,e⟩:=gl (aYr 0 (Lib.pow10Tab.map fun z=>Value.int .u64 z)) (by simp [aTr])
 unfold Lib.TabIs World.var?
 rw [aUj]
 simp [e]
theorem aXu {n:Int} (h0 : -9223372036854775808≤n) (h1:n≤9223372036854775807):FnC Tryz.prog 126 [] [.d (.v (.int .i64 n)), .d (.v (.int .i64 10))] [] (.d (.v (.string ⟨(Lib.itoa n).toArray⟩))) :=
 aVo (v := .string ⟨(Lib.itoa n).toArray⟩) (by kernel_rfl) rfl fun W F gl=>(Any.strconv_FormatInt_10 Tryz.layLaysMn173 n h0 h1 W (aUk gl)).mono (by rintro e w' ⟨rfl,k,os,rfl⟩;exact ⟨rfl,Lib.below_grow _ _ (Nat.le_refl _) _ _⟩)
end Go.Proofs.YtceknlcbfomdhaaGreatDoor
namespace Go.Proofs
open Go.Shelf
def Tryz.laySlLaysMn5_ren:Go.Shelf.Ren:=⟨fun | 5=>180 | 8=>212 | 7=>211 | 19=>234 | 20=>221 | 10=>225 | 11=>226 | 12=>227 | 13=>228 | 14=>229 | 15=>230 | 16=>231 | 17=>232 | 18=>233 | 30=>240 | 31=>241 | 32=>242 | 33=>243 | 34=>244 | 35=>181 | 40=>245 | n=>n,fun | 23=>30 | 25=>2 | 3=>3 | 32=>221 | 22=>30 | 0=>0 | 44=>263 | 46=>154 | 4=>4 | 36=>268 | 35=>267 | 41=>177 | 5=>5 | 9=>9 | 53=>275 | 57=>279 | 63=>283 | 64=>284 | n=>n,fun | n=>n⟩
theorem Tryz.laySlLaysMn5:Go.Proofs.SlLaysM.n5 Tryz.prog Tryz.laySlLaysMn5_ren:={
 mixed:=by kernel_rfl
 f5:=⟨Tryz.f180.name,by decide,Tryz.func180.trans (congrArg some (by kernel_rfl))⟩
 f7:=⟨Tryz.f211.name,by decide,Tryz.func211.trans (congrArg some (by kernel_rfl))⟩
 f8:=Tryz.func212.trans (congrArg some (by kernel_rfl))
 f10:=⟨Tryz.f225.name,by decide,Tryz.func225.trans (congrArg some (by kernel_rfl))⟩
 f11:=⟨Tryz.f226.name,by decide,Tryz.func226.trans (congrArg some (by kernel_rfl))⟩
 f12:=⟨Tryz.f227.name,by decide,Tryz.func227.trans (congrArg some (by kernel_rfl))⟩
 f13:=⟨Tryz.f228.name,by decide,Tryz.func228.trans (congrArg some (by kernel_rfl))⟩
 f14:=⟨Tryz.f229.name,by decide,Tryz.func229.trans (congrArg some (by kernel_rfl))⟩
 f15:=⟨Tryz.f230.name,by decide,Tryz.func230.trans (congrArg some (by kernel_rfl))⟩
 f16:=⟨Tryz.f231.name,by decide,Tryz.func231.trans (congrArg some (by kernel_rfl))⟩
 f17:=⟨Tryz.f232.name,by decide,Tryz.func232.trans (congrArg some (by kernel_rfl))⟩
 f18:=⟨Tryz.f233.name,by decide,Tryz.func233.trans (congrArg some (by kernel_rfl))⟩
 f19:=Tryz.func234.trans (congrArg some (by kernel_rfl))
 f20:=Tryz.func221.trans (congrArg some (by kernel_rfl))
 f30:=⟨Tryz.f240.name,by decide,Tryz.func240.trans (congrArg some (by kernel_rfl))⟩
 f31:=Tryz.func241.trans (congrArg some (by kernel_rfl))
 f32:=Tryz.func242.trans (congrArg some (by kernel_rfl))
 f33:=⟨Tryz.f243.name,by decide,Tryz.func243.trans (congrArg some (by kernel_rfl))⟩
 f34:=⟨Tryz.f244.name,by decide,Tryz.func244.trans (congrArg some (by kernel_rfl))⟩
 f35:=⟨Tryz.f181.name,by decide,Tryz.func181.trans (congrArg some (by kernel_rfl))⟩
 f40:=⟨Tryz.f245.name,by decide,Tryz.func245.trans (congrArg some (by kernel_rfl))⟩
 t0:=Tryz.underlying0
 a0:=Tryz.isAgg0
 z0:=Tryz.sizeOf0
 v0:=Tryz.zeroValue0
 t3:=Tryz.underlying3
 a3:=Tryz.isAgg3
 z3:=Tryz.sizeOf3
 v3:=Tryz.zeroValue3
 t4:=Tryz.underlying4
 a4:=Tryz.isAgg4
 z4:=Tryz.sizeOf4
 v4:=Tryz.zeroValue4
 t5:=Tryz.underlying5
 a5:=Tryz.isAgg5
 z5:=Tryz.sizeOf5
 v5:=Tryz.zeroValue5
 t9:=Tryz.underlying9
 a9:=Tryz.isAgg9
 z9:=Tryz.sizeOf9
 v9:=Tryz.zeroValue9
 t22:=Tryz.underlying30
 a22:=Tryz.isAgg30
 z22:=Tryz.sizeOf30
 v22:=Tryz.zeroValue30
 t23:=Tryz.underlying30
 a23:=Tryz.isAgg30
 z23:=Tryz.sizeOf30
 v23:=Tryz.zeroValue30
 t25:=Tryz.underlying2
 a25:=Tryz.isAgg2
 z25:=Tryz.sizeOf2
 v25:=Tryz.zeroValue2
 t32:=Tryz.underlying221
 a32:=Tryz.isAgg221
 z32:=Tryz.sizeOf221
 v32:=Tryz.zeroValue221
 t35:=Tryz.underlying267
 a35:=Tryz.isAgg267
 z35:=Tryz.sizeOf267
 v35:=Tryz.zeroValue267
 t36:=Tryz.underlying268
 a36:=Tryz.isAgg268
 z36:=Tryz.sizeOf268
 v36:=Tryz.zeroValue268
 t41:=Tryz.underlying177
 a41:=Tryz.isAgg177
 z41:=Tryz.sizeOf177
 v41:=Tryz.zeroValue177
 t44:=Tryz.underlying263
 a44:=Tryz.isAgg263
 z44:=Tryz.sizeOf263
 v44:=Tryz.zeroValue263
 t46:=Tryz.underlying154
 a46:=Tryz.isAgg154
 z46:=Tryz.sizeOf154
 v46:=Tryz.zeroValue154
 t53:=Tryz.underlying275
 a53:=Tryz.isAgg275
 z53:=Tryz.sizeOf275
 v53:=Tryz.zeroValue275
 t57:=Tryz.underlying279
 a57:=Tryz.isAgg279
 z57:=Tryz.sizeOf279
 v57:=Tryz.zeroValue279
 t63:=Tryz.underlying283
 a63:=Tryz.isAgg283
 z63:=Tryz.sizeOf283
 v63:=Tryz.zeroValue283
 t64:=Tryz.underlying284
 a64:=Tryz.isAgg284
 z64:=Tryz.sizeOf284
 v64:=Tryz.zeroValue284 }
end Go.Proofs
namespace Go.Proofs.YtceknlcbfomdhaaGreatDoor
open Go.Shelf Go.RowKit Go.Sort
set_option linter.unusedVariables false
set_option maxRecDepth 100000
end Go.Proofs.YtceknlcbfomdhaaGreatDoor
namespace Go.Proofs.YtceknlcbfomdhaaGreatDoor
open Go.RowKit
set_option linter.unusedVariables false
set_option maxRecDepth 100000
def Row (w:World) (A:Option Addr) (xs:List Value):Prop :=
 xs=[] ∨ ∃ b off,A=some ⟨b,off,none⟩ ∧ ∀ j (h:j<xs.length),w.cell? ⟨b,off+j,none⟩=some xs[j]
section
variable {w w':World} {A:Option Addr} {xs:List Value}
theorem Row.at_ (h:Row w A xs) (hp:0<xs.length) : ∃ b off,A=some ⟨b,off,none⟩∧b<w.heap.size ∧ ∀ j (h:j<xs.length),w.cell? ⟨b,off+j,none⟩=some xs[j]:=by
 rcases h with rfl | ⟨b,off,rfl,hc⟩
 ·simp at hp
 ·refine ⟨b,off,rfl,?_,hc⟩
  have h0:=hc 0 hp
  rcases Nat.lt_or_ge b w.heap.size with hlt | hge
  ·exact hlt
  ·unfold World.cell? at h0
   simp [Array.getElem?_eq_none hge] at h0
theorem Row.keep (h:Row w A xs) (hk : ∀ b o,b<w.heap.size→w'.cell? ⟨b,o,none⟩=w.cell? ⟨b,o,none⟩):Row w' A xs:=by
 rcases Nat.eq_zero_or_pos xs.length with h0 | h0
 ·exact .inl (List.eq_nil_of_length_eq_zero h0)
 ·obtain ⟨b,off,rfl,hb,hc⟩:=h.at_ h0
  exact .inr ⟨b,off,rfl,fun j hj=>(hk _ _ hb).trans (hc j hj)⟩
theorem Row.below (h:Row w A xs) (hb:Below w.heap.size w w'):Row w' A xs:=h.keep fun b o hlt=>hb.cell (p:=⟨b,o,none⟩) hlt
end
def Blk (w:World) (g:Nat) (t:TypeId) (cs:Array Value):Prop:=w.heap[g]? = some (.cells cs t (0,0))
section
variable {w w':World} {g:Nat} {t:TypeId} {cs:Array Value}
theorem Blk.lt (h:Blk w g t cs):g<w.heap.size:=by
 rcases Nat.lt_or_ge g w.heap.size with hlt | hge
 ·exact hlt
 ·unfold Blk at h;rw [Array.getElem?_eq_none hge] at h;cases h
theorem Blk.cell (h:Blk w g t cs) (i:Nat):w.cell? ⟨g,i,none⟩=cs[i]? := cell_of_row w g i cs t (0,0) h
theorem Blk.frozen (h:Blk w g t cs) (i:Nat):w.frozen? ⟨g,i,none⟩=false:=by
 unfold Blk at h
 simp [World.frozen?,h]
theorem Blk.new (w:World) (t:TypeId) (cs:Array Value):Blk (w.alloc (.cells cs t)) w.heap.size t cs:=heap_alloc_new w _
theorem Blk.alloc (h:Blk w g t cs) (o:Obj):Blk (w.alloc o) g t cs:=(Below.heap_alloc w o g h.lt).trans h
theorem Blk.set_ (h:Blk w g t cs) (i:Nat) (u:Value):Blk (w.setCell ⟨g,i,none⟩ u) g t (cs.setIfInBounds i u):=by
 unfold Blk at h ⊢
 simp [World.setCell,Array.getElem?_modify,h]
theorem Blk.far (h:Blk w g t cs) {p:Addr} (hp:g≠p.block) (u:Value):Blk (w.setCell p u) g t cs:=(Below.heap_setCell w p u g hp).trans h
theorem Blk.below {B:Nat} (h:Blk w g t cs) (hb:Below B w w') (hg:g<B):Blk w' g t cs:=(hb.block g hg).trans h
theorem Blk.row (h:Blk w g t cs):Row w (some ⟨g,0,none⟩) cs.toList :=
 .inr ⟨g,0,rfl,fun j hj=>by rw [Nat.zero_add,h.cell,Array.getElem?_eq_getElem (by simpa using hj)];simp⟩
end
section
variable {w w':World} {base size n c:Nat} {e:TypeId} {A:Option Addr} {xs:List Value}
end
def aXk (cs:Array Value) (o:Nat):List Value→Array Value
 | []=>cs
 | v :: vs=>aXk (cs.setIfInBounds o v) (o+1) vs
def aZx (w:World) (g:Nat) (o:Nat):List Value→World
 | []=>w
 | v :: vs=>aZx (w.setCell ⟨g,o,none⟩ v) g (o+1) vs
theorem Blk.put {g:Nat} {t:TypeId} (vs:List Value) : ∀ {w:World} {cs:Array Value} (o:Nat),Blk w g t cs→Blk (aZx w g o vs) g t (aXk cs o vs):=by
 induction vs with
 | nil=>intro w cs o h;exact h
 | cons v vs ih=>intro w cs o h;exact ih (o+1) (h.set_ o v)
theorem aQe {w:World} {a:Addr} {v:Value} (h:w.cell? a=some v):a.block<w.heap.size:=by
 rcases Nat.lt_or_ge a.block w.heap.size with hlt | hge
 ·exact hlt
 ·unfold World.cell? at h
  simp [Array.getElem?_eq_none hge] at h
theorem kf {w w':World} {a:Addr} {v:Value} {b:Bool} (hb:Below w.heap.size w w') (h:w.cell? a=some v) (hf:w.frozen? a=b):w'.frozen? a=b:=(hb.frozen (aQe h)).trans hf
theorem ka {w:World} {a:Addr} {v:Value} {o:Obj} (h:w.cell? a=some v):(w.alloc o).cell? a=some v:=(World.cell?_alloc_lt w o a (aQe h)).trans h
theorem kn (w:World) (t:TypeId) (cs:Array Value) (i:Nat) (v:Value) (h:cs[i]? = some v):(w.alloc (.cells cs t)).cell? ⟨w.heap.size,i,none⟩=some v:=((Blk.new w t cs).cell i).trans h
end Go.Proofs.YtceknlcbfomdhaaGreatDoor
namespace Go.Proofs
open Go.Shelf
def Tryz.laySlLaysNn41_ren:Go.Shelf.Ren:=⟨fun | 41=>82 | n=>n,fun | 22=>30 | 23=>2 | 4=>4 | n=>n,fun | n=>n⟩
theorem Tryz.laySlLaysNn41:Go.Proofs.SlLaysN.n41 Tryz.prog Tryz.laySlLaysNn41_ren:={
 mixed:=by kernel_rfl
 f41:=⟨Tryz.f82.name,by decide,Tryz.func82.trans (congrArg some (by kernel_rfl))⟩
 t4:=Tryz.underlying4
 a4:=Tryz.isAgg4
 z4:=Tryz.sizeOf4
 v4:=Tryz.zeroValue4
 t22:=Tryz.underlying30
 a22:=Tryz.isAgg30
 z22:=Tryz.sizeOf30
 v22:=Tryz.zeroValue30
 t23:=Tryz.underlying2
 a23:=Tryz.isAgg2
 z23:=Tryz.sizeOf2
 v23:=Tryz.zeroValue2
 i23:=by kernel_rfl }
end Go.Proofs
namespace Go.Proofs.YtceknlcbfomdhaaGreatDoor
open Go.Shelf Go.RowKit Go.Sort Go.Maps
set_option linter.unusedVariables false
set_option maxRecDepth 100000
set_option maxHeartbeats 2000000
theorem kX {p:Prop} (h:p):Hid p:=h
theorem aYi:(Tryz.prog.info? 2).map (fun i=>(i.zero,i.size,i.bytes))=some (some (.int .i64 0),1,8):=by kernel_rfl
theorem aYj:(Tryz.prog.info? 30).map (fun i=>(i.zero,i.size,i.bytes))=some (some (.slice none 0 0),1,24):=by kernel_rfl
abbrev aYd (w:World) (base:Nat) (v:Value) (l:List Int):Prop:=aX6 2 w base v l
abbrev aSz (w:World) (base:Nat) (v:Value) (rows:List (List Int)):Prop:=zT 2 30 w base v rows
theorem aQh {w:World} {base:Nat} {x:Value} {l:List Int} (h:aYd w base x l) (hl:l.length≤1000):Calls Tryz.prog 82 #[x] w fun e w' => ∃ v',e = .returned v'∧w'.ownsRow w.heap.size 2 1 v' l.length (l.map (Value.int .i64))∧Below w.heap.size w w':=by
 rcases h.2 with ⟨rfl,h0⟩ | ⟨g,cap,cur,rfl,h1,h2,h3,h4,h5,h6⟩
 ·have:l=[]:=List.eq_nil_of_length_eq_zero h0
  subst this
  refine (AnyG.slices_Clone_int_nil Tryz.laySlLaysNn41 _ _ w).mono ?_
  rintro e w' ⟨rfl,rfl⟩
  exact ⟨_,rfl,World.ownsRow_nil _ _ _ _,Below.refl _ _⟩
 ·have:=AnyG.slices_Clone_int Tryz.laySlLaysNn41 g 0 l.length cap l w (Nat.le_refl _) (by omega) fun j hj=>by
   have q:=congrArg (·[j]?) h6
   simp only [Nat.mul_one,List.getElem?_take_of_lt hj,List.getElem?_map,Array.getElem?_toList] at q
   simp [World.cell?,h2,q,List.getD,hj]
  refine this.mono ?_
  rintro e w' ⟨v',rfl,hrow,_,hb⟩
  rw [List.take_length] at hrow
  exact ⟨v',rfl,hrow,hb⟩
theorem aGk {low high:Int} (k:Nat) : ∀ l ∈ cH low high k,l.length=k:=by
 induction k with
 | zero=>intro l h;simp [cH] at h;subst h;rfl
 | succ k ih =>
  intro l h
  simp only [cH,List.mem_flatMap] at h
  obtain ⟨l',h1,h2⟩:=h
  simp only [zZ,List.mem_map] at h2
  obtain ⟨i,_,rfl⟩:=h2
  simp [ih l' h1]
theorem aHc {low high:Int} (hlow:1≤low) (hh:low≤high) (k:Nat) : ∀ l ∈ cH low high k,low≤qG low l∧qG low l≤high:=by
 induction k with
 | zero=>intro l h;simp [cH] at h;subst h;simp [qG];exact hh
 | succ k ih =>
  intro l h
  simp only [cH,List.mem_flatMap] at h
  obtain ⟨l',h1,h2⟩:=h
  simp only [zZ,List.mem_map,List.mem_range] at h2
  obtain ⟨i,hi,rfl⟩:=h2
  have:=ih l' h1
  unfold qG at hi
  simp only [qG,List.getLast?_append,List.getLast?_singleton,Option.some_or,Option.getD_some] at this ⊢
  omega
theorem aVn {low high:Int} (h1:1≤low) (h2:high≤120) {l:List Int} (h3:low≤qG low l):(zZ low high l).length≤120:=by simp [zZ];omega
theorem aAm {low high:Int} (hlow:1≤low) (hh:low≤high) (hhi:high≤120) (k:Nat):1≤(cH low high k).length∧(cH low high k).length≤120 ^ k:=by
 induction k with
 | zero=>simp [cH]
 | succ k ih =>
  simp only [cH,List.length_flatMap]
  have hf:=aHc hlow hh k
  generalize cH low high k=ls at ih hf
  have key : ∀ ls:List (List Int),(∀ l ∈ ls,low≤qG low l∧qG low l≤high)→ls.length≤(ls.map fun l=>(zZ low high l).length).sum∧(ls.map fun l=>(zZ low high l).length).sum≤120*ls.length:=fun ls=>by
   induction ls with
   | nil=>simp
   | cons a ls ih =>
    intro h
    have h1:=ih fun l hl=>h l (List.mem_cons_of_mem _ hl)
    have h2:=h a (List.mem_cons_self ..)
    have h3:1≤(zZ low high a).length∧(zZ low high a).length≤120:=by simp [zZ];omega
    simp only [List.map_cons,List.sum_cons,List.length_cons]
    omega
  have:=key ls hf
  rw [Nat.pow_succ]
  omega
def Lev (low high:Int) (cnt:Nat) (w1:World) (i v:Value) (wr:World):Prop := ∃ j c:Nat,Hid (c+j=cnt)∧i = .int .i64 (c:Int)∧Hid (aSz wr w1.heap.size v (cH low high j))∧Hid (Below w1.heap.size w1 wr)
def Mid (low high:Int) (wj:World) (ls:List (List Int)) (i v:Value) (wr:World):Prop := ∃ k:Nat,k≤ls.length∧i = .int .i64 (k:Int)∧Hid (aSz wr wj.heap.size v ((ls.take k).flatMap (zZ low high)))∧Hid (Below wj.heap.size wj wr)
def Inn (low high:Int) (wj:World) (rows0:List (List Int)) (l:List Int) (f:Int) (i v:Value) (wr:World):Prop := ∃ m:Nat,f+m≤high+1∧i = .int .i64 (f+m)∧Hid (aSz wr wj.heap.size v (rows0++(List.range m).map fun (i:Nat)=>l++[f+(i:Int)]))∧Hid (Below wj.heap.size wj wr)∧wj.heap.size≤wr.heap.size
theorem aQ6 {low high:Int} {cnt n1:Nat} (w1:World) (hn:n1=w1.heap.size):Lev low high cnt w1 (.int .i64 (cnt:Int)) (.slice (some ⟨n1,0,none⟩) 1 1) (w1.alloc (.cells #[.slice none 0 0] 30)):=by
 subst hn
 refine ⟨0,cnt,kX rfl,rfl,kX ⟨[.slice none 0 0],⟨rfl, .inr ⟨w1.heap.size,1, #[.slice none 0 0],rfl,Nat.le_refl _,heap_alloc_new w1 _,Nat.le_refl _,by unfold maxLen;omega,rfl,rfl⟩⟩,fun i x r h1 h2 => ?_⟩,kX ((Below.refl _ _).alloc (Nat.le_refl _) _)⟩
 match i with
 | 0 =>
  simp [cH] at h1 h2
  subst h1 h2
  exact ⟨World.ownsRow_nil _ _ _ _, .inl rfl,fun _=>rfl⟩
 | i+1=>simp at h1
theorem cell_of_row {w:World} {b e n cap:Nat} {g:Nat} {vals:List Value} (h:w.ownsRow b e 1 (.slice (some ⟨g,0,none⟩) n cap) n vals) {k:Nat} {x:Value} (hx:vals[k]? = some x):w.cell? ⟨g,k,none⟩=some x:=by
 have:=h.cells (g:=g) rfl k x hx
 rwa [show (⟨g,0,none⟩:Addr).add k=⟨g,k,none⟩ from by simp only [Addr.add];split <;> simp_all] at this
theorem aDf {low high:Int} {wj wr:World} {ls:List (List Int)} {k:Nat} {l:List Int} {f:Int} {i v:Value} (hk:k<ls.length) (hl:ls[k]? = some l) (hf:qG low l=f) (hi:i = .int .i64 (high+1)) (h:Inn low high wj ((ls.take k).flatMap (zZ low high)) l f i v wr) :
  Mid low high wj ls (.int .i64 ((k:Int)+1)) v wr:=by
 obtain ⟨m,h1,h2,h3,h4,h5⟩:=h
 refine ⟨k+1,hk,by simp,kX ?_,h4⟩
 have hm:m=(high+1-f).toNat:=by
  rw [hi] at h2
  simp only [Value.int.injEq,true_and] at h2
  omega
 have he:ls[k]=l:=by rw [List.getElem?_eq_getElem hk] at hl;exact Option.some.inj hl
 rw [List.take_succ_eq_append_getElem hk,List.flatMap_append,he]
 have e2:[l].flatMap (zZ low high)=(List.range m).map fun (i:Nat)=>l++[f+(i:Int)]:=by
  simp only [List.flatMap_cons,List.flatMap_nil,List.append_nil,zZ,hf,hm]
 rw [e2]
 exact h3.out
theorem aRz {low high:Int} {ls:List (List Int)} (h1:1≤low) (h2:high≤120) (hls : ∀ l ∈ ls,low≤qG low l) (k:Nat):((ls.take k).flatMap (zZ low high)).length≤120*ls.length:=by
 have key : ∀ ls:List (List Int),(∀ l ∈ ls,low≤qG low l)→(ls.flatMap (zZ low high)).length≤120*ls.length:=fun ls=>by
  induction ls with
  | nil=>simp
  | cons a ls ih =>
   intro h
   have q1:=ih fun l hl=>h l (List.mem_cons_of_mem _ hl)
   have q2:=aVn h1 h2 (h a (List.mem_cons_self ..))
   rw [List.flatMap_cons,List.length_append,List.length_cons]
   omega
 refine Nat.le_trans (key _ fun l hl=>hls l (List.mem_of_mem_take hl)) ?_
 rw [List.length_take]
 omega
theorem aDd {low high:Int} {wj wr w2 w3 w4:World} {rows0:List (List Int)} {l:List Int} {f:Int} {m:Nat} {v vc v1 v2:Value} {vals:List Value} {o o':Obj} (hm:f+m≤high) (hv:aA8 2 30 wr wj.heap.size v (rows0++(List.range m).map fun (i:Nat)=>l++[f+(i:Int)]) vals) (hB:Hid (Below wj.heap.size wj wr)) (hz:wj.heap.size≤wr.heap.size)
  (hb2:Below wr.heap.size wr w2) (hvc:w2.ownsRow wr.heap.size 2 1 vc l.length (l.map (Value.int .i64))) (hg1:(w2.alloc o).grownBy w3 vc.ownBlock) (ho1:w3.ownsRow wr.heap.size 2 1 v1 (l.length+1) (l.map (Value.int .i64)++[.int .i64 (f+m)]))
  (hg2:(w3.alloc o').grownBy w4 v.ownBlock) (ho2:w4.ownsRow wj.heap.size 30 1 v2 ((rows0++(List.range m).map fun (i:Nat)=>l++[f+(i:Int)]).length+1) (vals++[v1])) (hloc:v2.ownBlock=v.ownBlock∨v2.ownBlock=some (w3.alloc o').heap.size) :
  Inn low high wj rows0 l f (.int .i64 (f+m+1)) v2 w4:=by
 obtain ⟨q1,q2,q3⟩:=aXl rfl hB.out hz hv hb2 hvc hg1 ho1 hg2 ho2 hloc
 refine ⟨m+1,by omega,by simp;omega,kX ?_,kX q2,q3⟩
 rw [List.range_succ,List.map_append, ← List.append_assoc]
 exact q1
theorem aTx {low high:Int} {cnt j c k:Nat} {w1 wj wr:World} {v:Value} (hj:c+1+j=cnt) (hk:k=(cH low high j).length) (hN:Hid (aSz wr wj.heap.size v (((cH low high j).take k).flatMap (zZ low high)))) (hB:Hid (Below wj.heap.size wj wr)) (h1:Hid (Below w1.heap.size w1 wj)) :
  Lev low high cnt w1 (.int .i64 (c:Int)) v wr:=by
 refine ⟨j+1,c,kX (by omega),rfl,kX ?_,kX ?_⟩
 ·have:=hN.out
  rw [hk,List.take_length] at this
  exact this.base_ h1.out.size
 ·exact h1.out.trans (hB.out.mono h1.out.size)
theorem aRy {w:World} {b n:Nat} {e:TypeId} {v:Value} {xs:List Value} (h:w.ownsRow b e 1 v n xs):v.oneCell'=true:=by
 rcases h.2 with ⟨rfl,_⟩ | ⟨g,cap,cur,rfl,_⟩ <;> rfl
theorem aEs {w:World} {b n s:Nat} {e:TypeId} {v:Value} {xs:List Value} (h:w.ownsRow b e s v (n+1) xs) : ∃ g cap,v = .slice (some ⟨g,0,none⟩) (n+1) cap:=by
 rcases h.2 with ⟨_,h0⟩ | ⟨g,cap,cur,rfl,_⟩
 ·omega
 ·exact ⟨g,cap,rfl⟩
theorem aQ2 {low:Int} {wj wk:World} {base g cap:Nat} {x:Value} {l:List Int} {f:Int} (hx:x = .slice (some ⟨g,0,none⟩) l.length cap) (hl:l≠[]) (h:aYd wj base x l) (hB:Below wj.heap.size wj wk) (hf:qG low l=f):wk.cell? ⟨g,l.length-1,none⟩=some (.int .i64 f):=by
 subst hx
 have hlt:=(h.lt g rfl).2
 refine (hB.cell (p:=⟨g,l.length-1,none⟩) hlt).trans (cell_of_row h ?_)
 have hp:0<l.length:=List.length_pos_iff.2 hl
 simp only [qG,List.getLast?_eq_getElem?] at hf
 rw [List.getElem?_map,List.getElem?_eq_getElem (show l.length-1<l.length by omega)] at *
 simpa using hf
abbrev aOp (ls:List (List Int)) (vals:List Value) (wB:World) (kp k:Nat) (vP:Value) (val:Int→Value) (wr:World):Prop:=aI0 Tryz.prog 2 2 30 174 ls vals wB wB.heap.size kp k vP val wr
def Grp (ls:List (List Int)) (vals:List Value) (wB:World) (i:Value) (wr:World):Prop := ∃ (k:Nat) (vP:Value) (val:Int→Value),k≤ls.length∧i = .int .i64 (k:Int)∧Hid (aOp ls vals wB k k vP val wr)
theorem aQx {ls:List (List Int)} {vals:List Value} {w:World}:Grp ls vals w (.int .i64 0) ((w.alloc (.map #[] 0)).alloc (.cells #[.slice none 0 0, .map (some w.heap.size)] 174)):=by
 have z:(w.alloc (.map #[] 0)).heap.size=w.heap.size+1:=by simp
 refine ⟨0, .slice none 0 0,fun _ => .slice none 0 0,Nat.zero_le _,rfl,kX ⟨((Below.refl _ _).alloc (Nat.le_refl _) _).alloc (by simp) _,by simp,?_,World.ownsRow_nil _ _ _ _,(aS4 w).same (Below.heap_alloc _ _ _ (by simp)),fun p=>World.ownsRow_nil _ _ _ _,fun p _=>rfl,fun p q _ => .inl rfl,fun p => .inl rfl⟩⟩
 have:=heap_alloc_new (w.alloc (.map #[] 0)) (.cells #[.slice none 0 0, .map (some w.heap.size)] 174)
 rwa [z] at this
theorem aMn : ∀ (l:List Int) (a:Int),l.foldl (· * ·) a=a*dF l
 | [],a=>by simp [dF]
 | x :: l,a=>by
  unfold dF
  rw [List.foldl_cons,List.foldl_cons,aMn l,aMn l (1*x)]
  rw [Int.one_mul,Int.mul_assoc]
theorem aRr (l:List Int) (x:Int):dF (l++[x])=dF l*x:=by unfold dF;rw [List.foldl_append];rfl
theorem aTy {low high:Int} (hlow:1≤low) (hh:low≤high) (k:Nat) : ∀ l ∈ cH low high k, ∀ x ∈ l,low≤x∧x≤high:=by
 induction k with
 | zero=>intro l h x hx;simp [cH] at h;subst h;simp at hx
 | succ k ih =>
  intro l h x hx
  have hm:=h
  simp only [cH,List.mem_flatMap] at h
  obtain ⟨l',h1,h2⟩:=h
  simp only [zZ,List.mem_map,List.mem_range] at h2
  obtain ⟨i,hi,rfl⟩:=h2
  rcases List.mem_append.1 hx with hx | hx
  ·exact ih l' h1 x hx
  ·have:=aHc hlow hh (k+1) _ hm
   simp only [qG,List.getLast?_append,List.getLast?_singleton,Option.some_or,Option.getD_some] at this
   rw [List.mem_singleton.1 hx]
   simpa [qG] using this
theorem aMo {low high:Int} (hlow:1≤low) (hhi:high≤120) : ∀ (l:List Int),(∀ x ∈ l,low≤x∧x≤high)→1≤dF l∧dF l≤120 ^ l.length
 | [],_=>by simp [dF]
 | x :: l,h=>by
  obtain ⟨h1,h2⟩:=aMo hlow hhi l fun y hy=>h y (List.mem_cons_of_mem _ hy)
  have hx:=h x (List.mem_cons_self ..)
  have e:dF (x :: l)=x*dF l:=by
   show l.foldl (· * ·) (1*x)=_
   rw [aMn,Int.one_mul]
  rw [e,List.length_cons,Int.pow_succ]
  constructor
  ·have:=Int.mul_le_mul (show (1:Int)≤x by omega) h1 (by omega) (by omega)
   omega
  ·have:=Int.mul_le_mul (show x≤120 by omega) h2 (by omega) (by omega)
   rwa [Int.mul_comm (120 ^ l.length) 120]
theorem aRs {low high:Int} {l:List Int} {m:Nat} (hlow:1≤low) (hhi:high≤120) (hl : ∀ x ∈ l,low≤x∧x≤high) (h3:l.length≤3) (hm:m<l.length):dF (l.take (m+1))=dF (l.take m)*l.getD m 0∧1≤dF (l.take m)*l.getD m 0∧dF (l.take m)*l.getD m 0≤1728000:=by
 have e:dF (l.take (m+1))=dF (l.take m)*l.getD m 0:=by
  rw [List.take_succ_eq_append_getElem hm,aRr]
  simp [List.getD,hm]
 obtain ⟨h1,h2⟩:=aMo hlow hhi (l.take (m+1)) fun x hx=>hl x (List.mem_of_mem_take hx)
 rw [e] at h1 h2
 refine ⟨e,h1,Int.le_trans h2 ?_⟩
 have:(l.take (m+1)).length≤3:=by rw [List.length_take];omega
 rcases (show (l.take (m+1)).length=0∨(l.take (m+1)).length=1∨(l.take (m+1)).length=2∨(l.take (m+1)).length=3 by omega) with e | e | e | e <;> rw [e] <;> decide
theorem aT7 {low high:Int} {l:List Int} (hlow:1≤low) (hhi:high≤120) (hl : ∀ x ∈ l,low≤x∧x≤high) (h3:l.length≤3):1≤dF l∧dF l≤1728000:=by
 obtain ⟨h1,h2⟩:=aMo hlow hhi l hl
 refine ⟨h1,Int.le_trans h2 ?_⟩
 rcases (show l.length=0∨l.length=1∨l.length=2∨l.length=3 by omega) with e | e | e | e <;> rw [e] <;> decide
def Prd (l:List Int) (w:World) (i v:Value) (wr:World):Prop := ∃ m:Nat,m≤l.length∧i = .int .i64 (m:Int)∧v = .int .i64 (dF (l.take m))∧wr=w
theorem aUn (w:World):(zeroValue 184).run Tryz.prog w = .ok (.slice none 0 0) w:=by kernel_rfl
theorem aQw {ls:List (List Int)} {vals:List Value} {wB wr:World} {k:Nat} {vP:Value} {val:Int→Value} {p:Int} (h:aOp ls vals wB k k vP val wr) (hlv:ls.length=vals.length) (hs:p ∈ gZ (ls.take k)) :
  ∃ gp n cp,val p = .slice (some ⟨gp,0,none⟩) (n+1) cp∧Hid (n+1=(pW (ls.take k) (vals.take k) p).length):=by
 have hne:pW (ls.take k) (vals.take k) p≠[]:=fun e=>(aLb (by simp [hlv])).1 e hs
 have hp:0<(pW (ls.take k) (vals.take k) p).length:=List.length_pos_iff.2 hne
 rcases (h.row p).2 with ⟨_,h0⟩ | ⟨g,cap,cur,h1,_⟩
 ·omega
 ·exact ⟨g,(pW (ls.take k) (vals.take k) p).length-1,cap,by rw [h1];congr 1;omega,kX (by omega)⟩
theorem aHy {ls:List (List Int)} {vals:List Value} {wB wr W:World} {kp k:Nat} {vP v:Value} {val:Int→Value} {p:Int} (h:aOp ls vals wB kp k vP val wr) (hp:InK p) (hv:val p=v) (hW:W.heap[wB.heap.size]? = wr.heap[wB.heap.size]?):(Instr.lookup 172 (.map (some wB.heap.size)) (.int .i64 p) false).run Tryz.prog W = .ok v W:=by
 rw [← hv]
 exact (h.map.same hW).look Tryz.underlying172 Tryz.underlying2 (aUn _) hp
theorem aSn (ls:List (List Int)) (vals:List Value) (p:Int):(pW ls vals p).length≤ls.length:=by
 unfold pW
 rw [List.length_map]
 exact Nat.le_trans (List.length_filter_le _ _) (by rw [List.length_zip];omega)
theorem aNw {ls:List (List Int)} {vals:List Value} {wB wr w7:World} {kp k:Nat} {vP v:Value} {val:Int→Value} {p:Int} {o:Obj} (N:Nat) (h:aOp ls vals wB kp k vP val wr) (hp:InK p) (hv:val p=v) (hg:(wr.alloc o).drew.grownBy w7 v.ownBlock) (hlen:ls.length≤1728000) (hkl:k<ls.length) (g cap:Nat) :
  ∃ w8,(Instr.mapUpdate 172 (.map (some wB.heap.size)) (.int .i64 p) (.slice (some ⟨g,0,none⟩) N cap)).run Tryz.prog w7 = .ok () w8∧w7.cell? ⟨wB.heap.size+1,1,none⟩=some (.map (some wB.heap.size))∧w8.cell? ⟨wB.heap.size+1,1,none⟩=some (.map (some wB.heap.size)) ∧
   Hid (AtV Tryz.prog 2 w8 wB.heap.size (k+1) (fun q=>if q=p then .slice (some ⟨g,0,none⟩) N cap else val q)∧w7.grownBy w8 (some wB.heap.size)):=by
 have hrl : ∀ g,v.ownBlock=some g→wB.heap.size+2≤g:=fun g hg=>((h.row p).lt g (by rw [hv];exact hg)).1
 have hB : ∀ x,x≤wB.heap.size+1→w7.heap[x]? = wr.heap[x]? := fun x hx=>by
  have:=h.sz
  rw [hg.block x (by simp;omega) fun e=>by have:=hrl x e.symm;omega]
  exact Below.heap_alloc wr o x (by omega)
 obtain ⟨w8,h1,h2,h3⟩:=(h.map.same (hB wB.heap.size (by omega))).put Tryz.underlying172 Tryz.underlying2 (by unfold maxLen;omega) hp (.slice (some ⟨g,0,none⟩) N cap)
 have c7:w7.cell? ⟨wB.heap.size+1,1,none⟩=some (.map (some wB.heap.size)):=(World.cell?_of_block (hB _ (Nat.le_refl _))).trans h.c1
 refine ⟨w8,h1,c7,?_,kX ⟨h2,h3⟩⟩
 refine (World.cell?_of_block (h3.block _ ?_ (by simp))).trans c7
 have:=hg.size
 have:=h.sz
 simp at *
 omega
theorem aOf (ls:List (List Int)):(gZ ls).length≤ls.length:=by
 have key : ∀ (ls:List (List Int)) (acc:List Int),(ls.foldl (fun acc l=>if dF l ∈ acc then acc else acc++[dF l]) acc).length≤acc.length+ls.length:=fun ls=>by
  induction ls with
  | nil=>simp
  | cons l ls ih =>
   intro acc
   rw [List.foldl_cons,List.length_cons]
   refine Nat.le_trans (ih _) ?_
   split
   ·omega
   ·simp;omega
 have:=key ls []
 simpa [gZ] using this
theorem aQs {ls:List (List Int)} {vals:List Value} {wB wr w5:World} {kp k:Nat} {vP:Value} {val:Int→Value} {o:Obj} (h:aOp ls vals wB kp k vP val wr) (hg:(wr.alloc o).grownBy w5 vP.ownBlock) :
  w5.cell? ⟨wB.heap.size+1,0,none⟩=some vP∧w5.frozen? ⟨wB.heap.size+1,0,none⟩=false∧w5.heap[wB.heap.size+1]? = some (.cells #[vP, .map (some wB.heap.size)] 174 (0,0)):=by
 have hB:w5.heap[wB.heap.size+1]? = wr.heap[wB.heap.size+1]? := by
  have:=h.sz
  rw [hg.block _ (by simp;omega) fun e=>by have:=(h.prd.lt _ e.symm).1;omega]
  exact Below.heap_alloc wr o _ (by omega)
 refine ⟨(World.cell?_of_block hB).trans h.c0,(World.frozen?_of_block hB).trans h.f0,hB.trans h.cel⟩
theorem aNb {w:World} {b:Nat} {u m v:Value} {T:TypeId} (h:w.heap[b]? = some (.cells #[u,m] T (0,0))):(w.setCell ⟨b,0,none⟩ v).heap=w.heap.setIfInBounds b (.cells #[v,m] T (0,0)):=by
 apply Array.ext_getElem?
 intro i
 by_cases e:i=b
 ·subst e
  have hlt:=(Array.getElem?_eq_some_iff.1 h).1
  rw [Array.getElem?_setIfInBounds_self_of_lt hlt]
  simp [World.setCell,Array.getElem?_modify,h]
 ·rw [Array.getElem?_setIfInBounds_ne (fun q=>e q.symm)]
  simp [World.setCell,Array.getElem?_modify]
  exact fun q=>absurd q.symm e
theorem aTm {ls:List (List Int)} {vals:List Value} {wB wr w5 w6:World} {k:Nat} {vP vP':Value} {val:Int→Value} {p:Int} {l:List Int} {o:Obj} (h:aOp ls vals wB k k vP val wr) (hk:k<ls.length) (hl:ls[k]? = some l) (hp:dF l=p) (hs:p ∉ gZ (ls.take k)) (ho:w5.ownsRow (wB.heap.size+2) 2 1 vP' ((gZ (ls.take k)).length+1) ((gZ (ls.take k)).map (Value.int .i64)++[.int .i64 p]))
  (hg:(wr.alloc o).grownBy w5 vP.ownBlock) (hloc:vP'.ownBlock=vP.ownBlock∨vP'.ownBlock=some (wr.alloc o).heap.size) (hc:w5.heap[wB.heap.size+1]? = some (.cells #[vP, .map (some wB.heap.size)] 174 (0,0))) (hw:w5.setCell ⟨wB.heap.size+1,0,none⟩ vP'=w6) :
  aOp ls vals wB (k+1) k vP' val w6:=by
 subst hp hw
 exact aI0.fresh h hk hl hs ho hg hloc (aNb hc) rfl rfl rfl
theorem aPc {ls:List (List Int)} {vals:List Value} {wB wr:World} {k:Nat} {vP:Value} {val:Int→Value} (h:aOp ls vals wB ls.length k vP val wr) (hp:1≤ls.length) :
  ∃ g N cap,vP = .slice (some ⟨g,0,none⟩) N cap∧Hid (N=(gZ ls).length):=by
 have h1:=h.prd
 rw [List.take_length] at h1
 have hne:0<(gZ ls).length:=by
  have:dF ls[0] ∈ gZ ls:=aK2.2 ⟨ls[0],List.getElem_mem _,rfl⟩
  exact List.length_pos_of_mem this
 rcases h1.2 with ⟨_,h0⟩ | ⟨g,cap,cur,h1,_⟩
 ·omega
 ·exact ⟨g,_,cap,h1,kX rfl⟩
theorem aT8 {ls:List (List Int)} {vals:List Value} {wB wr:World} {k g N cap:Nat} {val:Int→Value} (h:aOp ls vals wB ls.length k (.slice (some ⟨g,0,none⟩) N cap) val wr) (hN:N=(gZ ls).length):wr.ownsRow (wB.heap.size+2) 2 1 (.slice (some ⟨g,0,none⟩) N cap) N ((gZ (ls.take ls.length)).map (Value.int .i64)):=by
 have h1:=h.prd
 rw [List.take_length] at h1 ⊢
 subst hN
 exact h1
theorem aUi {w:World} {b g N cap:Nat} {zs:List Int} (h:w.ownsRow b 2 1 (.slice (some ⟨g,0,none⟩) N cap) N (zs.map (Value.int .i64))) (hz:zs.length≤1728000):Calls Tryz.prog 180 #[.slice (some ⟨g,0,none⟩) N cap] w fun e w'=>e = .returned (.tuple #[])∧w'.ownsRow b 2 1 (.slice (some ⟨g,0,none⟩) N cap) N ((aCy zs).map (Value.int .i64))∧w.grownBy w' (some g):=by
 have hN:N=zs.length:=by have:=h.1;simp at this;omega
 subst hN
 rcases h.2 with ⟨h0,_⟩ | ⟨g',cap',cur,h0,r0,hgb,r1,r2,r3,r4⟩
 ·cases h0
 cases h0
 have hsl:=aE3 zs
 rw [Nat.mul_one] at r4
 have hc:=AnyM.slices_Sort_int Tryz.laySlLaysMn5 g 0 cap zs w (holds_of_blockI hgb r4) (Array.getElem?_eq_some_iff.1 hgb).1 (by omega)
 refine hc.mono ?_
 rintro e w' ⟨rfl,n,os,rfl⟩
 refine ⟨rfl,⟨by simp [hsl], .inr ⟨g,cap,_,rfl,r0,heap_sortedI _ hgb,r1,r2,by simp [putCells,r3],?_⟩⟩,grownBy_sortedI _⟩
 rw [Nat.mul_one]
 have:=take_putCellsI cur (aCy zs) (by rw [hsl];omega)
 rwa [hsl] at this
theorem aYk {w wj wr:World} {T:TypeId} (h1:Below (w.alloc (.cells #[.slice none 0 0, .map none] T)).heap.size (w.alloc (.cells #[.slice none 0 0, .map none] T)) wj) (h2:Below wj.heap.size wj wr) :
  wr.cell? ⟨w.heap.size,0,none⟩=some (.slice none 0 0)∧wr.cell? ⟨w.heap.size,1,none⟩=some (.map none)∧wr.frozen? ⟨w.heap.size,0,none⟩=false∧wr.frozen? ⟨w.heap.size,1,none⟩=false:=by
 have z:(w.alloc (.cells #[.slice none 0 0, .map none] T)).heap.size=w.heap.size+1:=by simp
 have h:=h1.size
 rw [z] at h h1
 have e:wr.heap[w.heap.size]? = some (.cells #[.slice none 0 0, .map none] T (0,0)):=by
  rw [h2.block _ (by omega),h1.block _ (by omega)]
  exact heap_alloc_new w _
 simp [World.cell?,World.frozen?,e]
theorem aSd {ls:List (List Int)} {vals:List Value} {w wj wr wS:World} {kp k g N cap:Nat} {val:Int→Value} (h1:Below (w.alloc (.cells #[.slice none 0 0, .map none] 174)).heap.size (w.alloc (.cells #[.slice none 0 0, .map none] 174)) wj) (h:aOp ls vals wj kp k (.slice (some ⟨g,0,none⟩) N cap) val wr) (hg:wr.grownBy wS (some g)) :
  wS.cell? ⟨wj.heap.size+1,0,none⟩=some (.slice (some ⟨g,0,none⟩) N cap)∧wS.cell? ⟨wj.heap.size+1,1,none⟩=some (.map (some wj.heap.size))∧wS.cell? ⟨w.heap.size,0,none⟩=some (.slice none 0 0)∧wS.cell? ⟨w.heap.size,1,none⟩=some (.map none)∧wS.frozen? ⟨w.heap.size,0,none⟩=false∧wS.frozen? ⟨w.heap.size,1,none⟩=false:=by
 have hlt:=h.prd.lt g rfl
 have hsz:=h.sz
 have z:(w.alloc (.cells #[.slice none 0 0, .map none] 174)).heap.size=w.heap.size+1:=by simp
 have hz:=h1.size
 rw [z] at hz
 have hb : ∀ x,x<wj.heap.size+2→wS.heap[x]? = wr.heap[x]? := fun x hx=>hg.block x (by omega) (by simp;omega)
 obtain ⟨a,b,c,d⟩:=aYk h1 h.bel
 exact ⟨(World.cell?_of_block (hb _ (by simp))).trans h.c0,(World.cell?_of_block (hb _ (by simp))).trans h.c1,(World.cell?_of_block (hb _ (by simp;omega))).trans a,(World.cell?_of_block (hb _ (by simp;omega))).trans b,(World.frozen?_of_block (hb _ (by simp;omega))).trans c,(World.frozen?_of_block (hb _ (by simp;omega))).trans d⟩
theorem aC9 {ls:List (List Int)} {vals:List Value} {wB wr w7 w8:World} {kp k gg cap N:Nat} {vP v x:Value} {val:Int→Value} {p:Int} {l:List Int} {o:Obj} (h:aOp ls vals wB kp k vP val wr) (hk:k<ls.length) (hl:ls[k]? = some l) (hx:vals[k]? = some x) (hlen:ls.length=vals.length) (hp:dF l=p) (hv:val p=v) (hn:N=(pW (ls.take k) (vals.take k) p).length+1)
  (ho7:w7.ownsRow (wB.heap.size+2) 30 1 (.slice (some ⟨gg,0,none⟩) N cap) N (pW (ls.take k) (vals.take k) p++[x])) (hg7:(wr.alloc o).drew.grownBy w7 v.ownBlock) (hat:v.ownBlock=some gg∨gg=wr.heap.size+1)
  (hm:Hid (AtV Tryz.prog 2 w8 wB.heap.size (k+1) (fun q=>if q=p then .slice (some ⟨gg,0,none⟩) N cap else val q)∧w7.grownBy w8 (some wB.heap.size))) :
  aOp ls vals wB kp (k+1) vP (fun q=>if q=p then .slice (some ⟨gg,0,none⟩) N cap else val q) w8:=by
 subst hp hn hv
 refine aI0.join (o:=o) h hk hl hx hlen ho7 ⟨hg7.os,hg7.tape,hg7.output,hg7.size,hg7.block⟩ ?_ hm.out.1 hm.out.2
 rcases hat with e | e
 ·exact .inl e.symm
 ·right
  rw [e]
  simp [Value.ownBlock]
def aYc (low high:Int) (cnt:Nat) (w:World) (vP:Value) (B:Nat) (w':World):Prop := ∃ (vals:List Value) (val:Int→Value) (n:Nat),Below w.heap.size w w'∧w.heap.size≤B∧w'.ownsRow w.heap.size 2 1 vP (gZ (cH low high cnt)).length ((aCy (gZ (cH low high cnt))).map (Value.int .i64))∧AtV Tryz.prog 2 w' B n val ∧
 (∀ p,w'.ownsRow w.heap.size 30 1 (val p) (pW (cH low high cnt) vals p).length (pW (cH low high cnt) vals p))∧(∀ (i:Nat) x r,vals[i]? = some x→(cH low high cnt)[i]? = some r→aYd w' w.heap.size x r)∧(cH low high cnt).length=vals.length
theorem aAz {w:World} {b o:Nat} {v:Value} {x:Nat} (h:x≠b):(w.setCell ⟨b,o,none⟩ v).heap[x]? = w.heap[x]? := by
 simp [World.setCell,Array.getElem?_modify]
 exact fun q=>absurd q.symm h
theorem aW6 {low high:Int} {j:Nat} {vals:List Value} {w wj wr wS:World} {g N cap:Nat} {val:Int→Value} {u:Value} (h1:Below (w.alloc (.cells #[.slice none 0 0, .map none] 174)).heap.size (w.alloc (.cells #[.slice none 0 0, .map none] 174)) wj) (h:aOp (cH low high j) vals wj (cH low high j).length (cH low high j).length (.slice (some ⟨g,0,none⟩) N cap) val wr) (hg:wr.grownBy wS (some g))
  (hN:N=(gZ (cH low high j)).length) (ho:wS.ownsRow (wj.heap.size+2) 2 1 (.slice (some ⟨g,0,none⟩) N cap) N ((aCy (gZ ((cH low high j).take (cH low high j).length))).map (Value.int .i64)))
  (hv:aA8 2 30 wj (w.alloc (.cells #[.slice none 0 0, .map none] 174)).heap.size u (cH low high j) vals):aYc low high j w (.slice (some ⟨g,0,none⟩) N cap) wj.heap.size ((wS.setCell ⟨w.heap.size,0,none⟩ (.slice (some ⟨g,0,none⟩) N cap)).setCell ⟨w.heap.size,1,none⟩ (.map (some wj.heap.size))):=by
 have z:(w.alloc (.cells #[.slice none 0 0, .map none] 174)).heap.size=w.heap.size+1:=by simp
 have hz:=h1.size
 rw [z] at hz h1 hv
 have hlt:=h.prd.lt g rfl
 have hsz:=h.sz
 have hgs:=hg.size
 have hob : ∀ x,x≠w.heap.size→((wS.setCell ⟨w.heap.size,0,none⟩ (.slice (some ⟨g,0,none⟩) N cap)).setCell ⟨w.heap.size,1,none⟩ (.map (some wj.heap.size))).heap[x]? = wS.heap[x]? := fun x hx=>by rw [aAz hx,aAz hx]
 have hr : ∀ x,x<wr.heap.size→x≠w.heap.size→x≠g→((wS.setCell ⟨w.heap.size,0,none⟩ (.slice (some ⟨g,0,none⟩) N cap)).setCell ⟨w.heap.size,1,none⟩ (.map (some wj.heap.size))).heap[x]? = wr.heap[x]? := fun x h2 h3 h4=>(hob x h3).trans (hg.block x h2 (by simpa using h4))
 have e:(cH low high j).take (cH low high j).length=cH low high j:=List.take_length
 have e2:vals.take (cH low high j).length=vals:=by rw [← hv.len,List.take_length]
 rw [e] at ho
 subst hN
 refine ⟨vals,val,_,⟨?_,?_,?_,?_,fun x hx => ?_⟩,by omega,nO (fW ho fun x hx=>hob x ?_) (by omega),h.map.same (hr _ (by omega) (by omega) (by omega)),fun p => ?_,fun i x r q1 q2 => ?_,hv.len.symm⟩
 ·exact (hg.os.trans h.bel.os).trans h1.os
 ·exact (hg.tape.trans h.bel.tape).trans h1.tape
 ·exact (hg.output.trans h.bel.output).trans h1.output
 ·simp [World.setCell];omega
 ·rw [hr x (by omega) (by omega) (by omega),h.bel.block x (by omega),h1.block x (by omega)]
  exact Below.heap_alloc w _ x hx
 ·have:=ho.lt x hx;omega
 ·have h5:=h.row p
  rw [e,e2] at h5
  refine nO (fW h5 fun x hx => ?_) (by omega)
  have h6:=h5.lt x hx
  refine hr x h6.2 (by omega) fun e => ?_
  rcases h.sepP p with q | q
  ·rw [q] at hx;cases hx
  ·exact q (by rw [hx,e];rfl)
 ·obtain ⟨q3,_⟩:=hv.2 i x r q1 q2
  refine nO (fW q3 fun y hy => ?_) (by omega)
  have h6:=q3.lt y hy
  rw [hr y (by omega) (by omega) (by omega),h.bel.block y h6.2]
theorem aSb {w:World} {low high:Int} {cnt:Nat} (hlow:1≤low) (hh:low≤high) (hhi:high≤120) (hc:cnt≤3) (hc1:1≤cnt) (Q:Ending→World→Prop) (HQ:Hid (∀ vP B w',aYc low high cnt w vP B w'→Q (.returned (.agg #[vP, .map (some B)])) w')):Calls Tryz.prog 132 #[.int .i64 low, .int .i64 high, .int .i64 (cnt:Int)] w Q:=by
 have hmm := @run_makeMap Tryz.prog
 obtain ⟨iI,hiI,hI0,hI1,hI2⟩:=info_parts aYi
 obtain ⟨iS,hiS,hS0,hS1,hS2⟩:=info_parts aYj
 go_enter Tryz.func132,Tryz.ntmps132
 go_wp2
 go_loopw [2,7] (fun i v wr=>Lev low high cnt (w.alloc (.cells #[.slice none 0 0, .map none] 174)) i v wr) (fun i _ _=>(intOf i).toNat)
 case atStart=>exact aQ6 _ (by simp)
 case round =>
  rename World=>wj
  obtain ⟨j,c,hj,rfl,hN,hB⟩:=hrel
  rcases c with _ | c
  ·have hjc:j=cnt:=by have:=hj.out;omega
   subst hjc
   rw [show ((0:Nat):Int)=0 from rfl]
   obtain ⟨vals,hv,hel⟩:=hN.out
   have hpos:=(aAm hlow hh hhi j).1
   have hcn:=(aAm hlow hh hhi j).2
   have hp3:120 ^ j≤1728000:=Nat.le_trans (Nat.pow_le_pow_right (by omega) hc) (by omega)
   rcases hv.2 with ⟨_,h0⟩ | ⟨g,cap,cur,rfl,r1,r2,r3,r4,r5,r6⟩
   ·omega
   clear r2 r5 r6
   have hlen:(cH low high j).length≤1728000:=by omega
   have Hv:=kX hv
   have Hel:=kX hel
   have hgl:=(hv.lt g rfl).2
   clear hv hel hcn hp3 r1
   go_wp2
   go_loopw [60] (fun i wr=>Grp (cH low high j) vals wj i wr) (fun i _=>(cH low high j).length-(intOf i).toNat)
   case atStart=>exact aQx
   case round =>
    rename World=>wk
    obtain ⟨k,vP,val,hk,rfl,HG⟩:=hrel
    rcases Nat.lt_or_ge k (cH low high j).length with hkl | hkl
    ·obtain ⟨l,hl⟩ : ∃ l,(cH low high j)[k]? = some l:=⟨_,List.getElem?_eq_getElem hkl⟩
     obtain ⟨x,hx⟩ : ∃ x,vals[k]? = some x:=⟨_,List.getElem?_eq_getElem (by rw [aA8.len ⟨Hv.out,Hel.out⟩];exact hkl)⟩
     have hlm:l ∈ cH low high j:=List.mem_of_getElem? hl
     have hll:=aGk j l hlm
     have Hli:=kX (aTy hlow hh j l hlm)
     have Hox:=kX (Hel.out k x l hx hl).1
     have cx:wk.cell? ⟨g,k,none⟩=some x:=(HG.out.bel.cell (p:=⟨g,k,none⟩) hgl).trans (cell_of_row Hv.out hx)
     obtain ⟨gx,capx,rfl⟩ : ∃ g cap,x = .slice (some ⟨g,0,none⟩) l.length cap:=by
      rcases Hox.out.2 with ⟨_,h0⟩ | ⟨g,cap,cur,rfl,_⟩
      ·omega
      ·exact ⟨g,cap,rfl⟩
     have Hcx:Hid (∀ m,m<l.length→wk.cell? ⟨gx,m,none⟩=some (.int .i64 (l.getD m 0))):=kX fun m hm=>(HG.out.bel.cell (p:=⟨gx,m,none⟩) (Hox.out.lt gx rfl).2).trans (cell_of_row Hox.out (by simp [List.getD,hm]))
     have hl3:l.length≤3:=by omega
     have hlv:(cH low high j).length=vals.length:=(aA8.len ⟨Hv.out,Hel.out⟩).symm
     have Hlv:=kX hlv
     clear hlm hll hlv
     go_wp2
     go_loopw [66,16] (fun i v wr=>Prd l wk i v wr) (fun i _ _=>l.length-(intOf i).toNat)
     case atStart=>exact ⟨0,Nat.zero_le _,rfl,rfl,rfl⟩
     case round =>
      obtain ⟨m,hm,rfl,rfl,rfl⟩:=hrel
      rcases Nat.lt_or_ge m l.length with hml | hml
      ·have c:=Hcx.out m hml
       have hb:=aRs hlow hhi Hli.out hl3 hml
       obtain ⟨y,hy⟩ : ∃ y,l.getD m 0=y:=⟨_,rfl⟩
       rw [hy] at c hb
       clear hy
       have hb1:=hb.2.1
       have hb2:=hb.2.2
       have Hbe:=kX hb.1
       clear hb
       go_wp2
       go_roundw
       case rel=>first | exact ⟨m+1,by omega,by go_num,by rw [Hbe.out],rfl⟩ | trace_state
       case measure=>simp [intOf];omega
      ·have hme:m=l.length:=by omega
       subst hme
       rw [List.take_length]
       have hpr:=aT7 hlow hhi Hli.out hl3
       obtain ⟨p,hp⟩ : ∃ p,dF l=p:=⟨_,rfl⟩
       rw [hp] at hpr ⊢
       have Hp:=kX hp
       have Hpr:=kX hpr
       have hkc:InK p:=by unfold InK;omega
       have c1:=HG.out.c1
       have c0:=HG.out.c0
       have f0:=HG.out.f0
       clear hp hpr
       by_cases hs:p ∈ gZ ((cH low high j).take k)
       ·obtain ⟨gp,n,cp,hv,Hn⟩ : ∃ gp n cp,val p = .slice (some ⟨gp,0,none⟩) (n+1) cp∧Hid (n+1=(pW ((cH low high j).take k) (vals.take k) p).length):=aQw HG.out (hlv:=by rw [aA8.len ⟨Hv.out,Hel.out⟩]) hs
        have hlook:=HG.out.map.look Tryz.underlying172 Tryz.underlying2 (aUn _) hkc
        rw [hv] at hlook
        have hL1:(Instr.lookup 172 (.map (some wj.heap.size)) (.int .i64 p) false).run Tryz.prog wr.drew = .ok (.slice (some ⟨gp,0,none⟩) (n+1) cp) wr.drew:=aHy HG.out hkc hv rfl
        have hL2:(Instr.lookup 172 (.map (some wj.heap.size)) (.int .i64 p) false).run Tryz.prog (wr.alloc (.cells #[.slice (some ⟨gx,0,none⟩) l.length capx] 30)).drew = .ok (.slice (some ⟨gp,0,none⟩) (n+1) cp) (wr.alloc (.cells #[.slice (some ⟨gx,0,none⟩) l.length capx] 30)).drew:=aHy HG.out hkc hv (Below.heap_alloc _ _ _ HG.out.map.lt)
        have hrow:=HG.out.row p
        rw [hv, ← Hn.out] at hrow
        have Hrow:=kX hrow
        clear hrow
        have hn1:n+1≤1728000:=by rw [Hn.out];exact Nat.le_trans (aSn _ _ _) (by rw [List.length_take];omega)
        have lB:=HG.out.sz
        go_wp2
        go_region_held3 (fun w'=>w'.cell? ⟨wj.heap.size+1,1,none⟩=some (.map (some wj.heap.size))) (first | go_keep | assumption)
         ((refine step_append_lies _ (by rfl) _ _ _ (by rfl) (wj.heap.size+2) 30 iS _ 1 24 Tryz.underlying184 hiS hS0 hS1 hS2 rfl (by omega) _ (n+1) _ (by rfl) ((Hrow.out.alloc _).drew) ⟨wr.heap.size,0,none⟩ 1 1 [.slice (some ⟨gx,0,none⟩) l.length capx] (by rfl) (by rfl) (World.news_of_block (cs := #[.slice (some ⟨gx,0,none⟩) l.length capx]) (t:=30) (fr:=(0,0)) (heap_alloc_new wr _)) (by simp [Value.oneCell']) (by omega) (by unfold maxLen;omega) (by omega) (by simp;omega) (wr.heap.size+1) (by simp) ?_;intro gg cap2 w7 ho7 hg7 hat7 hlt7;obtain ⟨w8,hr8,c17,c18,Hm8⟩:=aNw (n+1+1) HG.out hkc hv hg7 hlen hkl gg cap2))
        all_goals go_wp2
        all_goals go_roundw
        all_goals first
         | exact ⟨k+1,vP,_,hkl,by go_num,kX (aC9 (HG.out.seen hkl hl (by rw [Hp.out];exact hs)) hkl hl hx Hlv.out Hp.out hv (by rw [← Hn.out]) ho7 hg7 hat7 Hm8)⟩
         | (simp [intOf];omega)
         | exact ⟨k+1,vP,_,hkl,by go_num,kX (aC9 (HG.out.seen hkl hl (by rw [Hp.out];exact hs)) hkl hl hx Hlv.out Hp.out hv (by rw [← Hn.out]) ho7 hg7 hat7 Hm8)⟩
       ·have hve:=(aLb (ls:=(cH low high j).take k) (vals:=vals.take k) (p:=p) (by have:=Hlv.out;simp;omega)).2 hs
        have hv:val p = .slice none 0 0:=HG.out.nil p hve
        have hlook:=HG.out.map.look Tryz.underlying172 Tryz.underlying2 (aUn _) hkc
        rw [hv] at hlook
        have lB:=HG.out.sz
        have lP:(gZ ((cH low high j).take k)).length≤1728000:=Nat.le_trans (aOf _) (by rw [List.length_take];omega)
        have Hve:=kX hve
        clear hve
        go_wp2_with (first
         | (at_builtin;refine wpList_append_own_at _ rfl _ _ 30 rfl (wj.heap.size+2) 2 iI (.int .i64 0) 1 8 Tryz.underlying30 hiI hI0 hI1 hI2 rfl (by decide) vP _ _ rfl (HG.out.prd.alloc _) ⟨wr.heap.size,0,none⟩ 1 1 [.int .i64 p] rfl rfl (cell_one_new _ _ _) (fun u hu=>by simp at hu;subst hu;rfl) (by unfold maxLen;omega) (by omega) (by simp;omega) ?_;intro vP2 w5 ho5 hg5 hnil5 hloc5;obtain ⟨g5,cap5,rfl⟩:=aEs ho5;obtain ⟨c50,f50,hc5⟩:=aQs HG.out hg5;have Ho5:=kX ho5;have Hg5:=kX hg5;have Hloc5:=kX hloc5;have Hc5:=kX hc5;clear ho5 hg5 hloc5 hnil5 hc5)
         | go_in)
        generalize hw6:w5.setCell ⟨wj.heap.size+1,0,none⟩ (.slice (some ⟨g5,0,none⟩) ((gZ ((cH low high j).take k)).length+1) cap5)=w6
        have HG6:=kX (aTm HG.out hkl hl Hp.out hs Ho5.out Hg5.out Hloc5.out Hc5.out hw6)
        clear hw6 c50 f50 c0 c1 f0 hlook lB
        have c16:=HG6.out.c1
        have hL1:(Instr.lookup 172 (.map (some wj.heap.size)) (.int .i64 p) false).run Tryz.prog w6.drew = .ok (.slice none 0 0) w6.drew:=aHy HG6.out hkc hv rfl
        have hL2:(Instr.lookup 172 (.map (some wj.heap.size)) (.int .i64 p) false).run Tryz.prog (w6.alloc (.cells #[.slice (some ⟨gx,0,none⟩) l.length capx] 30)).drew = .ok (.slice none 0 0) (w6.alloc (.cells #[.slice (some ⟨gx,0,none⟩) l.length capx] 30)).drew:=aHy HG6.out hkc hv (Below.heap_alloc _ _ _ HG6.out.map.lt)
        have lB6:=HG6.out.sz
        have Hrow:=kX (show w6.ownsRow (wj.heap.size+2) 30 1 (.slice none 0 0) 0 [] from World.ownsRow_nil _ _ _ _)
        go_region_held3 (fun w'=>w'.cell? ⟨wj.heap.size+1,1,none⟩=some (.map (some wj.heap.size))) (first | go_keep | assumption)
         ((refine step_append_lies _ (by rfl) _ _ _ (by rfl) (wj.heap.size+2) 30 iS _ 1 24 Tryz.underlying184 hiS hS0 hS1 hS2 rfl (by omega) _ 0 _ (by rfl) ((Hrow.out.alloc _).drew) ⟨w6.heap.size,0,none⟩ 1 1 [.slice (some ⟨gx,0,none⟩) l.length capx] (by rfl) (by rfl) (World.news_of_block (cs := #[.slice (some ⟨gx,0,none⟩) l.length capx]) (t:=30) (fr:=(0,0)) (heap_alloc_new w6 _)) (by simp [Value.oneCell']) (by omega) (by unfold maxLen;omega) (by omega) (by simp;omega) (w6.heap.size+1) (by simp) ?_;intro gg cap2 w7 ho7 hg7 hat7 hlt7;obtain ⟨w8,hr8,c17,c18,Hm8⟩:=aNw (0+1) HG6.out hkc hv hg7 hlen hkl gg cap2))
        all_goals go_wp2
        all_goals go_roundw
        all_goals first
         | exact ⟨k+1,_,_,hkl,by go_num,kX (aC9 (HG6.out) hkl hl hx Hlv.out Hp.out hv (by rw [Hve.out];rfl) (by rw [Hve.out];exact ho7) hg7 hat7 Hm8)⟩
         | (simp [intOf];omega)
         | exact ⟨k+1,_,_,hkl,by go_num,kX (aC9 (HG6.out) hkl hl hx Hlv.out Hp.out hv (by rw [Hve.out];rfl) (by rw [Hve.out];exact ho7) hg7 hat7 Hm8)⟩
    ·have hke:k=(cH low high j).length:=by omega
     subst hke
     obtain ⟨gP,N,cP,hvP,HN⟩:=aPc HG.out hpos
     subst hvP
     have HS:=kX (aUi (aT8 HG.out HN.out) (by have:=aOf ((cH low high j).take (cH low high j).length);rw [List.length_take] at this;omega))
     have c0:=HG.out.c0
     go_wp2_with (first
      | (go_at_call 180;refine HS.out.mono ?_;rintro e wS ⟨rfl,hoS,hgS⟩;obtain ⟨s0,s1,t0,t1,q0,q1⟩:=aSd hB.out HG.out hgS)
      | go_in)
     refine bodyPost_ret (v := .agg #[.slice (some ⟨gP,0,none⟩) N cP, .map (some wj.heap.size)]) (by simp [results,Tryz.results132,go_sem, *]) rfl ?_
     exact HQ.out _ _ _ (aW6 hB.out HG.out hgS HN.out hoS ⟨Hv.out,Hel.out⟩)
  ·obtain ⟨vals,hv,hel⟩:=hN.out
   have hpos:=(aAm hlow hh hhi j).1
   have hcn:=(aAm hlow hh hhi j).2
   have hp3:120 ^ j≤14400:=by
    have:j≤2:=by have:=hj.out;omega
    exact Nat.le_trans (Nat.pow_le_pow_right (by omega) this) (by omega)
   rcases hv.2 with ⟨_,h0⟩ | ⟨g,cap,cur,rfl,r1,r2,r3,r4,r5,r6⟩
   ·omega
   clear r2 r5 r6
   have hlen:(cH low high j).length≤14400:=by omega
   have Hv:=kX hv
   have Hel:=kX hel
   have hgl:=(hv.lt g rfl).2
   have hc3:c≤3:=by have:=hj.out;omega
   clear hv hel hcn hp3 r1
   go_wp2
   go_loopw [26,8] (fun i v wr=>Mid low high wj (cH low high j) i v wr) (fun i _ _=>(cH low high j).length-(intOf i).toNat)
   case atStart=>exact ⟨0,Nat.zero_le _,rfl,kX zT.nil,kX (Below.refl _ _)⟩
   case round =>
    rename World=>wk
    obtain ⟨k,hk,rfl,hN2,hB2⟩:=hrel
    rcases Nat.lt_or_ge k (cH low high j).length with hkl | hkl
    ·obtain ⟨l,hl⟩ : ∃ l,(cH low high j)[k]? = some l:=⟨_,List.getElem?_eq_getElem hkl⟩
     obtain ⟨x,hx⟩ : ∃ x,vals[k]? = some x:=⟨_,List.getElem?_eq_getElem (by rw [aA8.len ⟨Hv.out,Hel.out⟩];exact hkl)⟩
     have hlm:l ∈ cH low high j:=List.mem_of_getElem? hl
     obtain ⟨hf1,hf2⟩:=aHc hlow hh j l hlm
     have hll:=aGk j l hlm
     have Hox:=kX (Hel.out k x l hx hl).1
     have Hne:=kX (Hel.out k x l hx hl).2.2
     have cx:wk.cell? ⟨g,k,none⟩=some x:=(hB2.out.cell (p:=⟨g,k,none⟩) hgl).trans (cell_of_row Hv.out hx)
     obtain ⟨f,hf⟩ : ∃ f,qG low l=f:=⟨_,rfl⟩
     rw [hf] at hf1 hf2
     have Hll:=kX (show l.length≤3 by have:=hj.out;omega)
     have Hf:=kX hf
     have Hrl:=kX (aRz (k:=k) hlow hhi fun l' hl'=>(aHc hlow hh j l' hl').1)
     have Hlast:Hid (∀ g cap,x = .slice (some ⟨g,0,none⟩) l.length cap→l≠[]→wk.cell? ⟨g,l.length-1,none⟩=some (.int .i64 f)):=kX fun g cap hx0 hl0=>aQ2 hx0 hl0 Hox.out hB2.out Hf.out
     have Hnil:Hid (l=[]→f=low):=kX fun h=>by have:=Hf.out;subst h;simpa [qG] using this.symm
     clear hf hll hlm hx
     have HC:Hid (∀ W,Below wj.heap.size wj W→Calls Tryz.prog 82 #[x] W fun e w' => ∃ v',e = .returned v'∧w'.ownsRow W.heap.size 2 1 v' l.length (l.map (Value.int .i64))∧Below W.heap.size W w'):=kX fun W hW=>aQh (w:=W) (l:=l) (fW Hox.out fun g hg=>hW.block g (Hox.out.lt g hg).2) (by have:=Hll.out;omega)
     have hwk:wj.heap.size≤wk.heap.size:=hB2.out.size
     rcases Hox.out.2 with ⟨rfl,h0⟩ | ⟨gx,capx,curx,rfl,x1,x2,x3,x4,x5,x6⟩
     ·have hl0:=List.eq_nil_of_length_eq_zero h0
      have Hf0:=kX (Hnil.out hl0)
      clear h0 Hlast Hnil hl0 Hne
      go_wp2
      go_loopw [12,8] (fun i v wr=>Inn low high wj (((cH low high j).take k).flatMap (zZ low high)) l f i v wr) (fun i _ _=>(high+1-intOf i).toNat)
      case atStart=>exact ⟨0,by omega,by rw [← Hf0.out];simp,kX (by simpa using hN2.out),hB2,hwk⟩
      case round =>
       obtain ⟨m,hm,rfl,hN3,hB3,hz3⟩:=hrel
       by_cases hmh:f+m≤high
       ·obtain ⟨vals3,hv3⟩:=hN3.out
        have Hc:=kX (HC.out wr hB3.out)
        have Hv3:=kX hv3
        have hl3':l.length≤3:=by have:=Hll.out;omega
        have hr3:(((cH low high j).take k).flatMap (zZ low high)++(List.range m).map fun (i:Nat)=>l++[f+(i:Int)]).length≤2000000:=by
         have:=Hrl.out
         rw [List.length_append,List.length_map,List.length_range]
         omega
        have Hl3':=kX hl3'
        have Hr3:=kX hr3
        clear hv3 hl3' hr3
        go_wp2_with (first
         | (go_at_call 82;refine Hc.out.mono ?_;rintro e w2 ⟨vc,rfl,hvc,hb2⟩;have Hvc:=kX hvc;have Hb2:=kX hb2;clear hvc hb2)
         | (at_builtin;refine wpList_append_own_at _ rfl _ _ 30 rfl wr.heap.size 2 iI (.int .i64 0) 1 8 Tryz.underlying30 hiI hI0 hI1 hI2 rfl (by decide) vc _ _ rfl (Hvc.out.alloc _) ⟨w2.heap.size,0,none⟩ 1 1 [.int .i64 (f+m)] rfl rfl (cell_one_new _ _ _) (fun u hu=>by simp at hu;subst hu;rfl) (by have:=Hl3'.out;unfold maxLen;omega) (by have:=Hl3'.out;omega) (by have:=Hb2.out.size;simp;omega) ?_;intro v1 w3 ho1 hg1 hnil1 hloc1;obtain ⟨g1,cap1,rfl⟩:=aEs ho1;have Ho1:=kX ho1;have Hg1:=kX hg1;clear ho1 hg1 hnil1 hloc1)
         | (at_builtin;refine wpList_append_own_at _ rfl _ _ 184 rfl wj.heap.size 30 iS (.slice none 0 0) 1 24 Tryz.underlying184 hiS hS0 hS1 hS2 rfl (by decide) _ _ vals3 rfl ((aZw (B:=0) Hv3.out.1 Hb2.out Hvc.out Hg1.out).alloc _) ⟨w3.heap.size,0,none⟩ 1 1 [.slice (some ⟨g1,0,none⟩) (l.length+1) cap1] rfl rfl (cell_one_new _ _ _) (fun u hu=>by simp at hu;subst hu;exact aRy Ho1.out) (by have:=Hr3.out;unfold maxLen;omega) (by have:=Hr3.out;omega) (by have h1:=Hb2.out.size;have h2:=Hg1.out.size;simp at h2 ⊢;omega) ?_;intro v2 w4 ho2 hg2 hnil2 hloc2;have Ho2:=kX ho2;have Hg2:=kX hg2;have Hloc2:=kX hloc2;clear ho2 hg2 hnil2 hloc2)
         | go_in)
        go_roundw
        case rel=>first | exact aDd (low:=low) hmh Hv3.out hB3 hz3 Hb2.out Hvc.out Hg1.out Ho1.out Hg2.out Ho2.out Hloc2.out | exact ⟨_,_,_,_,_,_,_,_,_,_,_,_,_,_,_,aDd (low:=low) hmh Hv3.out hB3 hz3 Hb2.out Hvc.out Hg1.out Ho1.out Hg2.out Ho2.out Hloc2.out,rfl⟩
        case measure=>simp [intOf];omega
       ·have hme:f+m=high+1:=by omega
        go_wp2
        go_roundw
        case rel=>first | exact aDf hkl hl Hf.out (by rw [hme]) ⟨m,hm,rfl,hN3,hB3,hz3⟩ | exact ⟨_,_,_,_,_,aDf hkl hl Hf.out (by rw [hme]) ⟨m,hm,rfl,hN3,hB3,hz3⟩,rfl,rfl,rfl,rfl,rfl⟩
        case measure=>simp [intOf];omega
     ·clear x1 x2 x5 x6
      have hl0:l≠[]:=fun e=>by have:=Hne.out e;cases this
      have hc0:=Hlast.out gx capx rfl hl0
      have h0:0<l.length:=List.length_pos_iff.2 hl0
      have hl3:l.length≤3:=by have:=Hll.out;omega
      clear Hlast Hnil Hne
      go_wp2
      go_loopw [12,8] (fun i v wr=>Inn low high wj (((cH low high j).take k).flatMap (zZ low high)) l f i v wr) (fun i _ _=>(high+1-intOf i).toNat)
      case atStart=>exact ⟨0,by omega,by simp,kX (by simpa using hN2.out),hB2,hwk⟩
      case round =>
       obtain ⟨m,hm,rfl,hN3,hB3,hz3⟩:=hrel
       by_cases hmh:f+m≤high
       ·obtain ⟨vals3,hv3⟩:=hN3.out
        have Hc:=kX (HC.out wr hB3.out)
        have Hv3:=kX hv3
        have hl3':l.length≤3:=by have:=Hll.out;omega
        have hr3:(((cH low high j).take k).flatMap (zZ low high)++(List.range m).map fun (i:Nat)=>l++[f+(i:Int)]).length≤2000000:=by
         have:=Hrl.out
         rw [List.length_append,List.length_map,List.length_range]
         omega
        have Hl3':=kX hl3'
        have Hr3:=kX hr3
        clear hv3 hl3' hr3
        go_wp2_with (first
         | (go_at_call 82;refine Hc.out.mono ?_;rintro e w2 ⟨vc,rfl,hvc,hb2⟩;have Hvc:=kX hvc;have Hb2:=kX hb2;clear hvc hb2)
         | (at_builtin;refine wpList_append_own_at _ rfl _ _ 30 rfl wr.heap.size 2 iI (.int .i64 0) 1 8 Tryz.underlying30 hiI hI0 hI1 hI2 rfl (by decide) vc _ _ rfl (Hvc.out.alloc _) ⟨w2.heap.size,0,none⟩ 1 1 [.int .i64 (f+m)] rfl rfl (cell_one_new _ _ _) (fun u hu=>by simp at hu;subst hu;rfl) (by have:=Hl3'.out;unfold maxLen;omega) (by have:=Hl3'.out;omega) (by have:=Hb2.out.size;simp;omega) ?_;intro v1 w3 ho1 hg1 hnil1 hloc1;obtain ⟨g1,cap1,rfl⟩:=aEs ho1;have Ho1:=kX ho1;have Hg1:=kX hg1;clear ho1 hg1 hnil1 hloc1)
         | (at_builtin;refine wpList_append_own_at _ rfl _ _ 184 rfl wj.heap.size 30 iS (.slice none 0 0) 1 24 Tryz.underlying184 hiS hS0 hS1 hS2 rfl (by decide) _ _ vals3 rfl ((aZw (B:=0) Hv3.out.1 Hb2.out Hvc.out Hg1.out).alloc _) ⟨w3.heap.size,0,none⟩ 1 1 [.slice (some ⟨g1,0,none⟩) (l.length+1) cap1] rfl rfl (cell_one_new _ _ _) (fun u hu=>by simp at hu;subst hu;exact aRy Ho1.out) (by have:=Hr3.out;unfold maxLen;omega) (by have:=Hr3.out;omega) (by have h1:=Hb2.out.size;have h2:=Hg1.out.size;simp at h2 ⊢;omega) ?_;intro v2 w4 ho2 hg2 hnil2 hloc2;have Ho2:=kX ho2;have Hg2:=kX hg2;have Hloc2:=kX hloc2;clear ho2 hg2 hnil2 hloc2)
         | go_in)
        go_roundw
        case rel=>first | exact aDd (low:=low) hmh Hv3.out hB3 hz3 Hb2.out Hvc.out Hg1.out Ho1.out Hg2.out Ho2.out Hloc2.out | exact ⟨_,_,_,_,_,_,_,_,_,_,_,_,_,_,_,aDd (low:=low) hmh Hv3.out hB3 hz3 Hb2.out Hvc.out Hg1.out Ho1.out Hg2.out Ho2.out Hloc2.out,rfl⟩
        case measure=>simp [intOf];omega
       ·have hme:f+m=high+1:=by omega
        go_wp2
        go_roundw
        case rel=>first | exact aDf hkl hl Hf.out (by rw [hme]) ⟨m,hm,rfl,hN3,hB3,hz3⟩ | exact ⟨_,_,_,_,_,aDf hkl hl Hf.out (by rw [hme]) ⟨m,hm,rfl,hN3,hB3,hz3⟩,rfl,rfl,rfl,rfl,rfl⟩
        case measure=>simp [intOf];omega
    ·have hke:k=(cH low high j).length:=by omega
     go_wp2
     go_roundw
     case rel=>exact aTx hj.out hke hN2 hB2 hB
     case measure=>simp [intOf]
end Go.Proofs.YtceknlcbfomdhaaGreatDoor
namespace Go.Proofs.YtceknlcbfomdhaaGreatDoor
open Go.Shelf Go.RowKit Go.Sort Go.Maps
set_option linter.unusedVariables false
set_option maxRecDepth 100000
theorem aNt {w:World} {F:Nat→Prop} {base n:Nat} {e:TypeId} {v:Value} {vals:List Value} {es:List DV} (h:w.ownsRow base e 1 v n vals) (hF : ∀ g,base≤g→g<w.heap.size→F g) (hl:es.length=n) (hr : ∀ (i:Nat) x y,vals[i]? = some x→es[i]? = some y→aDo w F x y):aDo w F v (.sl (es.map fun y=>[y])):=by
 have hvl:vals.length=n:=by have:=h.1;omega
 rcases h.2 with ⟨rfl,h0⟩ | ⟨g,cap,cur,rfl,h1,h2,h3,h4,h5,h6⟩
 ·have:es=[]:=List.eq_nil_of_length_eq_zero (by omega)
  subst this
  exact .nil
 ·have hlm:(es.map fun y=>[y]).length=n:=by rw [List.length_map,hl]
  have hlt:=(Array.getElem?_eq_some_iff.1 h2).1
  have:=aDo.sl (w:=w) (F:=F) g 0 cap 1 (es.map fun y=>[y]) (fun i _=>vals.getD i (.bool false)) (hF g h1 hlt) (by omega) h4 (fun i e hi=>by
   simp only [List.getElem?_map,Option.map_eq_some_iff] at hi
   obtain ⟨x,_,rfl⟩:=hi;rfl) (fun i e j x hi hj=>by
   simp only [List.getElem?_map,Option.map_eq_some_iff] at hi
   obtain ⟨y,hy,rfl⟩:=hi
   match j with
   | 0 =>
    have hi':i<vals.length:=by have:=(List.getElem?_eq_some_iff.1 hy).1;omega
    have:=h.cells (g:=g) rfl i vals[i] (List.getElem?_eq_getElem hi')
    simp only [List.getD_eq_getElem?_getD,List.getElem?_eq_getElem hi',Option.getD_some]
    simpa [Addr.add] using (cell_of_row h (List.getElem?_eq_getElem hi'))
   | j+1=>simp at hj) (fun i e j x hi hj=>by
   simp only [List.getElem?_map,Option.map_eq_some_iff] at hi
   obtain ⟨y,hy,rfl⟩:=hi
   match j with
   | 0 =>
    simp at hj
    subst hj
    have hi':i<vals.length:=by have:=(List.getElem?_eq_some_iff.1 hy).1;omega
    simp only [List.getD_eq_getElem?_getD,List.getElem?_eq_getElem hi',Option.getD_some]
    exact hr i _ _ (List.getElem?_eq_getElem hi') hy
   | j+1=>simp at hj)
  rw [hlm] at this
  exact this
theorem aJe {w:World} {F:Nat→Prop} {base:Nat} {e:TypeId} {v:Value} {l:List Int} {n:Nat} (hn:n=l.length) (h:w.ownsRow base e 1 v n (l.map (Value.int .i64))) (hF : ∀ g,base≤g→g<w.heap.size→F g):aDo w F v (.sl (l.map fun x=>[DV.v (.int .i64 x)])):=by
 have:=aNt (es:=l.map fun x=>DV.v (.int .i64 x)) h hF (by simp [hn]) fun i x y hx hy=>by
  simp only [List.getElem?_map,Option.map_eq_some_iff] at hx hy
  obtain ⟨a,h1,rfl⟩:=hx
  obtain ⟨b,h2,rfl⟩:=hy
  rw [h1] at h2
  cases h2
  exact .v _ rfl
 rwa [List.map_map] at this
theorem aLe {ls:List (List Int)} {vals:List Value} (h:ls.length=vals.length) (p:Int):fH ls p=((ls.zip vals).filter fun q=>decide (dF q.1=p)).map (·.1):=by
 unfold fH
 induction ls generalizing vals with
 | nil=>rfl
 | cons l ls ih =>
  obtain ⟨v,vals,rfl⟩ : ∃ v vs,vals=v :: vs:=by cases vals;simp at h;exact ⟨_,_,rfl⟩
  rw [List.zip_cons_cons,List.filter_cons,List.filter_cons]
  have:=ih (vals:=vals) (by simpa using h)
  by_cases e:dF l=p <;> simp [e,this]
theorem aTg {low high:Int} {cnt B:Nat} {w w':World} {vP:Value} {F:Nat→Prop} (h:aYc low high cnt w vP B w') (hF : ∀ g,w.heap.size≤g→g<w'.heap.size→F g) :
  aDo w' F vP (.sl ((aCy (gZ (cH low high cnt))).map fun x=>[DV.v (.int .i64 x)]))∧aDo w' F (.map (some B)) (.mp (fH (cH low high cnt))):=by
 obtain ⟨vals,val,n,h1,h2,h3,h4,h5,h6,h7⟩:=h
 refine ⟨aJe (aE3 _).symm h3 hF,?_⟩
 obtain ⟨clock,es,hb,hk⟩:=h4.key Tryz.underlying172 Tryz.underlying2 (aUn w')
 refine .mp B clock es _ val (hF B h2 h4.lt) hb (fun k k0 k1=>hk k ⟨k0,k1⟩) fun k k0 k1 => ?_
 have:=aNt (es:=(fH (cH low high cnt) k).map fun r=>DV.sl (r.map fun x=>[DV.v (.int .i64 x)])) (h5 k) hF (by rw [List.length_map,aLe h7,List.length_map];unfold pW;rw [List.length_map]) fun i x y hx hy=>by
  rw [aLe h7] at hy
  unfold pW at hx
  simp only [List.getElem?_map,Option.map_eq_some_iff,List.map_map] at hx hy
  obtain ⟨q,hq,rfl⟩:=hx
  obtain ⟨q',hq',rfl⟩:=hy
  rw [hq] at hq'
  cases hq'
  have hm:=List.mem_of_getElem? hq
  have hz:=(List.mem_filter.1 hm).1
  obtain ⟨i',hi',e⟩:=List.getElem_of_mem hz
  rw [List.getElem_zip] at e
  subst e
  rw [List.length_zip] at hi'
  exact aJe rfl (h6 i' _ _ (List.getElem?_eq_getElem (by omega)) (List.getElem?_eq_getElem (by omega))) hF
 rw [List.map_map] at this
 exact this
theorem aV1 {w w':World} {F:Nat→Prop} {μ:cT} {gl:aFc F w} (H:iY ⟨w,F, μ,lks [],gl⟩ F μ (lks []) w) (b:Below w.heap.size w w') (G:Nat→Prop) (hG : ∀ x,G x→w.heap.size≤x∧x<w'.heap.size):iY ⟨w,F, μ,lks [],gl⟩ (fun x=>F x∨G x) μ (lks []) w':=by
 have no : ∀ {k f o},lv (lks []) k f=some o→False:=fun hl=>by simp [lv,lks] at hl
 exact ⟨fun k f o hl=>(no hl).elim,fun k f o k' f' o' b hl=>(no hl).elim,fun k f o b hl=>(no hl).elim,fun k f o b hl=>(no hl).elim,fun x hx=>hx.elim (fun hx=>Nat.lt_of_lt_of_le (H.fz x hx) b.size) fun hx=>(hG x hx).2,fun x hx=>hx.elim .inl fun hx => .inr (.inr (hG x hx).1),
  ⟨fun x hx=>b.block x (H.fz x hx),fun _ hb => .inl hb,fun _ hb=>hb,fun k f o' hk ho'=>(no ho').elim⟩,b.os,b.tape,b.output,b.size,fun x hx _=>b.block x hx⟩
theorem aXt {low high cnt:Int} (h:1≤low∧low≤high∧high≤120∧1≤cnt∧cnt≤3):FnC Tryz.prog 132 [] [.d (.v (.int .i64 low)), .d (.v (.int .i64 high)), .d (.v (.int .i64 cnt))] [] (.agg [.d (.sl ((aCy (gZ (cH low high cnt.toNat))).map fun x=>[DV.v (.int .i64 x)])), .d (.mp (fH (cH low high cnt.toNat)))]):=by
 obtain ⟨q1,q2,q3,q4,q5⟩:=h
 refine ⟨by kernel_rfl,fun w F μ us gl H hs hus => ?_⟩
 obtain ⟨s0,s1,s2,rfl⟩ : ∃ s0 s1 s2,us = #[s0,s1,s2]:=by
  obtain ⟨l⟩:=us
  match l,hs with
  | [a,b,c],_=>exact ⟨a,b,c,rfl⟩
 have e0:=lV (hus 0 s0 _ rfl rfl)
 have e1:=lV (hus 1 s1 _ rfl rfl)
 have e2:=lV (hus 2 s2 _ rfl rfl)
 subst e0 e1 e2
 obtain ⟨c,rfl⟩ : ∃ c:Nat,cnt=c:=⟨cnt.toNat,by omega⟩
 rw [Int.toNat_natCast]
 refine aSb q1 q2 q3 (by omega) (by omega) _ (kX fun vP B w' hf => ?_)
 obtain ⟨d1,d2⟩:=aTg (F:=fun x=>F x∨(w.heap.size≤x∧x<w'.heap.size)) hf fun g h1 h2 => .inr ⟨h1,h2⟩
 obtain ⟨vals,val,n,h1,_⟩:=hf
 refine ⟨_,fun x=>F x∨(w.heap.size≤x∧x<w'.heap.size), μ,rfl,aV1 H h1 (fun x=>w.heap.size≤x∧x<w'.heap.size) fun x hx=>hx, .agg _ _ rfl fun i v a h1 h2 => ?_⟩
 match i with
 | 0=>simp at h1 h2;subst h1 h2;exact .d _ _ d1
 | 1=>simp at h1 h2;subst h1 h2;exact .d _ _ d2
 | i+2=>simp at h2
end Go.Proofs.YtceknlcbfomdhaaGreatDoor
