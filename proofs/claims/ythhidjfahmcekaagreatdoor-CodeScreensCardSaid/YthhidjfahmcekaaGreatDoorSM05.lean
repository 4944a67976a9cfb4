/- Parts of the proof: U1Ty S1p GkSeq GkMake GkTab GkAnyL GkFin. -/
import Derived.Test.YthhidjfahmcekaaGreatDoorProg
import Derived.Test.YthhidjfahmcekaaGreatDoorSM04
import Derived.Laws.MakeOwn
import Derived.Scope
import Derived.Lib.SliceRun
set_option linter.unusedSectionVars false
set_option linter.unusedVariables false
set_option linter.unusedSimpArgs false
namespace Go.Proofs
open Go Go.SL
instance :Mix Tryz.prog:=⟨by kernel_rfl⟩
instance :Ty Tryz.prog 3 false 1:=⟨by kernel_rfl⟩
instance :Und Tryz.prog 3 (.int .i64):=⟨by kernel_rfl⟩
instance :Zer Tryz.prog 3 (.int .i64 0):=⟨by kernel_rfl⟩
instance :Byt Tryz.prog 3 8:=⟨by kernel_rfl⟩
instance :Ty Tryz.prog 4 false 1:=⟨by kernel_rfl⟩
instance :Und Tryz.prog 4 (.bool):=⟨by kernel_rfl⟩
instance :Ty Tryz.prog 5 false 1:=⟨by kernel_rfl⟩
instance :Und Tryz.prog 5 (.int .u8):=⟨by kernel_rfl⟩
instance :Zer Tryz.prog 5 (.int .u8 0):=⟨by kernel_rfl⟩
instance :Byt Tryz.prog 5 1:=⟨by kernel_rfl⟩
instance :Ty Tryz.prog 9 false 1:=⟨by kernel_rfl⟩
instance :Und Tryz.prog 9 (.string):=⟨by kernel_rfl⟩
instance :Zer Tryz.prog 9 (.string ⟨#[]⟩):=⟨by kernel_rfl⟩
instance :Byt Tryz.prog 9 16:=⟨by kernel_rfl⟩
instance :Und Tryz.prog 21 (.int .i32):=⟨by kernel_rfl⟩
instance :Ty Tryz.prog 23 true 2:=⟨by kernel_rfl⟩
instance :FOff Tryz.prog 23 0 0:=⟨by kernel_rfl⟩
instance :FOff Tryz.prog 23 1 1:=⟨by kernel_rfl⟩
instance :Ty Tryz.prog 25 true 4:=⟨by kernel_rfl⟩
instance :Zer Tryz.prog 25 (.agg #[.int .i64 0,.int .i64 0,.int .i64 0,.int .i64 0]):=⟨by kernel_rfl⟩
instance :Bld Tryz.prog 25 [(0,1),(1,1),(2,1),(3,1)] [.int .i64 0,.int .i64 0,.int .i64 0,.int .i64 0]:=⟨by kernel_rfl⟩
instance :FOff Tryz.prog 25 0 0:=⟨by kernel_rfl⟩
instance :FOff Tryz.prog 25 1 1:=⟨by kernel_rfl⟩
instance :FOff Tryz.prog 25 2 2:=⟨by kernel_rfl⟩
instance :FOff Tryz.prog 25 3 3:=⟨by kernel_rfl⟩
instance :Ty Tryz.prog 26 false 1:=⟨by kernel_rfl⟩
instance :Zer Tryz.prog 26 (.int .i64 0):=⟨by kernel_rfl⟩
instance :Byt Tryz.prog 26 8:=⟨by kernel_rfl⟩
instance :Ty Tryz.prog 29 true 2:=⟨by kernel_rfl⟩
instance :Zer Tryz.prog 29 (.agg #[.int .i64 0,.bool false]):=⟨by kernel_rfl⟩
instance :Bld Tryz.prog 29 [(0,1),(1,1)] [.int .i64 0,.bool false]:=⟨by kernel_rfl⟩
instance :FOff Tryz.prog 29 0 0:=⟨by kernel_rfl⟩
instance :FOff Tryz.prog 29 1 1:=⟨by kernel_rfl⟩
instance :Ty Tryz.prog 32 true 4:=⟨by kernel_rfl⟩
instance :Zer Tryz.prog 32 (.agg #[.int .i64 0,.int .i64 0,.int .i64 0,.int .i64 0]):=⟨by kernel_rfl⟩
instance :Bld Tryz.prog 32 [(0,1),(1,1),(2,1),(3,1)] [.int .i64 0,.int .i64 0,.int .i64 0,.int .i64 0]:=⟨by kernel_rfl⟩
instance :FOff Tryz.prog 32 0 0:=⟨by kernel_rfl⟩
instance :FOff Tryz.prog 32 1 1:=⟨by kernel_rfl⟩
instance :FOff Tryz.prog 32 2 2:=⟨by kernel_rfl⟩
instance :FOff Tryz.prog 32 3 3:=⟨by kernel_rfl⟩
instance :Und Tryz.prog 45 (.slice 3):=⟨by kernel_rfl⟩
instance :Ty Tryz.prog 50 true 7:=⟨by kernel_rfl⟩
instance :Zer Tryz.prog 50 (.agg #[.int .i64 0,.bool false,.int .i64 0,.int .i64 0,.int .i64 0,.int .i64 0,.int .i64 0]):=⟨by kernel_rfl⟩
instance :Bld Tryz.prog 50 [(0,2),(2,4),(6,1)] [.int .i64 0,.bool false,.int .i64 0,.int .i64 0,.int .i64 0,.int .i64 0,.int .i64 0]:=⟨by kernel_rfl⟩
instance :FOff Tryz.prog 50 0 0:=⟨by kernel_rfl⟩
instance :FOff Tryz.prog 50 1 2:=⟨by kernel_rfl⟩
instance :FOff Tryz.prog 50 2 6:=⟨by kernel_rfl⟩
instance :Ty Tryz.prog 51 true 10:=⟨by kernel_rfl⟩
instance :Und Tryz.prog 51 (.array 10 5):=⟨by kernel_rfl⟩
instance :Zer Tryz.prog 51 (.agg #[.int .u8 0,.int .u8 0,.int .u8 0,.int .u8 0,.int .u8 0,.int .u8 0,.int .u8 0,.int .u8 0,.int .u8 0,.int .u8 0]):=⟨by kernel_rfl⟩
instance :Bld Tryz.prog 51 [(0,1),(1,1),(2,1),(3,1),(4,1),(5,1),(6,1),(7,1),(8,1),(9,1)] [.int .u8 0,.int .u8 0,.int .u8 0,.int .u8 0,.int .u8 0,.int .u8 0,.int .u8 0,.int .u8 0,.int .u8 0,.int .u8 0]:=⟨by kernel_rfl⟩
instance :Ty Tryz.prog 55 true 7:=⟨by kernel_rfl⟩
instance :Zer Tryz.prog 55 (.agg #[.int .i64 0,.bool false,.int .i64 0,.int .i64 0,.int .i64 0,.int .i64 0,.int .i64 0]):=⟨by kernel_rfl⟩
instance :Byt Tryz.prog 55 56:=⟨by kernel_rfl⟩
instance :Bld Tryz.prog 55 [(0,2),(2,4),(6,1)] [.int .i64 0,.bool false,.int .i64 0,.int .i64 0,.int .i64 0,.int .i64 0,.int .i64 0]:=⟨by kernel_rfl⟩
instance :FOff Tryz.prog 55 0 0:=⟨by kernel_rfl⟩
instance :FOff Tryz.prog 55 1 2:=⟨by kernel_rfl⟩
instance :FOff Tryz.prog 55 2 6:=⟨by kernel_rfl⟩
instance :Und Tryz.prog 66 (.slice 95):=⟨by kernel_rfl⟩
instance :Ty Tryz.prog 78 false 1:=⟨by kernel_rfl⟩
instance :Und Tryz.prog 78 (.slice 5):=⟨by kernel_rfl⟩
instance :Ty Tryz.prog 95 true 2:=⟨by kernel_rfl⟩
instance :Und Tryz.prog 95 (.array 2 3):=⟨by kernel_rfl⟩
instance :Zer Tryz.prog 95 (.agg #[.int .i64 0,.int .i64 0]):=⟨by kernel_rfl⟩
instance :Byt Tryz.prog 95 16:=⟨by kernel_rfl⟩
instance :Bld Tryz.prog 95 [(0,1),(1,1)] [.int .i64 0,.int .i64 0]:=⟨by kernel_rfl⟩
instance :Und Tryz.prog 97 (.slice 117):=⟨by kernel_rfl⟩
instance :Ty Tryz.prog 99 true 8:=⟨by kernel_rfl⟩
instance :Und Tryz.prog 99 (.array 8 9):=⟨by kernel_rfl⟩
instance :Zer Tryz.prog 99 (.agg #[.string ⟨#[]⟩,.string ⟨#[]⟩,.string ⟨#[]⟩,.string ⟨#[]⟩,.string ⟨#[]⟩,.string ⟨#[]⟩,.string ⟨#[]⟩,.string ⟨#[]⟩]):=⟨by kernel_rfl⟩
instance :Bld Tryz.prog 99 [(0,1),(1,1),(2,1),(3,1),(4,1),(5,1),(6,1),(7,1)] [.string ⟨#[]⟩,.string ⟨#[]⟩,.string ⟨#[]⟩,.string ⟨#[]⟩,.string ⟨#[]⟩,.string ⟨#[]⟩,.string ⟨#[]⟩,.string ⟨#[]⟩]:=⟨by kernel_rfl⟩
instance :Und Tryz.prog 102 (.slice 195):=⟨by kernel_rfl⟩
instance :Und Tryz.prog 113 (.int .u16):=⟨by kernel_rfl⟩
instance :Ty Tryz.prog 115 true 2:=⟨by kernel_rfl⟩
instance :Zer Tryz.prog 115 (.agg #[.int .i64 0,.int .i64 0]):=⟨by kernel_rfl⟩
instance :Bld Tryz.prog 115 [(0,1),(1,1)] [.int .i64 0,.int .i64 0]:=⟨by kernel_rfl⟩
instance :FOff Tryz.prog 115 0 0:=⟨by kernel_rfl⟩
instance :FOff Tryz.prog 115 1 1:=⟨by kernel_rfl⟩
instance :Ty Tryz.prog 117 true 5:=⟨by kernel_rfl⟩
instance :Zer Tryz.prog 117 (.agg #[.int .i64 0,.int .i64 0,.int .i64 0,.int .i64 0,.string ⟨#[]⟩]):=⟨by kernel_rfl⟩
instance :FOff Tryz.prog 117 0 0:=⟨by kernel_rfl⟩
instance :FOff Tryz.prog 117 1 2:=⟨by kernel_rfl⟩
instance :FOff Tryz.prog 117 2 3:=⟨by kernel_rfl⟩
instance :FOff Tryz.prog 117 3 4:=⟨by kernel_rfl⟩
instance :Und Tryz.prog 123 (.slice 55):=⟨by kernel_rfl⟩
instance :Und Tryz.prog 189 (.array 3 3):=⟨by kernel_rfl⟩
instance :Ty Tryz.prog 195 true 5:=⟨by kernel_rfl⟩
instance :Zer Tryz.prog 195 (.agg #[.int .i64 0,.int .i64 0,.int .i64 0,.int .i64 0,.string ⟨#[]⟩]):=⟨by kernel_rfl⟩
instance :Byt Tryz.prog 195 48:=⟨by kernel_rfl⟩
instance :Bld Tryz.prog 195 [(0,2),(2,1),(3,1),(4,1)] [.int .i64 0,.int .i64 0,.int .i64 0,.int .i64 0,.string ⟨#[]⟩]:=⟨by kernel_rfl⟩
instance :FOff Tryz.prog 195 0 0:=⟨by kernel_rfl⟩
instance :FOff Tryz.prog 195 1 2:=⟨by kernel_rfl⟩
instance :FOff Tryz.prog 195 2 3:=⟨by kernel_rfl⟩
instance :FOff Tryz.prog 195 3 4:=⟨by kernel_rfl⟩
instance :Ty Tryz.prog 199 true 2:=⟨by kernel_rfl⟩
instance :Und Tryz.prog 199 (.array 2 5):=⟨by kernel_rfl⟩
instance :Bld Tryz.prog 199 [(0,1),(1,1)] [.int .u8 0,.int .u8 0]:=⟨by kernel_rfl⟩
instance :Ty Tryz.prog 201 false 1:=⟨by kernel_rfl⟩
instance :Ty Tryz.prog 203 true 1:=⟨by kernel_rfl⟩
instance :Zer Tryz.prog 203 (.agg #[.nilFunc]):=⟨by kernel_rfl⟩
instance :Bld Tryz.prog 203 [(0,1)] [.nilFunc]:=⟨by kernel_rfl⟩
instance :FOff Tryz.prog 203 0 0:=⟨by kernel_rfl⟩
instance :Ty Tryz.prog 204 true 4:=⟨by kernel_rfl⟩
instance :Und Tryz.prog 204 (.array 4 203):=⟨by kernel_rfl⟩
instance :Zer Tryz.prog 204 (.agg #[.nilFunc,.nilFunc,.nilFunc,.nilFunc]):=⟨by kernel_rfl⟩
instance :Bld Tryz.prog 204 [(0,1),(1,1),(2,1),(3,1)] [.nilFunc,.nilFunc,.nilFunc,.nilFunc]:=⟨by kernel_rfl⟩
instance :Und Tryz.prog 211 (.slice 26):=⟨by kernel_rfl⟩
instance :Und Tryz.prog 217 (.map 3 4):=⟨by kernel_rfl⟩
instance :Ty Tryz.prog 231 false 1:=⟨by kernel_rfl⟩
instance :Und Tryz.prog 231 (.slice 234):=⟨by kernel_rfl⟩
instance :Ty Tryz.prog 234 true 8:=⟨by kernel_rfl⟩
instance :Zer Tryz.prog 234 (.agg #[.int .i64 0,.bool false,.int .i64 0,.int .i64 0,.int .i64 0,.int .i64 0,.int .i64 0,.int .i64 0]):=⟨by kernel_rfl⟩
instance :Byt Tryz.prog 234 64:=⟨by kernel_rfl⟩
instance :Bld Tryz.prog 234 [(0,7),(7,1)] [.int .i64 0,.bool false,.int .i64 0,.int .i64 0,.int .i64 0,.int .i64 0,.int .i64 0,.int .i64 0]:=⟨by kernel_rfl⟩
instance :FOff Tryz.prog 234 0 0:=⟨by kernel_rfl⟩
instance :FOff Tryz.prog 234 1 7:=⟨by kernel_rfl⟩
instance :Und Tryz.prog 245 (.slice 9):=⟨by kernel_rfl⟩
instance :Leaf Tryz.prog 25 [3,3,3,3]:=⟨by kernel_rfl,by kernel_rfl,by kernel_rfl⟩
instance :Leaf Tryz.prog 32 [3,3,3,3]:=⟨by kernel_rfl,by kernel_rfl,by kernel_rfl⟩
instance :Leaf Tryz.prog 51 [5,5,5,5,5,5,5,5,5,5]:=⟨by kernel_rfl,by kernel_rfl,by kernel_rfl⟩
instance :Leaf Tryz.prog 55 [3,4,3,3,3,3,3]:=⟨by kernel_rfl,by kernel_rfl,by kernel_rfl⟩
instance :Leaf Tryz.prog 95 [3,3]:=⟨by kernel_rfl,by kernel_rfl,by kernel_rfl⟩
instance :Leaf Tryz.prog 99 [9,9,9,9,9,9,9,9]:=⟨by kernel_rfl,by kernel_rfl,by kernel_rfl⟩
instance :Leaf Tryz.prog 199 [5,5]:=⟨by kernel_rfl,by kernel_rfl,by kernel_rfl⟩
instance :Bod Tryz.prog 17:=⟨by kernel_rfl⟩
instance :Bod Tryz.prog 18:=⟨by kernel_rfl⟩
instance :Bod Tryz.prog 19:=⟨by kernel_rfl⟩
instance :Bod Tryz.prog 20:=⟨by kernel_rfl⟩
instance :Bod Tryz.prog 21:=⟨by kernel_rfl⟩
instance :Bod Tryz.prog 22:=⟨by kernel_rfl⟩
instance :Bod Tryz.prog 23:=⟨by kernel_rfl⟩
instance :Bod Tryz.prog 24:=⟨by kernel_rfl⟩
instance :Bod Tryz.prog 25:=⟨by kernel_rfl⟩
instance :Bod Tryz.prog 26:=⟨by kernel_rfl⟩
instance :Bod Tryz.prog 27:=⟨by kernel_rfl⟩
instance :Bod Tryz.prog 28:=⟨by kernel_rfl⟩
instance :Bod Tryz.prog 29:=⟨by kernel_rfl⟩
instance :Bod Tryz.prog 30:=⟨by kernel_rfl⟩
instance :Bod Tryz.prog 31:=⟨by kernel_rfl⟩
instance :Bod Tryz.prog 32:=⟨by kernel_rfl⟩
instance :Bod Tryz.prog 33:=⟨by kernel_rfl⟩
instance :Bod Tryz.prog 34:=⟨by kernel_rfl⟩
instance :Bod Tryz.prog 36:=⟨by kernel_rfl⟩
instance :Bod Tryz.prog 40:=⟨by kernel_rfl⟩
instance :Bod Tryz.prog 42:=⟨by kernel_rfl⟩
instance :Bod Tryz.prog 44:=⟨by kernel_rfl⟩
instance :Bod Tryz.prog 46:=⟨by kernel_rfl⟩
instance :Bod Tryz.prog 47:=⟨by kernel_rfl⟩
instance :Bod Tryz.prog 49:=⟨by kernel_rfl⟩
instance :Bod Tryz.prog 50:=⟨by kernel_rfl⟩
instance :Bod Tryz.prog 51:=⟨by kernel_rfl⟩
instance :Bod Tryz.prog 52:=⟨by kernel_rfl⟩
instance :Bod Tryz.prog 53:=⟨by kernel_rfl⟩
instance :Bod Tryz.prog 54:=⟨by kernel_rfl⟩
instance :Bod Tryz.prog 55:=⟨by kernel_rfl⟩
instance :Bod Tryz.prog 56:=⟨by kernel_rfl⟩
instance :Bod Tryz.prog 57:=⟨by kernel_rfl⟩
instance :Bod Tryz.prog 58:=⟨by kernel_rfl⟩
instance :Bod Tryz.prog 59:=⟨by kernel_rfl⟩
instance :Bod Tryz.prog 60:=⟨by kernel_rfl⟩
instance :Bod Tryz.prog 61:=⟨by kernel_rfl⟩
instance :Bod Tryz.prog 62:=⟨by kernel_rfl⟩
instance :Bod Tryz.prog 63:=⟨by kernel_rfl⟩
instance :Bod Tryz.prog 64:=⟨by kernel_rfl⟩
instance :Bod Tryz.prog 65:=⟨by kernel_rfl⟩
instance :Bod Tryz.prog 66:=⟨by kernel_rfl⟩
instance :Bod Tryz.prog 67:=⟨by kernel_rfl⟩
instance :Bod Tryz.prog 68:=⟨by kernel_rfl⟩
instance :Bod Tryz.prog 69:=⟨by kernel_rfl⟩
instance :Bod Tryz.prog 70:=⟨by kernel_rfl⟩
instance :Bod Tryz.prog 71:=⟨by kernel_rfl⟩
instance :Bod Tryz.prog 72:=⟨by kernel_rfl⟩
instance :Bod Tryz.prog 81:=⟨by kernel_rfl⟩
instance :Bod Tryz.prog 97:=⟨by kernel_rfl⟩
instance :Bod Tryz.prog 98:=⟨by kernel_rfl⟩
instance :Bod Tryz.prog 99:=⟨by kernel_rfl⟩
instance :Bod Tryz.prog 100:=⟨by kernel_rfl⟩
instance :Bod Tryz.prog 101:=⟨by kernel_rfl⟩
instance :Bod Tryz.prog 102:=⟨by kernel_rfl⟩
instance :Bod Tryz.prog 103:=⟨by kernel_rfl⟩
instance :Bod Tryz.prog 104:=⟨by kernel_rfl⟩
instance :Bod Tryz.prog 105:=⟨by kernel_rfl⟩
instance :Bod Tryz.prog 106:=⟨by kernel_rfl⟩
instance :Bod Tryz.prog 107:=⟨by kernel_rfl⟩
instance :Bod Tryz.prog 108:=⟨by kernel_rfl⟩
instance :Bod Tryz.prog 109:=⟨by kernel_rfl⟩
instance :Bod Tryz.prog 110:=⟨by kernel_rfl⟩
instance :Bod Tryz.prog 111:=⟨by kernel_rfl⟩
instance :Bod Tryz.prog 112:=⟨by kernel_rfl⟩
instance :Bod Tryz.prog 113:=⟨by kernel_rfl⟩
instance :Bod Tryz.prog 114:=⟨by kernel_rfl⟩
instance :Bod Tryz.prog 116:=⟨by kernel_rfl⟩
instance :Bod Tryz.prog 117:=⟨by kernel_rfl⟩
instance :Bod Tryz.prog 118:=⟨by kernel_rfl⟩
instance :Bod Tryz.prog 119:=⟨by kernel_rfl⟩
instance :Bod Tryz.prog 120:=⟨by kernel_rfl⟩
instance :Bod Tryz.prog 121:=⟨by kernel_rfl⟩
instance :Bod Tryz.prog 122:=⟨by kernel_rfl⟩
instance :Bod Tryz.prog 123:=⟨by kernel_rfl⟩
instance :Bod Tryz.prog 124:=⟨by kernel_rfl⟩
instance :Bod Tryz.prog 125:=⟨by kernel_rfl⟩
instance :Bod Tryz.prog 127:=⟨by kernel_rfl⟩
instance :Bod Tryz.prog 128:=⟨by kernel_rfl⟩
instance :Bod Tryz.prog 129:=⟨by kernel_rfl⟩
instance :Bod Tryz.prog 130:=⟨by kernel_rfl⟩
instance :Bod Tryz.prog 131:=⟨by kernel_rfl⟩
instance :Bod Tryz.prog 132:=⟨by kernel_rfl⟩
instance :Bod Tryz.prog 133:=⟨by kernel_rfl⟩
instance :Bod Tryz.prog 134:=⟨by kernel_rfl⟩
instance :Bod Tryz.prog 135:=⟨by kernel_rfl⟩
instance :Bod Tryz.prog 136:=⟨by kernel_rfl⟩
instance :Bod Tryz.prog 137:=⟨by kernel_rfl⟩
instance :Bod Tryz.prog 138:=⟨by kernel_rfl⟩
instance :Bod Tryz.prog 139:=⟨by kernel_rfl⟩
instance :Bod Tryz.prog 140:=⟨by kernel_rfl⟩
instance :Bod Tryz.prog 141:=⟨by kernel_rfl⟩
instance :Bod Tryz.prog 144:=⟨by kernel_rfl⟩
instance :Bod Tryz.prog 145:=⟨by kernel_rfl⟩
instance :Bod Tryz.prog 146:=⟨by kernel_rfl⟩
instance :Bod Tryz.prog 147:=⟨by kernel_rfl⟩
instance :Bod Tryz.prog 180:=⟨by kernel_rfl⟩
instance :Bod Tryz.prog 181:=⟨by kernel_rfl⟩
instance :Bod Tryz.prog 182:=⟨by kernel_rfl⟩
instance :Bod Tryz.prog 183:=⟨by kernel_rfl⟩
instance :Bod Tryz.prog 184:=⟨by kernel_rfl⟩
instance :Bod Tryz.prog 185:=⟨by kernel_rfl⟩
instance :Bod Tryz.prog 189:=⟨by kernel_rfl⟩
instance :Bod Tryz.prog 190:=⟨by kernel_rfl⟩
instance :Bod Tryz.prog 191:=⟨by kernel_rfl⟩
instance :Bod Tryz.prog 192:=⟨by kernel_rfl⟩
instance :Bod Tryz.prog 193:=⟨by kernel_rfl⟩
instance :Bod Tryz.prog 194:=⟨by kernel_rfl⟩
instance :Bod Tryz.prog 243:=⟨by kernel_rfl⟩
instance :Bod Tryz.prog 267:=⟨by kernel_rfl⟩
end Go.Proofs
namespace Go.Proofs.A1
def sFix:ByteArray:=⟨#[102,105,120,101,100]⟩
def sFol:ByteArray:=⟨#[102,111,108,108,111,119,105,110,103]⟩
def sMan:ByteArray:=⟨#[109,97,110,117,97,108]⟩
def whenF (h:Bool) (e:Int):Int:=bif h then e else 0
theorem whenF_zero {h:Bool} {e:Int} (he:e ≠ 0):whenF h e = 0 ↔ h = false:=by cases h <;> simp [whenF,he]
def withinF (n l m:Int):Int:=whenF (decide (n < l) || decide (m < n)) 3
theorem withinF_zero {n l m:Int}:withinF n l m = 0 ↔ l ≤ n ∧ n ≤ m:=by
  unfold withinF
  rw [whenF_zero (by decide)]
  simp
def firstF:List Int → Int
  | []=>0
  | e :: r=>if e ≠ 0 then e else firstF r
theorem firstF_zero:∀ {l:List Int},firstF l = 0 ↔ ∀ e ∈ l,e = 0
  | []=>by simp [firstF]
  | e :: r => by
    unfold firstF
    by_cases h:e = 0
    · simp [h,firstF_zero (l:=r)]
    · simp [h]
theorem firstF_at {es:List Int} {k:Nat} (h:k < es.length):firstF (es.drop k) = if es[k] ≠ 0 then es[k] else firstF (es.drop (k + 1)):=by
  rw [List.drop_eq_getElem_cons h];rfl
def firstE (f:Nat → Int):Nat → Nat → Int
  | _,0=>0
  | k,n + 1=>if f k ≠ 0 then f k else firstE f (k + 1) n
def errE (f:Nat → Int) (n:Nat):Int:=firstE f 0 n
theorem firstE_ok {f:Nat → Int}:∀ {n k:Nat},firstE f k n = 0 ↔ ∀ i,k ≤ i → i < k + n → f i = 0
  | 0,k=>by simp only [firstE,true_iff];intro i h1 h2;omega
  | n + 1, k => by
    unfold firstE
    by_cases h:f k = 0
    · rw [if_neg (by simpa using h),firstE_ok]
      constructor
      · intro g i h1 h2
        by_cases e:i = k
        · rw [e];exact h
        · exact g i (by omega) (by omega)
      · intro g i h1 h2;exact g i (by omega) (by omega)
    · rw [if_pos h]
      constructor
      · intro e;exact absurd e h
      · intro g;exact absurd (g k (Nat.le_refl _) (by omega)) h
theorem errE_ok {f:Nat → Int} {n:Nat}:errE f n = 0 ↔ ∀ i,i < n → f i = 0:=by
  unfold errE
  rw [firstE_ok]
  constructor
  · intro g i h;exact g i (Nat.zero_le _) (by omega)
  · intro g i _ h;exact g i (by omega)
theorem firstE_bad {f:Nat → Int}:∀ {n k j:Nat},(∀ i,k ≤ i → i < j → f i = 0) → k ≤ j → j < k + n → f j ≠ 0 → firstE f k n = f j
  | 0,k,j,_,h1,h2,_=>by omega
  | n + 1, k, j, h, h1, h2, h3 => by
    unfold firstE
    by_cases e:k = j
    · subst e;rw [if_pos h3]
    · rw [if_neg (by simpa using h k (Nat.le_refl _) (by omega))]
      exact firstE_bad (fun i h4 h5=>h i (by omega) h5) (by omega) (by omega) h3
theorem errE_bad {f:Nat → Int} {n j:Nat} (h:∀ i,i < j → f i = 0) (hj:j < n) (hn:f j ≠ 0):errE f n = f j:=
  firstE_bad (fun i _ h2=>h i h2) (Nat.zero_le _) (by omega) hn
def bt (s:ByteArray) (i:Nat):Int:=((s.data.toList[i]?.getD 0).toNat:Nat)
def isL (c:Int):Bool:=(decide (65 ≤ c) && decide (c ≤ 90)) || (decide (97 ≤ c) && decide (c ≤ 122))
def isD (c:Int):Bool:=decide (48 ≤ c) && decide (c ≤ 57)
def okB (c:Int):Bool:=isL c || isD c || decide (c = 95)
def okF (s:ByteArray) (k:Nat):Bool:=(List.range' k (s.size - k)).all fun i=>okB (bt s i)
def nameF (s:ByteArray):Bool:=decide (0 < s.size) && decide (s.size ≤ 24) && isL (bt s 0) && okF s 1
structure En where
  nm:ByteArray
  mt:ByteArray
  kd:ByteArray
  tm:Int
  ln:Int
  ov:Int
def En.zero:En:=⟨⟨#[]⟩,⟨#[]⟩,⟨#[]⟩,0,0,0⟩
def nth (es:List En) (k:Nat):En:=es.getD k En.zero
structure EnOk (x:En):Prop where
  nm:nameF x.nm = true
  mt:nameF x.mt = true
  kd:x.kd = sFix ∨ x.kd = sFol ∨ x.kd = sMan
  tm:0 ≤ x.tm ∧ x.tm ≤ 10000000
  fol:x.kd = sFol → x.tm = 0
  ln:1 ≤ x.ln ∧ x.ln ≤ 1000000
  ov:0 ≤ x.ov ∧ x.ov ≤ 250
  lt:x.ov < x.ln
def frm (kd:ByteArray) (t j:Int):Int:=if kd = sFol then j else if kd = sMan then max t j else t
def jn (es:List En):Nat → Int
  | 0=>0
  | k + 1=>frm (nth es k).kd (nth es k).tm (jn es k) + (nth es k).ln - (nth es k).ov
def fr (es:List En) (k:Nat):Int:=frm (nth es k).kd (nth es k).tm (jn es k)
def to (es:List En) (k:Nat):Int:=fr es k + (nth es k).ln
structure EsOk (es:List En):Prop where
  ok:∀ k,k < es.length → EnOk (nth es k)
  few:es.length ≤ 24
end Go.Proofs.A1
namespace Go.SL
open Go
theorem Keeps.over {md fp:List Nat} {a b c:World} (h:Keeps md a b) (hf:∀ x ∈ fp,x ∈ md ∨ a.heap.size ≤ x) (k:Keeps fp b c):Keeps md a c:=
  ⟨k.os.trans h.os,k.tape.trans h.tape,k.output.trans h.output,Nat.le_trans h.size k.size,fun i hi hm=>by
    rw [← h.block i hi hm]
    exact k.block i (Nat.lt_of_lt_of_le hi h.size) (fun hx=>by
      rcases hf i hx with h1 | h1
      · exact hm h1
      · omega)⟩
def Out (md:List Nat) (v:Value) (xs:List (List Value)):Prop:=xs ≠ [] → ∀ b,v.ownBlock = some b → b ∉ md
theorem Out.nil (v:Value) (xs:List (List Value)):Out [] v xs:=fun _ _ _ h=>by cases h
theorem Rd.keepsN {md:List Nat} {w w':World} {v:Value} {sz:Nat} {xs:List (List Value)} (h:Rd w v sz xs) (hn:Out md v xs) (hk:Keeps md w w'):Rd w' v sz xs:=by
  obtain ⟨a,cap,b,o,rfl,h2,h2',h3,h4⟩:=h
  refine ⟨a,cap,b,o,rfl,h2,h2',h3,fun i r hr=>⟨(h4 i r hr).1,fun j u hu=>?_⟩⟩
  have:=(h4 i r hr).2 j u hu
  have hb:=World.block_lt_of_cell? w _ this
  have hne:xs ≠ []:=by rintro rfl;simp at hr
  rw [← this]
  simp only [World.cell?]
  rw [hk.block b hb (hn hne b (by rw [h3 hne];rfl))]
theorem Rd.out {md fp:List Nat} {w0:World} {v:Value} {sz:Nat} {xs:List (List Value)} (h:Rd w0 v sz xs) (hsz:0 < sz) (hn:Out md v xs) (hF:∀ b ∈ fp,b ∈ md ∨ w0.heap.size ≤ b):Out fp v xs:=fun hne b hb hbf=>by
  obtain ⟨a,cap,b',o,rfl,h2,h2',h3,h4⟩:=h
  have ha:=h3 hne
  subst ha
  have:b' = b:=by simpa [Value.ownBlock] using hb
  subst this
  obtain ⟨r,rs,rfl⟩:=List.exists_cons_of_ne_nil hne
  obtain ⟨hl,hc⟩:=h4 0 r rfl
  obtain ⟨u,us,rfl⟩:=List.exists_cons_of_ne_nil (l:=r) (by rintro rfl;simp at hl;omega)
  have hlt:=World.block_lt_of_cell? w0 _ (hc 0 u rfl)
  rcases hF b' hbf with h | h
  · exact hn hne b' hb h
  · exact absurd hlt (by simp;omega)
theorem Out.not_mem {fp:List Nat} {a:Option Addr} {len cap b o:Nat} {xs:List (List Value)} (h:Out fp (.slice a len cap) xs) (hne:xs ≠ []) (ha:a = some ⟨b,o,none⟩):b ∉ fp:=h hne b (by rw [ha];rfl)
theorem Ats.baseN {c:Cx} {hs:List Asn} {b o:Nat} {vs:List Value} (h:∀ (j:Nat) (u:Value),vs[j]? = some u → c.w0.cell? ⟨b,o + j,none⟩ = some u) (hmd:b ∉ c.md):Ats c hs b o vs:=
  Ats.of_get fun j v hv=>At.baseN (h j v hv) hmd
def YieldsB (P:Program) (l:Nat) (args:List Value) (w0:World) (md:List Nat) (pre:Asn) (post:Bool → Asn):Prop:=
  ∀ W fp, Keeps md w0 W → (∀ b ∈ fp, b ∈ md ∨ w0.heap.size ≤ b) → fp.Nodup → pre.sat (hp W) fp → ∃ f tmps asg body, (Instr.yield l args.toArray).run P W = .ok (.round l f tmps asg body) W ∧
    RoundIn (FR none) 0 P l f tmps asg body W (RoundR fp W post)
def Iter (P:Program) (f:FuncId) (first cap:List Value) (own:List Asn) (items:List (List Value)) (w0:World) (md:List Nat) (w:World):Prop:=
  ∀ (l : Nat) (fp : List Nat) (J : Nat → Asn) (E : Asn), Keeps md w0 w → (∀ b ∈ fp, b ∈ md ∨ w0.heap.size ≤ b) → fp.Nodup → Sats (hp w) (J 0 :: own) fp →
    (∀ k vs,items[k]? = some vs → YieldsB P l vs w0 md (J k) (fun b=>bif b then J (k + 1) else E)) →
    Gives P f (first++[.func (.yield l) #[] #[]]++cap) w fp (fun _:Bool=>True) (fun _=>.tuple #[]) (fun b=>(bif b then J items.length else E) :: own)
section
variable {P:Program} {r:Option Nat} {c:Cx} {D:List Nat} {sl:Slots} {hs hs':List Asn} {Q:Exit → Act → World → Prop} {ι κ:Type}
variable {ops:Array Oper} {d:Nat} {ty:TypeId} {pos:String} {af:Array Edge} {rest:List Oper}
theorem tr_yieldB {x:Operand} {xs:List Operand} {ts:Array TypeId} {l:Nat} {w0:World} {md:List Nat} {vs:List Value} {pre:Asn} {post:Bool → Asn} (hB:Keeps md w0 c.w0) (hF:∀ b ∈ c.md,b ∈ md ∨ w0.heap.size ≤ b) (hy:YieldsB P l vs w0 md pre post)
    (hx:Is sl x (.func (.yield l) #[] #[])) (ha:Iss sl xs vs) (hd:Nat.blt d c.nt = true) (ht:Take hs pre hs')
    (k:∀ b,Tr c D ((d,.bool b) :: sl) (post b :: hs') (WL P r ops Q rest)):Tr c D sl hs (WL P r ops Q (⟨some d,.call ⟨.value x,xs.toArray,ts⟩,ty,pos,af,none⟩ :: rest)):=fun a w hst=>by
  have hm:=hst.mem.take (ht.append _)
  obtain ⟨kk,fp,hn,⟨f1,f2,rfl,h1,h2⟩,hb⟩:=hm
  obtain ⟨f,tmps,asg,body,hrun,hround⟩:=hy w f1 (hB.over hF kk) (fun b hb'=>by
    rcases hb b (List.mem_append_left _ hb') with h | h
    · exact .inr (Nat.le_trans hB.size h)
    · exact hF b h) (List.nodup_append.1 hn).1 h1
  refine wl_op rfl ⟨fr_about _ _ _ _ _,?_⟩
  rw [Oper.semAt_eq _ _ _ (by simp)]
  have:(execOp a.eval ⟨some d,.call ⟨.value x,xs.toArray,ts⟩,ty,pos,af,none⟩).run P w = .ok (.round l f tmps asg body) w:=by
    simp only [execOp,resolve,hx a hst.slots,Deferred.ofValue,Sem.run_bind,Sem.run_pure,Result.andThen_ok,invoke,List.map_toArray,ha.map hst.slots]
    simpa using hrun
  rw [this]
  refine ⟨by simp [FR,Fence.wide],(round_any hround).mono fun e w' ⟨b,he,hk,fp',hn',hs1,hf'⟩=>?_⟩
  subst he
  refine k b _ _ ((hst.put (by simpa [Nat.blt_eq] using hd) (.bool b)).heap ?_)
  obtain ⟨n1,n2,n12⟩:=List.nodup_append.1 hn
  have hlt:∀ b ∈ f2,b < w.heap.size:=fun b hb'=>let ⟨o,ho⟩:=h2.own b hb';hp_lt ho
  refine ⟨?_,fp'++f2,?_,⟨fp',f2,rfl,hs1,h2.loc fun b hb'=>?_⟩,?_⟩
  · refine ⟨hk.os.trans kk.os,hk.tape.trans kk.tape,hk.output.trans kk.output,Nat.le_trans kk.size hk.size,fun b hb' hm=>?_⟩
    rw [← kk.block b hb' hm]
    refine hk.block b (Nat.lt_of_lt_of_le hb' kk.size) (fun hf=>?_)
    rcases hb b (List.mem_append_left _ hf) with h | h
    · omega
    · exact hm h
  · refine List.nodup_append.2 ⟨hn',n2,fun x hx y hy e=>?_⟩
    subst e
    rcases hf' x hx with h | h
    · exact n12 x h x hy rfl
    · have:=hlt x hy;omega
  · exact hk.block b (hlt b hb') (fun hf=>n12 b hf b hb' rfl)
  · intro b hb'
    rcases List.mem_append.1 hb' with h | h
    · rcases hf' b h with h | h
      · exact hb b (List.mem_append_left _ h)
      · exact .inl (Nat.le_trans kk.size h)
    · exact hb b (List.mem_append_right _ h)
theorem yieldsB_of {l:Nat} {rc:Loop} {nt:Nat} {vs:List Value} {w0:World} {md:List Nat} {Φ:ι → Prop} {A:ι → List Asn} {post:Bool → Asn} {sl0:Slots} (hsl:SlotsOk sl0 ⟨rc.tmps,[]⟩) (hn:rc.tmps.size = nt) (hlen:vs.length = rc.params.size) (hps:∀ t ∈ rc.params.toList,t < nt)
    (h:∀ x W fp,Keeps md w0 W → (∀ b ∈ fp,b ∈ md ∨ w0.heap.size ≤ b) → Φ x → Tr ⟨W,fp,nt⟩ [] (putAll (rc.params.toList.zip vs) sl0) (blk l (recL rc .ready none) :: A x) (WP P (some l) rc.assign (Exit.then (Begins P l rc.body (RoundR fp W post)) (fun _ _ _=>False)))) :
    YieldsB P l vs w0 md (exA Φ fun x=>blk l (recL rc .ready none) :: A x) post:=by
  rintro W fp hB hF hnd ⟨x,hx,hsat⟩
  have hmem:Mem ⟨W,fp,nt⟩ (blk l (recL rc .ready none) :: A x) W:=⟨.refl _ _,fp,hnd,hsat,fun b hb=>.inr hb⟩
  have hb:W.heap[l]? = some (recL rc .ready none):=hmem.blk .here
  have hy:=run_yield (P:=P) (w:=W) (l:=l) (r:={ rc with state:=.ready,pending:=none }) (args:=vs.toArray) hb (by simpa using hlen)
  refine ⟨_,_,_,_,hy,?_⟩
  refine roundIn_of_wpIn trivial ?_
  obtain ⟨g1,g2⟩:=putAll_ok (rc.params.toList.zip vs) sl0 rc.tmps hsl hn (fun p hp=>hps p.1 (by
    obtain ⟨t,v⟩:=p
    exact (List.of_mem_zip hp).1))
  have hfold:((rc.params.zip vs.toArray).foldl (fun tmps (x:Nat × Value)=>tmps.setIfInBounds x.1 x.2) rc.tmps) = (rc.params.toList.zip vs).foldl (fun (t:Array Value) p=>t.setIfInBounds p.1 p.2) rc.tmps:=by
    rw [← Array.foldl_toList]
    simp
  have:=h x W fp hB hF hx ⟨(rc.params.toList.zip vs).foldl (fun (t:Array Value) p=>t.setIfInBounds p.1 p.2) rc.tmps,[]⟩ W ⟨by simpa [mks] using hmem,g1,g2,rfl⟩
  rw [← hfold] at this
  exact this
def SeqPost (l:Nat) (rc:Loop) (Φ:Nat → ι → Prop) (A:ι → List Asn) (Ψ:κ → Prop) (B:κ → List Asn) (pd:κ → Code) (k:Nat) (b:Bool):Asn:=
  bif b then exA (Φ k) (fun x=>blk l (recL rc .ready none) :: A x) else exA Ψ (fun y=>blk l (recL rc .done (some (pd y))) :: B y)
theorem tr_rangeSeq {g:Operand} {ps:List Tmp} {asg body:Code} {f:FuncId} {first cap:List Value} [Bod P f] (hg:Is sl g (.func (.func f) first.toArray cap.toArray))
    (own:List Asn) (items:List (List Value)) (hit:∀ w,Mem c hs w → Iter P f first cap own items c.w0 c.md w)
    (Φ:Nat → ι → Prop) (A:ι → List Asn) (Ψ:κ → Prop) (B:κ → List Asn) (pd:κ → Code) (x0:ι) {rst:List Asn} (h0:Φ 0 x0) (ht:Takes hs (A x0++own) rst)
    (hlen:∀ vs ∈ items,vs.length = ps.length) (hps:∀ t ∈ ps,t < c.nt)
    (round:∀ l rc W fp k x vs,rc.tmps.size = c.nt → items[k]? = some vs → Φ k x → Keeps c.md c.w0 W → (∀ b ∈ fp,b ∈ c.md ∨ c.w0.heap.size ≤ b) →
      Tr ⟨W,fp,c.nt⟩ [] (putAll (ps.zip vs) sl) (blk l (recL rc .ready none) :: A x) (WP P (some l) asg (Exit.then (Begins P l body (RoundR fp W (SeqPost l rc Φ A Ψ B pd (k + 1)))) (fun _ _ _=>False))))
    (kn:∀ x D,Φ items.length x → Tr c D sl (A x++own++rst) (Q .normal))
    (kj:∀ y D,Ψ y → Tr c D sl (B y++own++rst) (WP P none (pd y) Q)) :
    Tr c D sl hs (WP P none (.rangeFunc g ps.toArray asg body) Q):=by
  refine tr_rangeFunc (ι:=ι ⊕ κ) hg (As:=fun l rc=>blk l (recL rc .ready none) :: (A x0++own)) (rest:=rst)
    (Φ:=fun l rc x=>match x with | .inl x=>Φ items.length x | .inr y=>Ψ y) (own:=fun l rc x=>match x with | .inl x=>A x++own | .inr y=>B y++own)
    (st:=fun x=>match x with | .inl _=>.ready | .inr _=>.done) (pd:=fun x=>match x with | .inl _=>none | .inr y=>some (pd y)) ?_ ?_ ?_ ?_ ?_
  · exact fun l rc=>Takes.cons .here ht
  · rintro (x | y) <;> simp
  · intro l rc hps' ha hbd hsl hsz w fp hm hn hs1 hfp
    have hfp':∀ b ∈ fp,b ∈ c.md ∨ c.w0.heap.size ≤ b:=fun b hb=>(hfp b hb).symm
    have hs2:Sats (hp w) (exA (Φ 0) (fun x=>blk l (recL rc .ready none) :: A x) :: own) fp:=by
      rw [← List.cons_append] at hs1
      obtain ⟨f1,f2,rfl,h1,h2⟩:=Sats.append_iff.1 hs1
      exact ⟨f1,f2,rfl,⟨x0,h0,h1⟩,h2⟩
    refine (hit w hm.dropHead l fp (fun k=>exA (Φ k) (fun x=>blk l (recL rc .ready none) :: A x)) (exA Ψ (fun y=>blk l (recL rc .done (some (pd y))) :: B y)) hm.keeps hfp' hn hs2 ?_).mono ?_
    · intro k vs hk
      refine yieldsB_of (post:=SeqPost l rc Φ A Ψ B pd (k + 1)) hsl hsz (by rw [hps'];simpa using hlen vs (List.mem_of_getElem? hk)) (by rw [hps'];simpa using hps) ?_
      intro x W fp2 hB hF hx
      have:=round l rc W fp2 k x vs hsz hk hx hB hF
      rw [ha,hbd,hps']
      simpa using this
    · rintro e w' ⟨b,he,_,hk,fp',hn',hs',hf'⟩
      obtain ⟨f1,f2,rfl,h1,h2⟩:=hs'
      cases b with
      | true =>
        obtain ⟨x,hx,h1⟩:=h1
        exact ⟨.inl x,he,hx,hk,f1++f2,hn',by
          show Sats _ (blk l (recL rc .ready none) :: (A x++own)) _
          rw [← List.cons_append]
          exact Sats.append_iff.2 ⟨f1,f2,rfl,h1,h2⟩,hf'⟩
      | false =>
        obtain ⟨y,hy,h1⟩:=h1
        exact ⟨.inr y,he,hy,hk,f1++f2,hn',by
          show Sats _ (blk l (recL rc .done (some (pd y))) :: (B y++own)) _
          rw [← List.cons_append]
          exact Sats.append_iff.2 ⟨f1,f2,rfl,h1,h2⟩,hf'⟩
  · rintro l rc (x | y) b hx hpd
    · exact kn x (b :: D) hx
    · simp at hpd
  · rintro l rc (x | y) b j hx hpd
    · simp at hpd
    · simp only [Option.some.injEq] at hpd;subst hpd
      exact kj y (b :: D) hx
theorem tr_seqN {nt:Nat} {W:World} {fp:List Nat} {l:Nat} {rc:Loop} {Φ:Nat → ι → Prop} {A:ι → List Asn} {Ψ:κ → Prop} {B:κ → List Asn} {pd:κ → Code} {k:Nat} {s:LoopState} {p:Option Code} (x:ι) {rst rst2:List Asn}
    (ht:Take hs (blk l (recL rc s p)) rst) (hx:Φ k x) (h2:Takes rst (A x) rst2):Tr ⟨W,fp,nt⟩ D sl hs (roundPost P l (RoundR fp W (SeqPost l rc Φ A Ψ B pd k)) .normal):=
  tr_roundN (c:=⟨W,fp,nt⟩) (post:=SeqPost l rc Φ A Ψ B pd k) x rfl ht hx (Takes.cons .here h2)
end
end Go.SL
namespace Go.SL
open Go
theorem flatten_rep_get {α:Type} {zs:List α} {n i:Nat} (h0:0 < zs.length) (hi:i < n * zs.length):(List.replicate n zs).flatten[i]? = zs[i % zs.length]?:=by
  induction n generalizing i with
  | zero=>omega
  | succ n ih =>
    rw [List.replicate_succ,List.flatten_cons,List.getElem?_append]
    split
    · rw [Nat.mod_eq_of_lt (by assumption)]
    · rw [ih (by rw [Nat.succ_mul] at hi;omega),Nat.mod_eq_sub_mod (a:=i) (by omega)]
theorem madeCells_rows {z:Array Value} {n:Nat} (h0:0 < z.size):(madeCells z (n * z.size)) = (List.replicate n z.toList).flatten.toArray:=by
  apply Array.ext'
  apply List.ext_getElem?
  intro i
  rw [Array.getElem?_toList]
  by_cases hi:i < n * z.size
  · have:=flatten_rep_get (zs:=z.toList) (n:=n) (i:=i) (by simpa using h0) (by simpa using hi)
    rw [this]
    simp [madeCells,hi,Nat.mod_lt _ h0]
  · rw [Array.getElem?_eq_none (by simp [size_madeCells];omega),List.getElem?_eq_none (by simp;omega)]
section
variable {P:Program} {c:Cx} {sl:Slots} {hs:List Asn} {dst:Option Tmp} {ty:TypeId} {pos:String} {af:Array Edge} {g:Option (Nat × Bool)}
theorem rk_make {t e:TypeId} {agg:Bool} {size bytes l cp:Nat} {z:Value} {x y:Operand} {kx ky:IntKind} [hu:Und P t (.slice e)] [hT:Ty P e agg size] [hZ:Zer P e z] [hB:Byt P e bytes]
    (hx:Is sl x (.int kx l)) (hy:Is sl y (.int ky cp)) (hl:l ≤ cp) (hb:bytes * cp ≤ 281474976710656) (hz:z.cells.size = size) (hsz:Nat.blt 0 size = true) (h63:cp ≤ 9223372036854775807) :
    RunN P c sl hs ⟨dst,.makeSlice t x y,ty,pos,af,g⟩ (fun b=>.slice (some ⟨b,0,none⟩) l cp) (.cells (List.replicate cp z.cells.toList).flatten.toArray e (0,0)):=
  ⟨by simp,fun a w ha _=>by
    obtain ⟨de,i,hde,hi,_,hsize⟩:=Ty.parts (P:=P) (t:=e) (agg:=agg) (n:=size)
    have hzero:i.zero = some z:=by have:=hZ.eq;rw [hi] at this;simpa using this
    have hbytes:i.bytes = bytes:=by have:=hB.eq;rw [hi] at this;simpa using this
    have hs0:0 < size:=by simpa [Nat.blt_eq] using hsz
    have:=run_make (P:=P) w t e i z hu.eq hi hzero kx ky l cp (by omega) (by omega) (by rw [hbytes];omega) (by omega)
    have e1:=madeCells_rows (z:=z.cells) (n:=cp) (by omega)
    rw [hz] at e1
    simp only [execOp,hx a ha,hy a ha]
    refine (by rw [Sem.run_bind,this];simp only [Int.toNat_natCast,hsize,e1];rfl)⟩
end
end Go.SL
namespace Go.SL
open Go
def tab (n:Nat) (f:Nat → List Value):List Value:=((List.range n).map f).flatten
theorem tab_length {n sz:Nat} {f:Nat → List Value} (hf:∀ i,i < n → (f i).length = sz):(tab n f).length = n * sz:=by
  unfold tab
  induction n with
  | zero=>simp
  | succ n ih =>
    rw [List.range_succ,List.map_append,List.flatten_append,List.length_append,ih (fun i h=>hf i (by omega))]
    simp [hf n (by omega),Nat.succ_mul]
theorem tab_get {n sz i j:Nat} {f:Nat → List Value} (hf:∀ i,i < n → (f i).length = sz) (hi:i < n) (hj:j < sz):(tab n f)[i * sz + j]? = (f i)[j]?:=by
  have hl:=hf i hi
  obtain ⟨u,hu⟩:∃ u,(f i)[j]? = some u:=⟨(f i)[j]'(by omega),List.getElem?_eq_getElem (by omega)⟩
  rw [hu]
  exact flatten_get _ i (fun r hr=>by obtain ⟨k,hk,rfl⟩:=List.mem_map.1 hr;exact hf k (List.mem_range.1 hk)) (by simp [hi]) hu
theorem tab_congr {n:Nat} {f g:Nat → List Value} (h:∀ i,i < n → f i = g i):tab n f = tab n g:=by
  unfold tab
  congr 1
  exact List.map_congr_left fun i hi=>h i (List.mem_range.1 hi)
theorem setCells_get:∀ (vs cs:List Value) (o k:Nat),o + vs.length ≤ cs.length → (setCells cs o vs)[k]? = if o ≤ k ∧ k < o + vs.length then vs[k - o]? else cs[k]?
  | [], cs, o, k, _ => by
    rw [if_neg (by simp only [List.length_nil];omega)];rfl
  | v :: vs, cs, o, k, h => by
    simp only [List.length_cons] at h ⊢
    rw [setCells,setCells_get vs _ (o + 1) k (by simp;omega)]
    by_cases h1:o + 1 ≤ k ∧ k < o + 1 + vs.length
    · rw [if_pos h1,if_pos (by omega),show k - o = (k - (o + 1)) + 1 by omega,List.getElem?_cons_succ]
    · rw [if_neg h1]
      by_cases h2:k = o
      · subst h2
        rw [if_pos (by omega),Nat.sub_self,List.getElem?_cons_zero,List.getElem?_set_self (by omega)]
      · rw [if_neg (by omega),List.getElem?_set_ne (by omega)]
theorem tab_split {n sz k:Nat} (h:k < n * sz):k / sz < n ∧ k % sz < sz ∧ k = k / sz * sz + k % sz:=by
  have hs:0 < sz:=by
    rcases Nat.eq_zero_or_pos sz with h0 | h0
    · subst h0;simp at h
    · exact h0
  refine ⟨Nat.div_lt_of_lt_mul (by rwa [Nat.mul_comm]),Nat.mod_lt _ hs,?_⟩
  have:=Nat.div_add_mod k sz
  rw [Nat.mul_comm] at this
  exact this.symm
theorem tab_set {n sz i o:Nat} {f:Nat → List Value} {vs:List Value} (hf:∀ i,i < n → (f i).length = sz) (hi:i < n) (ho:o + vs.length ≤ sz) :
    setCells (tab n f) (i * sz + o) vs = tab n (fun k=>if k = i then setCells (f i) o vs else f k):=by
  have hm:(i + 1) * sz ≤ n * sz:=Nat.mul_le_mul_right _ hi
  rw [Nat.succ_mul] at hm
  have hg:∀ k,k < n → ((fun k=>if k = i then setCells (f i) o vs else f k) k).length = sz:=fun k hk=>by
    show (if k = i then _ else _:List Value).length = sz
    split
    · rw [setCells_length,hf i hi]
    · exact hf k hk
  have hl1:=tab_length hf
  have hl2:=tab_length hg
  apply List.ext_getElem?
  intro k
  rw [setCells_get _ _ _ _ (by rw [hl1];omega)]
  by_cases hk:k < n * sz
  · obtain ⟨h1,h2,h3⟩:=tab_split hk
    rw [h3,tab_get hg h1 h2,tab_get hf h1 h2]
    by_cases e:k / sz = i
    · rw [e]
      simp only [if_true]
      rw [setCells_get _ _ _ _ (by rw [hf i hi];omega)]
      by_cases h4:o ≤ k % sz ∧ k % sz < o + vs.length
      · rw [if_pos h4,if_pos (by omega),show i * sz + k % sz - (i * sz + o) = k % sz - o by omega]
      · rw [if_neg h4,if_neg (by omega)]
    · rw [if_neg]
      · simp only [if_neg e]
      · intro ⟨h4,h5⟩
        rcases Nat.lt_or_gt_of_ne e with e | e
        · have:(k / sz + 1) * sz ≤ i * sz:=Nat.mul_le_mul_right _ e
          rw [Nat.succ_mul] at this;omega
        · have:(i + 1) * sz ≤ k / sz * sz:=Nat.mul_le_mul_right _ e
          rw [Nat.succ_mul] at this;omega
  · rw [if_neg (by omega),List.getElem?_eq_none (by omega),List.getElem?_eq_none (by omega)]
theorem tab_eq_map (n:Nat) (f:Nat → List Value):tab n f = ((List.range n).map f).flatten:=rfl
theorem At.blkL {c:Cx} {hs hs':List Asn} {b o:Nat} {cs:List Value} {E:TypeId} {fz:Nat × Nat} {v:Value} (ht:Take hs (SL.blk b (.cells cs.toArray E fz)) hs') (hv:cs[o]? = some v):At c hs b o v:=
  At.blk ht (by simpa using hv)
section
variable {P:Program} {c:Cx} {sl:Slots} {hs hs':List Asn}
theorem endsCT {fn:Func} {t u:Tmp} {T:TypeId} {b o n:Nat} {cs vs:List Value} {E:TypeId} {fz:Nat × Nat} {y:Value} (h:fn.results = #[.cell t T,.tmp u]) (hT:Ty P T true n) (hp:sget sl t = some (.pointer (some ⟨b,o,none⟩))) (ht:Take hs (SL.blk b (.cells cs.toArray E fz)) hs') (hv:cellsAt cs o n = vs) (hl:vs.length = n) (hy:sget sl u = some y):Ends P fn c sl hs (.tuple #[.agg vs.toArray,y]):=
  endsL (xs:=[.cell t T,.tmp u]) (vs:=[.agg vs.toArray,y]) h (RVs.cons (RV.cell hp (loadsN (Ats.blk ht hv) hl)) (RVs.cons (RV.tmp hy) RVs.nil)) (by simp)
variable {dst:Option Tmp} {ty:TypeId} {pos:String} {af:Array Edge} {g:Option (Nat × Bool)}
theorem rk_sliceLitN {t e:TypeId} {agg:Bool} {n size:Nat} {z:Value} {xs:List (Nat × Operand)} {ps:List (Nat × Value)} {zs cs:List Value} {places:List (Nat × Nat)} [hu:Und P t (.slice e)] [hT:Ty P e agg size] [hZ:Zer P e z] (hp:Parts sl xs ps)
    (hn:Nat.ble (n * size) 1000 = true) (hpos:Nat.blt 0 (n * size) = true) (hpl:(List.range n).map (fun i=>(i * size,size)) = places) (hzs:(List.range (n * size)).map (fun i=>z.cells[i % z.cells.size]!) = zs) (hf:fillL places zs ps = some cs) :
    RunN P c sl hs ⟨dst,.buildSlice t n xs.toArray,ty,pos,af,g⟩ (fun b=>.slice (some ⟨b,0,none⟩) n n) (.cells cs.toArray e):=
  rk_buildSlice (ps:=ps.toArray) (fun a ha=>by have:=hp.map ha;rw [List.map_toArray,this]) (fun w=>by
    have hn':n * size ≤ 1000:=by simpa using hn
    have hp':0 < n * size:=by simpa [Nat.blt_eq] using hpos
    unfold Instr.buildSlice
    simp only [Sem.run_bind,rk_underlying hu.eq,Result.andThen_ok,rk_sizeOf (t:=e) (agg:=agg) (n:=size)]
    rw [if_neg (by omega),if_neg (by omega)]
    simp only [Sem.run_bind,rk_zeroValue (t:=e) (v:=z),Result.andThen_ok,Sem.run_pure]
    have h1:(Array.range (n * size)).map (fun i=>z.cells[i % z.cells.size]!) = zs.toArray:=by
      rw [← hzs];apply Array.ext';simp
    have h2:=fill_eq (places:=places) (f:=fun i=>if i < n then some (i * size,size) else none) (fun i x hx=>by
      subst hpl
      simp only [List.getElem?_map,Option.map_eq_some_iff] at hx
      obtain ⟨k,hk,rfl⟩:=hx
      obtain ⟨hlt,hk⟩:=List.getElem?_eq_some_iff.1 hk
      simp only [List.getElem_range] at hk;subst hk
      simp only [List.length_range] at hlt
      simp [hlt]) ps zs cs hf
    have h3:Instr.fill (fun i=>some (i * size,size)) zs.toArray ps = some cs.toArray:=by
      have key:∀ (l:List (Nat × Value)) (cc:Array Value) (r:Array Value),Instr.fill (fun i=>if i < n then some (i * size,size) else none) cc l = some r → Instr.fill (fun i=>some (i * size,size)) cc l = some r:=by
        intro l
        induction l with
        | nil=>intro cc r h;exact h
        | cons x l ih =>
          obtain ⟨i,v⟩:=x
          intro cc r h
          simp only [Instr.fill] at h ⊢
          by_cases hi:i < n
          · rw [if_pos hi] at h
            simp only at h
            split at h
            · cases h
            · rename_i hc
              rw [if_neg hc]
              exact ih _ _ h
          · rw [if_neg hi] at h;cases h
      exact key ps zs.toArray cs.toArray h2
    rw [h1,h3]
    simp [newRow])
theorem tr_rowSl {D:List Nat} {X:Act → World → Prop} {E:TypeId} {sz n:Nat} {v:Value} {xs:List Value} (ht:Take hs (row E sz v n xs) hs') (k:∀ a cap,v = .slice a n cap → Tr c D sl hs X):Tr c D sl hs X:=fun a w hst=>by
  obtain ⟨_,fp,_,⟨f1,f2,_,h1,_⟩,_⟩:=hst.mem'.take ht
  obtain ⟨_,_,⟨rfl,rfl⟩ | ⟨g,cap,cur,rfl,_⟩⟩:=h1
  · exact k _ _ rfl a w hst
  · exact k _ _ rfl a w hst
end
end Go.SL
namespace Go.SL
open Go
def NP (Q:Exit → Act → World → Prop):Exit → Act → World → Prop
  | .panic _=>fun _ _=>False
  | e=>Q e
theorem Oper.wpIn_mono2 {F:Fence} {n:Nat} {P:Program} {o:Oper} {a:Act} {w:World} {K K':Act → World → Prop} {Q Q':Exit → Act → World → Prop} (h:∀ a w,K a w → K' a w) (hq:∀ c a w,Q (.panic c) a w → Q' (.panic c) a w) (hl:LetsOut Q → LetsOut Q')
    (hh:o.wpIn F n P a w K Q):o.wpIn F n P a w K' Q':=by
  unfold Oper.wpIn at *
  refine ⟨hh.1,?_⟩
  have hh:=hh.2
  generalize (o.semAt F.round a.eval).run P w = r at *
  cases r with
  | ok x w' =>
    cases x <;> simp only [Oper.uponIn] at hh ⊢ <;>
      first
        | exact h _ _ hh
        | exact ⟨hh.1,CallsIn.mono hh.2 (fun e w'' he=>by cases e <;> first | exact h _ _ he | exact hq _ _ _ he | exact hl he | exact he)⟩
        | exact ⟨hh.1,RowsIn.mono hh.2 (fun _ _ he=>h _ _ he)⟩
        | exact ⟨hh.1,RoundIn.mono hh.2 (fun e w'' he=>by cases e <;> first | exact h _ _ he | exact hq _ _ _ he | exact hl he | exact he)⟩
  | halt x w'=>cases x <;> simp only [Oper.uponIn] at hh ⊢ <;> first | exact hh | exact hq _ _ _ hh
section
variable {P:Program} {r:Option Nat} {c:Cx} {D:List Nat} {sl:Slots} {hs hs':List Asn} {Q:Exit → Act → World → Prop} {ops:Array Oper} {fuel i:Nat} {listed:Array Bool}
def Left (P:Program) (ops:Array Oper) (Q:Exit → Act → World → Prop) (fuel:Nat) (listed:Array Bool):Act → World → Prop:=wpAnyIn (FR none) 0 P .any ops (NP Q) fuel listed
theorem tr_left {id:Nat} {l:List Oper} (n:Nat) [hmix:Mix P] (hn:l.length = n) (k:Tr c D sl hs (Left P l.toArray Q n (Array.replicate n false))):Tr c D sl hs (WP P none (.region id l.toArray true) Q):=fun a w hst=>by
  subst hn
  have h:(Code.region id l.toArray true).wpIn (FR none) 0 P (NP Q) a w:=wpIn_region_any hmix.eq (by
    have:=k a w.drew (hst.heap hst.mem.drew)
    simpa [Left] using this)
  exact wpIn_mono h fun e a' w' h=>by
    cases e with
    | panic c=>exact h.elim
    | _=>exact h
theorem left_take (i:Nat) {d:Nat} {op:Op} {ty:TypeId} {pos:String} {af:Array Edge} {V:Value} (hi:ops[i]? = some ⟨some d,op,ty,pos,af,none⟩) (hs1:Region.noSelect ops = true) (hf:Region.free .any ops listed i = true) (hr:(Region.ready .any ops listed).contains i = true)
    (hab:∀ (w:World) (ρ:Operand → Value),Oper.about P w ρ ⟨some d,op,ty,pos,af,none⟩ = none) (hv:∀ w,RunV P ⟨w,[],0⟩ sl [] ⟨some d,op,ty,pos,af,none⟩ V) (hd:Nat.blt d c.nt = true)
    (k:Tr c D ((d,V) :: sl) hs (Left P ops Q fuel (listed.setIfInBounds i true))):Tr c D sl hs (Left P ops Q (fuel + 1) listed):=fun a w hst=>by
  refine wpAnyIn_take (oi:=⟨some d,op,ty,pos,af,none⟩) rfl hi hs1 hf hr (fun c a w h=>h) (v:=V) ⟨.inl ⟨by simp [Region.wanted],fun w'=>?_⟩,fun w'=>hab w' _⟩ (k _ _ (hst.put (by simpa [Nat.blt_eq] using hd) V))
  exact (hv w').2 a w' hst.slots ⟨.refl _ _,[],List.nodup_nil,rfl,by simp⟩
def Next (P:Program) (c:Cx) (D:List Nat) (sl:Slots) (hs:List Asn) (ops:Array Oper) (Q:Exit → Act → World → Prop) (fuel:Nat) (listed:Array Bool) (i:Nat):Prop:=
  ∀ a w,St c D sl hs a w → wpOpIn (FR none) 0 P ops (NP Q) i (Left P ops Q fuel (listed.setIfInBounds i true)) a w
theorem left_ready {rs:List Nat} (hr:Region.ready .any ops listed = rs) (hne:rs ≠ []) (h:∀ i ∈ rs,Next P c D sl hs ops Q fuel listed i):Tr c D sl hs (Left P ops Q (fuel + 1) listed):=fun a w hst=>
  wpAnyIn_all hr hne fun i hi=>h i hi a w hst
theorem next_step {d:Option Tmp} {op:Op} {ty:TypeId} {pos:String} {af:Array Edge} {g:Option (Nat × Bool)} (hi:ops[i]? = some ⟨d,op,ty,pos,af,g⟩) (h:Tr c D sl hs (WL P none ops (Exit.then (Left P ops Q fuel (listed.setIfInBounds i true)) (NP Q)) [⟨d,op,ty,pos,af,g⟩])):Next P c D sl hs ops Q fuel listed i:=fun a w hst=>by
  have h1:=h a w hst
  unfold wpOpIn
  simp only [hi]
  unfold WL at h1
  split
  · rename_i hw
    rw [if_pos hw] at h1
    exact Oper.wpIn_mono2 (fun a w h=>h) (fun c a w h=>h) (fun h=>h) h1
  · rename_i hw
    rw [if_neg hw] at h1
    exact ⟨fun _ _=>trivial,h1⟩
theorem left_done (hr:Region.ready .any ops listed = []) (k:Tr c D sl hs (Q .normal)):Tr c D sl hs (Left P ops Q fuel listed):=fun a w hst=>
  wpAnyIn_done (Q:=NP Q) hr (k a w hst) fuel
theorem tr_scope {x:Code} (h:Tr c D sl hs (WP P none x (Exit.noGoto Q))):Tr c D sl hs (WP P none (.scope x) Q):=fun a w hst=>
  (wpIn_wide (n:=0)).2 (wp_scope_straight ((wpIn_wide (n:=0)).1 (h a w hst)))
theorem tr_ng_ret (h:Tr c D sl hs (Q .ret)):Tr c D sl hs (Exit.noGoto Q .ret):=h
theorem tr_label {l:Nat} {r:Option Nat} (h:Tr c D sl hs (Q .normal)):Tr c D sl hs (WP P r (.label l) Q):=fun a w hst=>wpIn_label (h a w hst)
variable {dst:Option Tmp} {ty:TypeId} {pos:String} {af:Array Edge} {g:Option (Nat × Bool)}
theorem rk_eqNil {t u e:TypeId} {x y:Operand} {a:Option Addr} {n cp n' cp':Nat} [hu:Und P t (.slice e)] (hx:Is sl x (.slice a n cp)) (hy:Is sl y (.slice none n' cp')):RunV P c sl hs ⟨dst,.binOp .eql t x y u,ty,pos,af,g⟩ (.bool a.isNone):=
  rk_bin hx hy fun w=>by
    have h1:(eqGuard .eql t x y (.slice a n cp) (.slice none n' cp')).run P w = .ok () w:=by simp [eqGuard]
    rw [Sem.run_bind,h1,Result.andThen_ok]
    exact Go.Lib.run_eql_slice_nil w t e a n cp n' cp' hu.eq
end
end Go.SL
namespace Go.SL
open Go
class BP (b:Bool) (p q:outParam Prop):Prop where
  t:b = true → p
  f:b = false → q
instance (priority:=low) {b:Bool}:BP b (b = true) (b = false):=⟨id,id⟩
instance {p:Prop} {inst:Decidable p}:BP (@decide p inst) p (¬ p):=⟨of_decide_eq_true,of_decide_eq_false⟩
instance {a:Bool} {p q:Prop} [h:BP a p q]:BP (!a) q p:=⟨fun e=>h.f (by simpa using e),fun e=>h.t (by simpa using e)⟩
instance {a b:Bool} {p q p' q':Prop} [h:BP a p q] [h':BP b p' q']:BP (a || b) (p ∨ p') (q ∧ q'):=
  ⟨fun e=>(Bool.or_eq_true _ _ ▸ e).elim (fun e=>.inl (h.t e)) (fun e=>.inr (h'.t e)),fun e=>by
    rw [Bool.or_eq_false_iff] at e
    exact ⟨h.f e.1,h'.f e.2⟩⟩
instance {a b:Bool} {p q p' q':Prop} [h:BP a p q] [h':BP b p' q']:BP (a && b) (p ∧ p') (q ∨ q'):=
  ⟨fun e=>by
    rw [Bool.and_eq_true] at e
    exact ⟨h.t e.1,h'.t e.2⟩,fun e=>(Bool.and_eq_false_iff.1 e).elim (fun e=>.inl (h.f e)) (fun e=>.inr (h'.f e))⟩
instance {a:Bool} {p q:Prop} [h:BP a p q]:BP (a == true) p q:=⟨fun e=>h.t (by simpa using e),fun e=>h.f (by simpa using e)⟩
instance {a:Bool} {p q:Prop} [h:BP a p q]:BP (a == false) q p:=⟨fun e=>h.f (by simpa using e),fun e=>h.t (by simpa using e)⟩
theorem okc_nil:∀ u ∈ ([]:List Value),u.oneCell' = true:=fun _ h=>absurd h List.not_mem_nil
theorem okc_cons {v:Value} {vs:List Value} (h:v.oneCell' = true) (t:∀ u ∈ vs,u.oneCell' = true):∀ u ∈ v :: vs,u.oneCell' = true:=List.forall_mem_cons.2 ⟨h,t⟩
theorem ini {n:Int} (h:-9223372036854775808 ≤ n ∧ n ≤ 9223372036854775807):InI n:=h
theorem lenb {a b:Nat} (h:Nat.ble a b = true):a ≤ b:=Nat.le_of_ble_eq_true h
theorem norm_ {α:Type} {a b:α} (h:a = b:=by (first | (simp only [Int.toNat_zero,Int.toNat_one,Int.reduceToNat,fillL,setCells,cellsAt,partOf,Value.cells,lget,cond_true,cond_false,List.getElem?_cons_zero,List.getElem?_cons_succ,List.set_cons_zero,List.set_cons_succ,List.size_toArray,List.length_cons,List.length_nil,Nat.reduceAdd,Nat.reduceMul,Nat.reduceLeDiff,and_self,and_true,true_and,if_true,List.set,List.length_set,Nat.le_refl,Nat.zero_add,Nat.add_zero];exact rfl) | exact rfl)):a = b:=h
theorem norm0_ {α:Type} {a b:α} (h:a = b:=by (first | (simp only [Nat.reduceAdd,Nat.zero_add,Nat.add_zero];exact rfl) | exact rfl)):a = b:=h
theorem norm1_ {α:Type} {a b:α} (h:a = b:=by (first | (simp only [Int.toNat_natCast,Nat.zero_add,Int.reduceToNat,Int.toNat_zero,Int.toNat_one];exact rfl) | exact rfl)):a = b:=h
theorem normc_ {α:Type} {a b:α} (h:a = b:=by first | ((try simp only [List.nil_append,List.append_nil,List.cons_append]);exact rfl) | exact rfl):a = b:=h
theorem normp_ {α:Type} {a b:α} (h:a = b:=by first | (simp only [List.range,List.range.loop,List.map,Nat.reduceMul];exact rfl) | exact rfl):a = b:=h
theorem lenx_ {a b:Nat} (h:a ≤ b:=by first | omega | (simp only [List.length_append,List.length_cons,List.length_nil];omega)):a ≤ b:=h
theorem kr_ {α:Type} {a b:α} (h:a = b:=by kernel_rfl):a = b:=h
section
variable {P:Program} {r:Option Nat} {c:Cx} {D:List Nat} {sl:Slots} {rl:RSlots} {hs hs':List Asn} {Q:Exit → Act → World → Prop} {ops:Array Oper} {m d:Nat} {dst:Option Tmp} {op:Op} {ty:TypeId} {pos:String} {af:Array Edge} {rest:List Oper}
theorem tr_makeMapI {t:TypeId} (hd:Nat.blt d c.nt = true) (k:∀ b,c.w0.heap.size ≤ b → Tr c D ((d,.map (some b)) :: sl) (mp (fun n:Int=>Value.int .i64 n) b [] :: hs) (WL P r ops Q rest)) :
    Tr c D sl hs (WL P r ops Q (⟨some d,.makeMap t none,ty,pos,af,none⟩ :: rest)):=tr_makeMap (fun n:Int=>Value.int .i64 n) hd k
theorem tr_condB {x:Operand} {b:Bool} {p q:Prop} {u v:Code} (hx:Is sl x (.bool b)) (hb:BP b p q)
    (ht:p → Tr c D sl hs (WP P r u Q)) (hf:q → Tr c D sl hs (WP P r v Q)):Tr c D sl hs (WP P r (.cond x u v) Q):=
  tr_cond hx (fun e=>ht (hb.t e)) (fun e=>hf (hb.f e))
theorem tr_vG1 {V:Value} {p p':Prop} {j g:Nat} {want q:Bool} (hj:((ops[j]?).bind (·.dst)) = some g) (hq:sget sl g = some (.bool q)) (hb:BP (q == want) p p')
    (hr:(q == want) = true → p → RunV P c sl hs ⟨some d,op,ty,pos,af,some (j,want)⟩ V) (hd:Nat.blt d c.nt = true) (k:Tr c D ((d,gv (q == want) V) :: sl) hs (WL P r ops Q rest)) :
    Tr c D sl hs (WL P r ops Q (⟨some d,op,ty,pos,af,some (j,want)⟩ :: rest)):=tr_valG1 hj hq (fun e=>hr e (hb.t e)) hd k
theorem any_vG1 {V:Value} {p p':Prop} {j gs:Nat} {want q:Bool} (hj:((ops[j]?).bind (·.dst)) = some gs) (hq:sget sl gs = some (.bool q)) (hb:BP (q == want) p p')
    (hr:(q == want) = true → p → RunV P c sl hs ⟨some d,op,ty,pos,af,some (j,want)⟩ V) (hd:Nat.blt d c.nt = true) (k:AnyT P r c D hs ops Q m rest ((d,gv (q == want) V) :: sl) rl) :
    AnyT P r c D hs ops Q (m + 1) (⟨some d,op,ty,pos,af,some (j,want)⟩ :: rest) sl rl:=any_valG1 hj hq (fun e=>hr e (hb.t e)) hd k
end
section
variable {P:Program} {r:Option Nat} {c:Cx} {D:List Nat} {sl:Slots} {rl:RSlots} {hs hs':List Asn} {Q:Exit → Act → World → Prop} {ops:Array Oper} {m d:Nat} {op:Op} {ty:TypeId} {pos:String} {af:Array Edge} {rest:List Oper}
theorem s_r {id:Nat} {l:List Oper} {y:Code} (h:Tr c D sl hs (WL P r l.toArray (Exit.then (WP P r y Q) Q) l)):Tr c D sl hs (WP P r (.seq (.region id l.toArray false) y) Q):=tr_seq (tr_region h)
theorem n_t {N:Act → World → Prop} (h:Tr c D sl hs N):Tr c D sl hs (WL P r ops (Exit.then N Q) []):=h
theorem n_r {id:Nat} {l:List Oper} {y:Code} {Q':Exit → Act → World → Prop} (h:Tr c D sl hs (WL P r l.toArray (Exit.then (WP P r y Q) Q) l)):Tr c D sl hs (WL P r ops (Exit.then (WP P r (.seq (.region id l.toArray false) y) Q) Q') []):=tr_seq (tr_region h)
theorem s_t {N:Act → World → Prop} (h:Tr c D sl hs N):Tr c D sl hs (WP P r .skip (Exit.then N Q)):=tr_skip h
theorem x_t {N:Act → World → Prop} {id:Nat} (h:Tr c D sl hs (Q (.exit id))):Tr c D sl hs (WP P r (.exit id) (Exit.then N Q)):=tr_exit h
theorem r_t {N:Act → World → Prop} (h:Tr c D sl hs (Q .ret)):Tr c D sl hs (WP P r .ret (Exit.then N Q)):=tr_ret h
theorem m_v {x:Operand} {v:Value} (hx:ev sl x = some v) (hd:Nat.blt d c.nt = true) (k:Tr c D ((d,v) :: sl) hs (WL P r ops Q rest)):Tr c D sl hs (WL P r ops Q (⟨some d,.move x,ty,pos,af,none⟩ :: rest)):=tr_val (rk_move (.of hx)) hd k
theorem a_s {x:Operand} {v:Value} (hx:ev sl x = some v) (hd:Nat.blt d c.nt = true) (k:Tr c D ((d,v) :: sl) hs (WL P r ops Q rest)):Tr c D sl hs (WL P r ops Q (⟨some d,.assign x,ty,pos,af,none⟩ :: rest)):=tr_val (rk_assign (.of hx)) hd k
theorem a_m {x:Operand} {v:Value} (hx:ev sl x = some v) (hd:Nat.blt d c.nt = true) (k:AnyT P r c D hs ops Q m rest ((d,v) :: sl) rl):AnyT P r c D hs ops Q (m + 1) (⟨some d,.move x,ty,pos,af,none⟩ :: rest) sl rl:=any_val (rk_move (.of hx)) hd k
theorem f_a {t:TypeId} {i o:Nat} {x:Operand} {b k q:Nat} [FOff P t i o] (hx:ev sl x = some (.pointer (some ⟨b,k,none⟩))) (hd:Nat.blt d c.nt = true) (he:k + o = q) (h:Tr c D ((d,.pointer (some ⟨b,q,none⟩)) :: sl) hs (WL P r ops Q rest)) :
    Tr c D sl hs (WL P r ops Q (⟨some d,.fieldAddr t x i,ty,pos,af,none⟩ :: rest)):=tr_val (rk_fieldAddr (.of hx) he) hd h
theorem a_f {t:TypeId} {i o:Nat} {x:Operand} {b k q:Nat} [FOff P t i o] (hx:ev sl x = some (.pointer (some ⟨b,k,none⟩))) (hd:Nat.blt d c.nt = true) (he:k + o = q) (h:AnyT P r c D hs ops Q m rest ((d,.pointer (some ⟨b,q,none⟩)) :: sl) rl) :
    AnyT P r c D hs ops Q (m + 1) (⟨some d,.fieldAddr t x i,ty,pos,af,none⟩ :: rest) sl rl:=any_val (rk_fieldAddr (.of hx) he) hd h
theorem v_g {x:Operand} {v:Value} {j g:Nat} {want q:Bool} (hj:((ops[j]?).bind (·.dst)) = some g) (hq:sget sl g = some (.bool q)) (hx:ev sl x = some v) (hd:Nat.blt d c.nt = true) (k:Tr c D ((d,gv (q == want) v) :: sl) hs (WL P r ops Q rest)) :
    Tr c D sl hs (WL P r ops Q (⟨some d,.move x,ty,pos,af,some (j,want)⟩ :: rest)):=tr_valG1 hj hq (fun _=>rk_move (.of hx)) hd k
theorem c_d {x:Operand} {p:Prop} {inst:Decidable p} {u v:Code} (hx:ev sl x = some (.bool (decide p))) (ht:p → Tr c D sl hs (WP P r u Q)) (hf:¬ p → Tr c D sl hs (WP P r v Q)):Tr c D sl hs (WP P r (.cond x u v) Q):=tr_cond_d (.of hx) ht hf
theorem c_b {x:Operand} {b:Bool} {p q:Prop} {u v:Code} (hx:ev sl x = some (.bool b)) [hb:BP b p q] (ht:p → Tr c D sl hs (WP P r u Q)) (hf:q → Tr c D sl hs (WP P r v Q)):Tr c D sl hs (WP P r (.cond x u v) Q):=tr_condB (.of hx) hb ht hf
end
end Go.SL
