/- Parts of the proof: E1Ty S1p GkSeq GkMake GkTab GkAnyL. -/
import Derived.Test.YtpamkookgkffgaaGreatDoorProg
import Derived.Test.YtpamkookgkffgaaGreatDoorTM04
import Derived.Laws.MakeOwn
import Derived.Scope
import Derived.Lib.SliceRun
set_option linter.unusedSectionVars false
set_option linter.unusedVariables false
set_option linter.unusedSimpArgs false
namespace Go.Proofs
open Go Go.SL
instance :Mix Tryz.prog:=⟨by kernel_rfl⟩
instance :Ty Tryz.prog 3 false 1:=⟨by kernel_rfl⟩
instance :Und Tryz.prog 3 (.int .i64):=⟨by kernel_rfl⟩
instance :Zer Tryz.prog 3 (.int .i64 0):=⟨by kernel_rfl⟩
instance :Byt Tryz.prog 3 8:=⟨by kernel_rfl⟩
instance :Ty Tryz.prog 4 false 1:=⟨by kernel_rfl⟩
instance :Und Tryz.prog 4 (.bool):=⟨by kernel_rfl⟩
instance :Zer Tryz.prog 4 (.bool false):=⟨by kernel_rfl⟩
instance :Ty Tryz.prog 5 false 1:=⟨by kernel_rfl⟩
instance :Und Tryz.prog 5 (.int .u8):=⟨by kernel_rfl⟩
instance :Zer Tryz.prog 5 (.int .u8 0):=⟨by kernel_rfl⟩
instance :Byt Tryz.prog 5 1:=⟨by kernel_rfl⟩
instance :Ty Tryz.prog 9 false 1:=⟨by kernel_rfl⟩
instance :Und Tryz.prog 9 (.string):=⟨by kernel_rfl⟩
instance :Ty Tryz.prog 22 false 1:=⟨by kernel_rfl⟩
instance :Und Tryz.prog 22 (.slice 36):=⟨by kernel_rfl⟩
instance :Ty Tryz.prog 24 true 1:=⟨by kernel_rfl⟩
instance :FOff Tryz.prog 24 0 0:=⟨by kernel_rfl⟩
instance :Ty Tryz.prog 25 false 1:=⟨by kernel_rfl⟩
instance :Und Tryz.prog 25 (.slice 50):=⟨by kernel_rfl⟩
instance :Ty Tryz.prog 26 false 1:=⟨by kernel_rfl⟩
instance :Und Tryz.prog 26 (.slice 3):=⟨by kernel_rfl⟩
instance :Zer Tryz.prog 26 (.slice none 0 0):=⟨by kernel_rfl⟩
instance :Ty Tryz.prog 27 false 1:=⟨by kernel_rfl⟩
instance :Und Tryz.prog 27 (.slice 52):=⟨by kernel_rfl⟩
instance :Ty Tryz.prog 29 true 4:=⟨by kernel_rfl⟩
instance :FOff Tryz.prog 29 0 0:=⟨by kernel_rfl⟩
instance :FOff Tryz.prog 29 1 1:=⟨by kernel_rfl⟩
instance :FOff Tryz.prog 29 2 2:=⟨by kernel_rfl⟩
instance :FOff Tryz.prog 29 3 3:=⟨by kernel_rfl⟩
instance :Ty Tryz.prog 34 true 2:=⟨by kernel_rfl⟩
instance :FOff Tryz.prog 34 0 0:=⟨by kernel_rfl⟩
instance :FOff Tryz.prog 34 1 1:=⟨by kernel_rfl⟩
instance :Ty Tryz.prog 36 true 6:=⟨by kernel_rfl⟩
instance :Zer Tryz.prog 36 (.agg #[.string ⟨#[]⟩,.string ⟨#[]⟩,.string ⟨#[]⟩,.int .i64 0,.int .i64 0,.int .i64 0]):=⟨by kernel_rfl⟩
instance :FOff Tryz.prog 36 0 0:=⟨by kernel_rfl⟩
instance :FOff Tryz.prog 36 1 1:=⟨by kernel_rfl⟩
instance :FOff Tryz.prog 36 2 2:=⟨by kernel_rfl⟩
instance :FOff Tryz.prog 36 3 4:=⟨by kernel_rfl⟩
instance :FOff Tryz.prog 36 4 5:=⟨by kernel_rfl⟩
instance :Ty Tryz.prog 38 false 1:=⟨by kernel_rfl⟩
instance :Und Tryz.prog 38 (.slice 67):=⟨by kernel_rfl⟩
instance :Zer Tryz.prog 38 (.slice none 0 0):=⟨by kernel_rfl⟩
instance :Ty Tryz.prog 40 true 1:=⟨by kernel_rfl⟩
instance :Zer Tryz.prog 40 (.agg #[.slice none 0 0]):=⟨by kernel_rfl⟩
instance :Bld Tryz.prog 40 [(0,1)] [.slice none 0 0]:=⟨by kernel_rfl⟩
instance :FOff Tryz.prog 40 0 0:=⟨by kernel_rfl⟩
instance :Und Tryz.prog 42 (.slice 47):=⟨by kernel_rfl⟩
instance :Ty Tryz.prog 45 true 2:=⟨by kernel_rfl⟩
instance :Zer Tryz.prog 45 (.agg #[.int .i64 0,.int .i64 0]):=⟨by kernel_rfl⟩
instance :Byt Tryz.prog 45 16:=⟨by kernel_rfl⟩
instance :Bld Tryz.prog 45 [(0,1),(1,1)] [.int .i64 0,.int .i64 0]:=⟨by kernel_rfl⟩
instance :FOff Tryz.prog 45 0 0:=⟨by kernel_rfl⟩
instance :FOff Tryz.prog 45 1 1:=⟨by kernel_rfl⟩
instance :Ty Tryz.prog 47 true 3:=⟨by kernel_rfl⟩
instance :Zer Tryz.prog 47 (.agg #[.int .i64 0,.int .i64 0,.int .i64 0]):=⟨by kernel_rfl⟩
instance :Byt Tryz.prog 47 24:=⟨by kernel_rfl⟩
instance :Bld Tryz.prog 47 [(0,1),(1,2)] [.int .i64 0,.int .i64 0,.int .i64 0]:=⟨by kernel_rfl⟩
instance :FOff Tryz.prog 47 0 0:=⟨by kernel_rfl⟩
instance :FOff Tryz.prog 47 1 1:=⟨by kernel_rfl⟩
instance :Ty Tryz.prog 50 true 4:=⟨by kernel_rfl⟩
instance :Zer Tryz.prog 50 (.agg #[.string ⟨#[]⟩,.int .i64 0,.int .i64 0,.int .i64 0]):=⟨by kernel_rfl⟩
instance :FOff Tryz.prog 50 0 0:=⟨by kernel_rfl⟩
instance :FOff Tryz.prog 50 1 1:=⟨by kernel_rfl⟩
instance :FOff Tryz.prog 50 2 2:=⟨by kernel_rfl⟩
instance :FOff Tryz.prog 50 3 3:=⟨by kernel_rfl⟩
instance :Ty Tryz.prog 52 true 2:=⟨by kernel_rfl⟩
instance :Und Tryz.prog 52 (.array 2 3):=⟨by kernel_rfl⟩
instance :Zer Tryz.prog 52 (.agg #[.int .i64 0,.int .i64 0]):=⟨by kernel_rfl⟩
instance :Byt Tryz.prog 52 16:=⟨by kernel_rfl⟩
instance :Bld Tryz.prog 52 [(0,1),(1,1)] [.int .i64 0,.int .i64 0]:=⟨by kernel_rfl⟩
instance :Ty Tryz.prog 53 false 1:=⟨by kernel_rfl⟩
instance :Zer Tryz.prog 53 (.int .i64 0):=⟨by kernel_rfl⟩
instance :Byt Tryz.prog 53 8:=⟨by kernel_rfl⟩
instance :Ty Tryz.prog 56 false 1:=⟨by kernel_rfl⟩
instance :Und Tryz.prog 56 (.slice 112):=⟨by kernel_rfl⟩
instance :Ty Tryz.prog 58 true 4:=⟨by kernel_rfl⟩
instance :Zer Tryz.prog 58 (.agg #[.int .i64 0,.slice none 0 0,.slice none 0 0,.slice none 0 0]):=⟨by kernel_rfl⟩
instance :Bld Tryz.prog 58 [(0,1),(1,1),(2,1),(3,1)] [.int .i64 0,.slice none 0 0,.slice none 0 0,.slice none 0 0]:=⟨by kernel_rfl⟩
instance :FOff Tryz.prog 58 0 0:=⟨by kernel_rfl⟩
instance :FOff Tryz.prog 58 1 1:=⟨by kernel_rfl⟩
instance :FOff Tryz.prog 58 2 2:=⟨by kernel_rfl⟩
instance :FOff Tryz.prog 58 3 3:=⟨by kernel_rfl⟩
instance :Und Tryz.prog 62 (.slice 45):=⟨by kernel_rfl⟩
instance :Ty Tryz.prog 65 true 2:=⟨by kernel_rfl⟩
instance :Zer Tryz.prog 65 (.agg #[.string ⟨#[]⟩,.int .i64 0]):=⟨by kernel_rfl⟩
instance :Bld Tryz.prog 65 [(0,1),(1,1)] [.string ⟨#[]⟩,.int .i64 0]:=⟨by kernel_rfl⟩
instance :FOff Tryz.prog 65 0 0:=⟨by kernel_rfl⟩
instance :FOff Tryz.prog 65 1 1:=⟨by kernel_rfl⟩
instance :Ty Tryz.prog 67 true 6:=⟨by kernel_rfl⟩
instance :Zer Tryz.prog 67 (.agg #[.string ⟨#[]⟩,.string ⟨#[]⟩,.string ⟨#[]⟩,.int .i64 0,.int .i64 0,.int .i64 0]):=⟨by kernel_rfl⟩
instance :Byt Tryz.prog 67 72:=⟨by kernel_rfl⟩
instance :Bld Tryz.prog 67 [(0,1),(1,1),(2,2),(4,1),(5,1)] [.string ⟨#[]⟩,.string ⟨#[]⟩,.string ⟨#[]⟩,.int .i64 0,.int .i64 0,.int .i64 0]:=⟨by kernel_rfl⟩
instance :FOff Tryz.prog 67 0 0:=⟨by kernel_rfl⟩
instance :FOff Tryz.prog 67 1 1:=⟨by kernel_rfl⟩
instance :FOff Tryz.prog 67 2 2:=⟨by kernel_rfl⟩
instance :FOff Tryz.prog 67 3 4:=⟨by kernel_rfl⟩
instance :FOff Tryz.prog 67 4 5:=⟨by kernel_rfl⟩
instance :Ty Tryz.prog 70 true 2:=⟨by kernel_rfl⟩
instance :Zer Tryz.prog 70 (.agg #[.int .i64 0,.bool false]):=⟨by kernel_rfl⟩
instance :Bld Tryz.prog 70 [(0,1),(1,1)] [.int .i64 0,.bool false]:=⟨by kernel_rfl⟩
instance :FOff Tryz.prog 70 0 0:=⟨by kernel_rfl⟩
instance :FOff Tryz.prog 70 1 1:=⟨by kernel_rfl⟩
instance :Ty Tryz.prog 71 false 1:=⟨by kernel_rfl⟩
instance :Und Tryz.prog 71 (.slice 74):=⟨by kernel_rfl⟩
instance :Zer Tryz.prog 71 (.slice none 0 0):=⟨by kernel_rfl⟩
instance :Ty Tryz.prog 74 true 3:=⟨by kernel_rfl⟩
instance :Zer Tryz.prog 74 (.agg #[.int .i64 0,.int .i64 0,.int .i64 0]):=⟨by kernel_rfl⟩
instance :Byt Tryz.prog 74 24:=⟨by kernel_rfl⟩
instance :Bld Tryz.prog 74 [(0,1),(1,2)] [.int .i64 0,.int .i64 0,.int .i64 0]:=⟨by kernel_rfl⟩
instance :FOff Tryz.prog 74 0 0:=⟨by kernel_rfl⟩
instance :FOff Tryz.prog 74 1 1:=⟨by kernel_rfl⟩
instance :Ty Tryz.prog 76 true 4:=⟨by kernel_rfl⟩
instance :Zer Tryz.prog 76 (.agg #[.int .i64 0,.int .i64 0,.int .i64 0,.int .i64 0]):=⟨by kernel_rfl⟩
instance :Bld Tryz.prog 76 [(0,1),(1,1),(2,1),(3,1)] [.int .i64 0,.int .i64 0,.int .i64 0,.int .i64 0]:=⟨by kernel_rfl⟩
instance :Und Tryz.prog 80 (.slice 83):=⟨by kernel_rfl⟩
instance :Und Tryz.prog 81 (.map 3 4):=⟨by kernel_rfl⟩
instance :Ty Tryz.prog 83 true 5:=⟨by kernel_rfl⟩
instance :Zer Tryz.prog 83 (.agg #[.int .i64 0,.int .i64 0,.int .i64 0,.int .i64 0,.string ⟨#[]⟩]):=⟨by kernel_rfl⟩
instance :Byt Tryz.prog 83 48:=⟨by kernel_rfl⟩
instance :Bld Tryz.prog 83 [(0,2),(2,1),(3,1),(4,1)] [.int .i64 0,.int .i64 0,.int .i64 0,.int .i64 0,.string ⟨#[]⟩]:=⟨by kernel_rfl⟩
instance :FOff Tryz.prog 83 0 0:=⟨by kernel_rfl⟩
instance :FOff Tryz.prog 83 1 2:=⟨by kernel_rfl⟩
instance :FOff Tryz.prog 83 2 3:=⟨by kernel_rfl⟩
instance :FOff Tryz.prog 83 3 4:=⟨by kernel_rfl⟩
instance :Und Tryz.prog 87 (.slice 97):=⟨by kernel_rfl⟩
instance :Ty Tryz.prog 90 true 8:=⟨by kernel_rfl⟩
instance :Und Tryz.prog 90 (.array 8 9):=⟨by kernel_rfl⟩
instance :Zer Tryz.prog 90 (.agg #[.string ⟨#[]⟩,.string ⟨#[]⟩,.string ⟨#[]⟩,.string ⟨#[]⟩,.string ⟨#[]⟩,.string ⟨#[]⟩,.string ⟨#[]⟩,.string ⟨#[]⟩]):=⟨by kernel_rfl⟩
instance :Bld Tryz.prog 90 [(0,1),(1,1),(2,1),(3,1),(4,1),(5,1),(6,1),(7,1)] [.string ⟨#[]⟩,.string ⟨#[]⟩,.string ⟨#[]⟩,.string ⟨#[]⟩,.string ⟨#[]⟩,.string ⟨#[]⟩,.string ⟨#[]⟩,.string ⟨#[]⟩]:=⟨by kernel_rfl⟩
instance :Ty Tryz.prog 95 true 2:=⟨by kernel_rfl⟩
instance :Zer Tryz.prog 95 (.agg #[.int .i64 0,.int .i64 0]):=⟨by kernel_rfl⟩
instance :Bld Tryz.prog 95 [(0,1),(1,1)] [.int .i64 0,.int .i64 0]:=⟨by kernel_rfl⟩
instance :Ty Tryz.prog 97 true 3:=⟨by kernel_rfl⟩
instance :Zer Tryz.prog 97 (.agg #[.int .i64 0,.int .i64 0,.int .i64 0]):=⟨by kernel_rfl⟩
instance :Bld Tryz.prog 97 [(0,1),(1,2)] [.int .i64 0,.int .i64 0,.int .i64 0]:=⟨by kernel_rfl⟩
instance :FOff Tryz.prog 97 0 0:=⟨by kernel_rfl⟩
instance :Ty Tryz.prog 111 false 1:=⟨by kernel_rfl⟩
instance :Ty Tryz.prog 112 true 4:=⟨by kernel_rfl⟩
instance :Zer Tryz.prog 112 (.agg #[.string ⟨#[]⟩,.int .i64 0,.int .i64 0,.int .i64 0]):=⟨by kernel_rfl⟩
instance :Byt Tryz.prog 112 40:=⟨by kernel_rfl⟩
instance :FOff Tryz.prog 112 0 0:=⟨by kernel_rfl⟩
instance :FOff Tryz.prog 112 1 1:=⟨by kernel_rfl⟩
instance :FOff Tryz.prog 112 2 2:=⟨by kernel_rfl⟩
instance :FOff Tryz.prog 112 3 3:=⟨by kernel_rfl⟩
instance :Und Tryz.prog 118 (.array 3 9):=⟨by kernel_rfl⟩
instance :Ty Tryz.prog 122 true 8:=⟨by kernel_rfl⟩
instance :Zer Tryz.prog 122 (.agg #[.string ⟨#[]⟩,.string ⟨#[]⟩,.string ⟨#[]⟩,.int .i64 0,.int .i64 0,.int .i64 0,.int .i64 0,.int .i64 0]):=⟨by kernel_rfl⟩
instance :Byt Tryz.prog 122 88:=⟨by kernel_rfl⟩
instance :Bld Tryz.prog 122 [(0,6),(6,2)] [.string ⟨#[]⟩,.string ⟨#[]⟩,.string ⟨#[]⟩,.int .i64 0,.int .i64 0,.int .i64 0,.int .i64 0,.int .i64 0]:=⟨by kernel_rfl⟩
instance :FOff Tryz.prog 122 0 0:=⟨by kernel_rfl⟩
instance :FOff Tryz.prog 122 1 6:=⟨by kernel_rfl⟩
instance :Ty Tryz.prog 123 false 1:=⟨by kernel_rfl⟩
instance :Und Tryz.prog 123 (.slice 122):=⟨by kernel_rfl⟩
instance :Zer Tryz.prog 123 (.slice none 0 0):=⟨by kernel_rfl⟩
instance :Ty Tryz.prog 142 false 1:=⟨by kernel_rfl⟩
instance :Zer Tryz.prog 142 (.nilFunc):=⟨by kernel_rfl⟩
instance :Und Tryz.prog 145 (.map 9 4):=⟨by kernel_rfl⟩
instance :Und Tryz.prog 147 (.slice 53):=⟨by kernel_rfl⟩
instance :Ty Tryz.prog 151 false 1:=⟨by kernel_rfl⟩
instance :Zer Tryz.prog 151 (.nilFunc):=⟨by kernel_rfl⟩
instance :Und Tryz.prog 159 (.array 3 3):=⟨by kernel_rfl⟩
instance :Und Tryz.prog 169 (.slice 5):=⟨by kernel_rfl⟩
instance :Und Tryz.prog 173 (.map 3 3):=⟨by kernel_rfl⟩
instance :Ty Tryz.prog 178 true 3:=⟨by kernel_rfl⟩
instance :Zer Tryz.prog 178 (.agg #[.string ⟨#[]⟩,.int .i64 0,.nilFunc]):=⟨by kernel_rfl⟩
instance :Bld Tryz.prog 178 [(0,1),(1,1),(2,1)] [.string ⟨#[]⟩,.int .i64 0,.nilFunc]:=⟨by kernel_rfl⟩
instance :FOff Tryz.prog 178 0 0:=⟨by kernel_rfl⟩
instance :FOff Tryz.prog 178 1 1:=⟨by kernel_rfl⟩
instance :FOff Tryz.prog 178 2 2:=⟨by kernel_rfl⟩
instance :Und Tryz.prog 181 (.slice 38):=⟨by kernel_rfl⟩
instance :Ty Tryz.prog 203 true 9:=⟨by kernel_rfl⟩
instance :Und Tryz.prog 203 (.array 3 178):=⟨by kernel_rfl⟩
instance :Zer Tryz.prog 203 (.agg #[.string ⟨#[]⟩,.int .i64 0,.nilFunc,.string ⟨#[]⟩,.int .i64 0,.nilFunc,.string ⟨#[]⟩,.int .i64 0,.nilFunc]):=⟨by kernel_rfl⟩
instance :Bld Tryz.prog 203 [(0,3),(3,3),(6,3)] [.string ⟨#[]⟩,.int .i64 0,.nilFunc,.string ⟨#[]⟩,.int .i64 0,.nilFunc,.string ⟨#[]⟩,.int .i64 0,.nilFunc]:=⟨by kernel_rfl⟩
instance :Leaf Tryz.prog 45 [3,3]:=⟨by kernel_rfl,by kernel_rfl,by kernel_rfl⟩
instance :Leaf Tryz.prog 52 [3,3]:=⟨by kernel_rfl,by kernel_rfl,by kernel_rfl⟩
instance :Leaf Tryz.prog 65 [9,3]:=⟨by kernel_rfl,by kernel_rfl,by kernel_rfl⟩
instance :Leaf Tryz.prog 74 [3,3,3]:=⟨by kernel_rfl,by kernel_rfl,by kernel_rfl⟩
instance :Leaf Tryz.prog 76 [3,3,3,3]:=⟨by kernel_rfl,by kernel_rfl,by kernel_rfl⟩
instance :Leaf Tryz.prog 90 [9,9,9,9,9,9,9,9]:=⟨by kernel_rfl,by kernel_rfl,by kernel_rfl⟩
instance :Bod Tryz.prog 4:=⟨by kernel_rfl⟩
instance :Bod Tryz.prog 5:=⟨by kernel_rfl⟩
instance :Bod Tryz.prog 6:=⟨by kernel_rfl⟩
instance :Bod Tryz.prog 7:=⟨by kernel_rfl⟩
instance :Bod Tryz.prog 8:=⟨by kernel_rfl⟩
instance :Bod Tryz.prog 9:=⟨by kernel_rfl⟩
instance :Bod Tryz.prog 10:=⟨by kernel_rfl⟩
instance :Bod Tryz.prog 11:=⟨by kernel_rfl⟩
instance :Bod Tryz.prog 12:=⟨by kernel_rfl⟩
instance :Bod Tryz.prog 13:=⟨by kernel_rfl⟩
instance :Bod Tryz.prog 14:=⟨by kernel_rfl⟩
instance :Bod Tryz.prog 15:=⟨by kernel_rfl⟩
instance :Bod Tryz.prog 16:=⟨by kernel_rfl⟩
instance :Bod Tryz.prog 17:=⟨by kernel_rfl⟩
instance :Bod Tryz.prog 18:=⟨by kernel_rfl⟩
instance :Bod Tryz.prog 19:=⟨by kernel_rfl⟩
instance :Bod Tryz.prog 20:=⟨by kernel_rfl⟩
instance :Bod Tryz.prog 21:=⟨by kernel_rfl⟩
instance :Bod Tryz.prog 22:=⟨by kernel_rfl⟩
instance :Bod Tryz.prog 23:=⟨by kernel_rfl⟩
instance :Bod Tryz.prog 24:=⟨by kernel_rfl⟩
instance :Bod Tryz.prog 25:=⟨by kernel_rfl⟩
instance :Bod Tryz.prog 26:=⟨by kernel_rfl⟩
instance :Bod Tryz.prog 27:=⟨by kernel_rfl⟩
instance :Bod Tryz.prog 28:=⟨by kernel_rfl⟩
instance :Bod Tryz.prog 29:=⟨by kernel_rfl⟩
instance :Bod Tryz.prog 30:=⟨by kernel_rfl⟩
instance :Bod Tryz.prog 31:=⟨by kernel_rfl⟩
instance :Bod Tryz.prog 32:=⟨by kernel_rfl⟩
instance :Bod Tryz.prog 33:=⟨by kernel_rfl⟩
instance :Bod Tryz.prog 34:=⟨by kernel_rfl⟩
instance :Bod Tryz.prog 35:=⟨by kernel_rfl⟩
instance :Bod Tryz.prog 36:=⟨by kernel_rfl⟩
instance :Bod Tryz.prog 37:=⟨by kernel_rfl⟩
instance :Bod Tryz.prog 38:=⟨by kernel_rfl⟩
instance :Bod Tryz.prog 39:=⟨by kernel_rfl⟩
instance :Bod Tryz.prog 40:=⟨by kernel_rfl⟩
instance :Bod Tryz.prog 41:=⟨by kernel_rfl⟩
instance :Bod Tryz.prog 42:=⟨by kernel_rfl⟩
instance :Bod Tryz.prog 43:=⟨by kernel_rfl⟩
instance :Bod Tryz.prog 44:=⟨by kernel_rfl⟩
instance :Bod Tryz.prog 45:=⟨by kernel_rfl⟩
instance :Bod Tryz.prog 46:=⟨by kernel_rfl⟩
instance :Bod Tryz.prog 47:=⟨by kernel_rfl⟩
instance :Bod Tryz.prog 48:=⟨by kernel_rfl⟩
instance :Bod Tryz.prog 49:=⟨by kernel_rfl⟩
instance :Bod Tryz.prog 50:=⟨by kernel_rfl⟩
instance :Bod Tryz.prog 51:=⟨by kernel_rfl⟩
instance :Bod Tryz.prog 52:=⟨by kernel_rfl⟩
instance :Bod Tryz.prog 53:=⟨by kernel_rfl⟩
instance :Bod Tryz.prog 54:=⟨by kernel_rfl⟩
instance :Bod Tryz.prog 55:=⟨by kernel_rfl⟩
instance :Bod Tryz.prog 56:=⟨by kernel_rfl⟩
instance :Bod Tryz.prog 57:=⟨by kernel_rfl⟩
instance :Bod Tryz.prog 58:=⟨by kernel_rfl⟩
instance :Bod Tryz.prog 59:=⟨by kernel_rfl⟩
instance :Bod Tryz.prog 61:=⟨by kernel_rfl⟩
instance :Bod Tryz.prog 62:=⟨by kernel_rfl⟩
instance :Bod Tryz.prog 63:=⟨by kernel_rfl⟩
instance :Bod Tryz.prog 64:=⟨by kernel_rfl⟩
instance :Bod Tryz.prog 65:=⟨by kernel_rfl⟩
instance :Bod Tryz.prog 66:=⟨by kernel_rfl⟩
instance :Bod Tryz.prog 67:=⟨by kernel_rfl⟩
instance :Bod Tryz.prog 68:=⟨by kernel_rfl⟩
instance :Bod Tryz.prog 69:=⟨by kernel_rfl⟩
instance :Bod Tryz.prog 70:=⟨by kernel_rfl⟩
instance :Bod Tryz.prog 71:=⟨by kernel_rfl⟩
instance :Bod Tryz.prog 72:=⟨by kernel_rfl⟩
instance :Bod Tryz.prog 73:=⟨by kernel_rfl⟩
instance :Bod Tryz.prog 74:=⟨by kernel_rfl⟩
instance :Bod Tryz.prog 75:=⟨by kernel_rfl⟩
instance :Bod Tryz.prog 76:=⟨by kernel_rfl⟩
instance :Bod Tryz.prog 77:=⟨by kernel_rfl⟩
instance :Bod Tryz.prog 78:=⟨by kernel_rfl⟩
instance :Bod Tryz.prog 79:=⟨by kernel_rfl⟩
instance :Bod Tryz.prog 80:=⟨by kernel_rfl⟩
instance :Bod Tryz.prog 81:=⟨by kernel_rfl⟩
instance :Bod Tryz.prog 82:=⟨by kernel_rfl⟩
instance :Bod Tryz.prog 83:=⟨by kernel_rfl⟩
instance :Bod Tryz.prog 84:=⟨by kernel_rfl⟩
instance :Bod Tryz.prog 85:=⟨by kernel_rfl⟩
instance :Bod Tryz.prog 86:=⟨by kernel_rfl⟩
instance :Bod Tryz.prog 87:=⟨by kernel_rfl⟩
instance :Bod Tryz.prog 88:=⟨by kernel_rfl⟩
instance :Bod Tryz.prog 92:=⟨by kernel_rfl⟩
instance :Bod Tryz.prog 93:=⟨by kernel_rfl⟩
instance :Bod Tryz.prog 94:=⟨by kernel_rfl⟩
instance :Bod Tryz.prog 95:=⟨by kernel_rfl⟩
instance :Bod Tryz.prog 96:=⟨by kernel_rfl⟩
instance :Bod Tryz.prog 97:=⟨by kernel_rfl⟩
instance :Bod Tryz.prog 98:=⟨by kernel_rfl⟩
instance :Bod Tryz.prog 99:=⟨by kernel_rfl⟩
instance :Bod Tryz.prog 100:=⟨by kernel_rfl⟩
instance :Bod Tryz.prog 101:=⟨by kernel_rfl⟩
instance :Bod Tryz.prog 102:=⟨by kernel_rfl⟩
instance :Bod Tryz.prog 122:=⟨by kernel_rfl⟩
instance :Bod Tryz.prog 123:=⟨by kernel_rfl⟩
instance :Bod Tryz.prog 124:=⟨by kernel_rfl⟩
instance :Bod Tryz.prog 125:=⟨by kernel_rfl⟩
instance :Bod Tryz.prog 134:=⟨by kernel_rfl⟩
instance :Bod Tryz.prog 135:=⟨by kernel_rfl⟩
instance :Bod Tryz.prog 136:=⟨by kernel_rfl⟩
instance :Bod Tryz.prog 137:=⟨by kernel_rfl⟩
end Go.Proofs
namespace Go.Proofs.A1
def sFix:ByteArray:=⟨#[102,105,120,101,100]⟩
def sFol:ByteArray:=⟨#[102,111,108,108,111,119,105,110,103]⟩
def sMan:ByteArray:=⟨#[109,97,110,117,97,108]⟩
theorem sFix_ne_sFol:¬ sFix = sFol:=by decide
theorem sMan_ne_sFol:¬ sMan = sFol:=by decide
theorem sFix_ne_sMan:¬ sFix = sMan:=by decide
def whenF (h:Bool) (e:Int):Int:=bif h then e else 0
theorem whenF_zero {h:Bool} {e:Int} (he:e ≠ 0):whenF h e = 0 ↔ h = false:=by cases h <;> simp [whenF,he]
def withinF (n l m:Int):Int:=whenF (decide (n < l) || decide (m < n)) 3
theorem withinF_zero {n l m:Int}:withinF n l m = 0 ↔ l ≤ n ∧ n ≤ m:=by
  unfold withinF
  rw [whenF_zero (by decide)]
  simp
def firstF:List Int → Int
  | []=>0
  | e :: r=>if e ≠ 0 then e else firstF r
theorem firstF_zero:∀ {l:List Int},firstF l = 0 ↔ ∀ e ∈ l,e = 0
  | []=>by simp [firstF]
  | e :: r => by
    unfold firstF
    by_cases h:e = 0
    · simp [h,firstF_zero (l:=r)]
    · simp [h]
theorem firstF_at {es:List Int} {k:Nat} (h:k < es.length):firstF (es.drop k) = if es[k] ≠ 0 then es[k] else firstF (es.drop (k + 1)):=by
  rw [List.drop_eq_getElem_cons h];rfl
def firstE (f:Nat → Int):Nat → Nat → Int
  | _,0=>0
  | k,n + 1=>if f k ≠ 0 then f k else firstE f (k + 1) n
def errE (f:Nat → Int) (n:Nat):Int:=firstE f 0 n
theorem firstE_ok {f:Nat → Int}:∀ {n k:Nat},firstE f k n = 0 ↔ ∀ i,k ≤ i → i < k + n → f i = 0
  | 0,k=>by simp only [firstE,true_iff];intro i h1 h2;omega
  | n + 1, k => by
    unfold firstE
    by_cases h:f k = 0
    · rw [if_neg (by simpa using h),firstE_ok]
      constructor
      · intro g i h1 h2
        by_cases e:i = k
        · rw [e];exact h
        · exact g i (by omega) (by omega)
      · intro g i h1 h2;exact g i (by omega) (by omega)
    · rw [if_pos h]
      constructor
      · intro e;exact absurd e h
      · intro g;exact absurd (g k (Nat.le_refl _) (by omega)) h
theorem errE_ok {f:Nat → Int} {n:Nat}:errE f n = 0 ↔ ∀ i,i < n → f i = 0:=by
  unfold errE
  rw [firstE_ok]
  constructor
  · intro g i h;exact g i (Nat.zero_le _) (by omega)
  · intro g i _ h;exact g i (by omega)
theorem firstE_bad {f:Nat → Int}:∀ {n k j:Nat},(∀ i,k ≤ i → i < j → f i = 0) → k ≤ j → j < k + n → f j ≠ 0 → firstE f k n = f j
  | 0,k,j,_,h1,h2,_=>by omega
  | n + 1, k, j, h, h1, h2, h3 => by
    unfold firstE
    by_cases e:k = j
    · subst e;rw [if_pos h3]
    · rw [if_neg (by simpa using h k (Nat.le_refl _) (by omega))]
      exact firstE_bad (fun i h4 h5=>h i (by omega) h5) (by omega) (by omega) h3
theorem errE_bad {f:Nat → Int} {n j:Nat} (h:∀ i,i < j → f i = 0) (hj:j < n) (hn:f j ≠ 0):errE f n = f j:=
  firstE_bad (fun i _ h2=>h i h2) (Nat.zero_le _) (by omega) hn
def bt (s:ByteArray) (i:Nat):Int:=((s.data.toList[i]?.getD 0).toNat:Nat)
def isL (c:Int):Bool:=(decide (65 ≤ c) && decide (c ≤ 90)) || (decide (97 ≤ c) && decide (c ≤ 122))
def isD (c:Int):Bool:=decide (48 ≤ c) && decide (c ≤ 57)
def okB (c:Int):Bool:=isL c || isD c || decide (c = 95)
def okF (s:ByteArray) (k:Nat):Bool:=(List.range' k (s.size - k)).all fun i=>okB (bt s i)
theorem okF_at {s:ByteArray} {k:Nat} (h:k < s.size):okF s k = (okB (bt s k) && okF s (k + 1)):=by
  unfold okF
  rw [show s.size - k = (s.size - (k + 1)) + 1 by omega,List.range'_succ]
  rfl
theorem okF_end {s:ByteArray} {k:Nat} (h:s.size ≤ k):okF s k = true:=by
  unfold okF
  rw [show s.size - k = 0 by omega];rfl
def nameF (s:ByteArray):Bool:=decide (0 < s.size) && decide (s.size ≤ 24) && isL (bt s 0) && okF s 1
def nmF (s:ByteArray):Int:=whenF (!nameF s) 8
structure En where
  nm:ByteArray
  mt:ByteArray
  kd:ByteArray
  tm:Int
  ln:Int
  ov:Int
def En.zero:En:=⟨⟨#[]⟩,⟨#[]⟩,⟨#[]⟩,0,0,0⟩
def nth (es:List En) (k:Nat):En:=es.getD k En.zero
theorem nth_eq {es:List En} {k:Nat} (h:k < es.length):nth es k = es[k]:=by simp [nth,List.getD_eq_getElem?_getD,h]
def mostF (kd:ByteArray):Int:=if kd = sFol then 0 else 10000000
def kindB (kd:ByteArray):Bool:=decide (kd = sFix) || decide (kd = sFol) || decide (kd = sMan)
def startF (kd:ByteArray) (t:Int):Int:=firstF [whenF (!kindB kd) 13,withinF t 0 (mostF kd)]
def entF (x:En):Int:=firstF [nmF x.nm,nmF x.mt,startF x.kd x.tm,withinF x.ln 1 1000000,withinF x.ov 0 250,whenF (decide (x.ln ≤ x.ov)) 4]
structure EnOk (x:En):Prop where
  nm:nameF x.nm = true
  mt:nameF x.mt = true
  kd:x.kd = sFix ∨ x.kd = sFol ∨ x.kd = sMan
  tm:0 ≤ x.tm ∧ x.tm ≤ 10000000
  fol:x.kd = sFol → x.tm = 0
  ln:1 ≤ x.ln ∧ x.ln ≤ 1000000
  ov:0 ≤ x.ov ∧ x.ov ≤ 250
  lt:x.ov < x.ln
theorem entF_ok {x:En}:entF x = 0 ↔ EnOk x:=by
  unfold entF
  rw [firstF_zero]
  simp only [List.mem_cons,List.not_mem_nil,or_false,forall_eq_or_imp,forall_eq,nmF,startF,firstF_zero,withinF_zero]
  rw [whenF_zero (by decide),whenF_zero (by decide),whenF_zero (by decide),whenF_zero (by decide)]
  simp only [Bool.not_eq_false',kindB,Bool.or_eq_true,decide_eq_true_eq,decide_eq_false_iff_not,Int.not_le]
  constructor
  · rintro ⟨h1,h2,⟨h3,h4⟩,h5,h6,h7⟩
    refine ⟨h1,h2,?_,⟨h4.1,?_⟩,?_,h5,h6,h7⟩
    · rcases h3 with (h | h) | h
      · exact .inl h
      · exact .inr (.inl h)
      · exact .inr (.inr h)
    · have:=h4.2
      unfold mostF at this
      split at this <;> omega
    · intro h
      have:=h4.2
      rw [mostF,if_pos h] at this
      omega
  · intro h
    refine ⟨h.nm,h.mt,⟨?_,h.tm.1,?_⟩,h.ln,h.ov,h.lt⟩
    · rcases h.kd with h | h | h
      · exact .inl (.inl h)
      · exact .inl (.inr h)
      · exact .inr h
    · unfold mostF
      split
      · rename_i e;have:=h.fol e;omega
      · exact h.tm.2
def frm (kd:ByteArray) (t j:Int):Int:=if kd = sFol then j else if kd = sMan then max t j else t
def jn (es:List En):Nat → Int
  | 0=>0
  | k + 1=>frm (nth es k).kd (nth es k).tm (jn es k) + (nth es k).ln - (nth es k).ov
def fr (es:List En) (k:Nat):Int:=frm (nth es k).kd (nth es k).tm (jn es k)
def to (es:List En) (k:Nat):Int:=fr es k + (nth es k).ln
theorem jn_succ (es:List En) (k:Nat):jn es (k + 1) = to es k - (nth es k).ov:=rfl
structure EsOk (es:List En):Prop where
  ok:∀ k,k < es.length → EnOk (nth es k)
  few:es.length ≤ 24
theorem jn_in {es:List En} (h:∀ k,k < es.length → EnOk (nth es k)):∀ k,k ≤ es.length → 0 ≤ jn es k ∧ jn es k ≤ 10000000 + 1000000 * k
  | 0,_=>by simp [jn]
  | k + 1, hk => by
    have ih:=jn_in h k (by omega)
    have o:=h k (by omega)
    have h1:=o.tm;have h2:=o.ln;have h3:=o.ov;have h4:=o.lt
    rw [jn_succ,to,fr,frm]
    split
    · omega
    · split
      · omega
      · omega
theorem fr_in {es:List En} (h:∀ k,k < es.length → EnOk (nth es k)) {k:Nat} (hk:k < es.length):0 ≤ fr es k ∧ fr es k ≤ 10000000 + 1000000 * k:=by
  have ih:=jn_in h k (by omega)
  have h1:=(h k hk).tm
  rw [fr,frm]
  split
  · omega
  · split <;> omega
def dup (es:List En) (k:Nat):Bool:=(List.range k).any fun i=>decide ((nth es i).nm = (nth es k).nm)
def e1At (es:List En) (k:Nat):Int:=firstF [entF (nth es k),whenF (dup es k) 9,whenF (decide (k = 0) && decide ((nth es k).kd = sFol)) 22]
def badAt (es:List En) (k:Nat):Bool:=
  decide (0 < k) && (decide (fr es k < to es (k - 1) - (nth es (k - 1)).ov) || decide (fr es k ≤ fr es (k - 1)) || (decide (1 < k) && decide (fr es k < to es (k - 2))) || decide (to es k ≤ to es (k - 1)))
def e2At (es:List En) (k:Nat):Int:=firstF [whenF (badAt es k) 15,whenF (decide (10000000 < to es k)) 4]
def chkF (es:List En):Int:=if 24 < es.length then 5 else firstF [errE (e1At es) es.length,errE (e2At es) es.length]
theorem e1_ok {es:List En} {k:Nat} (h:e1At es k = 0):EnOk (nth es k) ∧ dup es k = false ∧ (k = 0 → ¬ (nth es k).kd = sFol):=by
  unfold e1At at h
  rw [firstF_zero] at h
  simp only [List.mem_cons,List.not_mem_nil,or_false,forall_eq_or_imp,forall_eq] at h
  rw [whenF_zero (by decide),whenF_zero (by decide)] at h
  refine ⟨entF_ok.1 h.1,h.2.1,fun e=>?_⟩
  have:=h.2.2
  simpa [e] using this
theorem chk_ok {es:List En} (h:chkF es = 0):EsOk es ∧ (∀ k,k < es.length → dup es k = false) ∧ (0 < es.length → ¬ (nth es 0).kd = sFol) ∧ (∀ k,k < es.length → badAt es k = false ∧ to es k ≤ 10000000):=by
  unfold chkF at h
  split at h
  · cases h
  · rename_i hl
    rw [firstF_zero] at h
    simp only [List.mem_cons,List.not_mem_nil,or_false,forall_eq_or_imp,forall_eq] at h
    rw [errE_ok,errE_ok] at h
    refine ⟨⟨fun k hk=>(e1_ok (h.1 k hk)).1,by omega⟩,fun k hk=>(e1_ok (h.1 k hk)).2.1,fun h0=>(e1_ok (h.1 0 h0)).2.2 rfl,fun k hk=>?_⟩
    have:=h.2 k hk
    unfold e2At at this
    rw [firstF_zero] at this
    simp only [List.mem_cons,List.not_mem_nil,or_false,forall_eq_or_imp,forall_eq] at this
    rw [whenF_zero (by decide),whenF_zero (by decide)] at this
    refine ⟨this.1,by simpa using this.2⟩
end Go.Proofs.A1
namespace Go.SL
open Go
theorem Keeps.over {md fp:List Nat} {a b c:World} (h:Keeps md a b) (hf:∀ x ∈ fp,x ∈ md ∨ a.heap.size ≤ x) (k:Keeps fp b c):Keeps md a c:=
  ⟨k.os.trans h.os,k.tape.trans h.tape,k.output.trans h.output,Nat.le_trans h.size k.size,fun i hi hm=>by
    rw [← h.block i hi hm]
    exact k.block i (Nat.lt_of_lt_of_le hi h.size) (fun hx=>by
      rcases hf i hx with h1 | h1
      · exact hm h1
      · omega)⟩
def Out (md:List Nat) (v:Value) (xs:List (List Value)):Prop:=xs ≠ [] → ∀ b,v.ownBlock = some b → b ∉ md
theorem Out.nil (v:Value) (xs:List (List Value)):Out [] v xs:=fun _ _ _ h=>by cases h
theorem Rd.keepsN {md:List Nat} {w w':World} {v:Value} {sz:Nat} {xs:List (List Value)} (h:Rd w v sz xs) (hn:Out md v xs) (hk:Keeps md w w'):Rd w' v sz xs:=by
  obtain ⟨a,cap,b,o,rfl,h2,h2',h3,h4⟩:=h
  refine ⟨a,cap,b,o,rfl,h2,h2',h3,fun i r hr=>⟨(h4 i r hr).1,fun j u hu=>?_⟩⟩
  have:=(h4 i r hr).2 j u hu
  have hb:=World.block_lt_of_cell? w _ this
  have hne:xs ≠ []:=by rintro rfl;simp at hr
  rw [← this]
  simp only [World.cell?]
  rw [hk.block b hb (hn hne b (by rw [h3 hne];rfl))]
theorem Rd.out {md fp:List Nat} {w0:World} {v:Value} {sz:Nat} {xs:List (List Value)} (h:Rd w0 v sz xs) (hsz:0 < sz) (hn:Out md v xs) (hF:∀ b ∈ fp,b ∈ md ∨ w0.heap.size ≤ b):Out fp v xs:=fun hne b hb hbf=>by
  obtain ⟨a,cap,b',o,rfl,h2,h2',h3,h4⟩:=h
  have ha:=h3 hne
  subst ha
  have:b' = b:=by simpa [Value.ownBlock] using hb
  subst this
  obtain ⟨r,rs,rfl⟩:=List.exists_cons_of_ne_nil hne
  obtain ⟨hl,hc⟩:=h4 0 r rfl
  obtain ⟨u,us,rfl⟩:=List.exists_cons_of_ne_nil (l:=r) (by rintro rfl;simp at hl;omega)
  have hlt:=World.block_lt_of_cell? w0 _ (hc 0 u rfl)
  rcases hF b' hbf with h | h
  · exact hn hne b' hb h
  · exact absurd hlt (by simp;omega)
theorem Out.not_mem {fp:List Nat} {a:Option Addr} {len cap b o:Nat} {xs:List (List Value)} (h:Out fp (.slice a len cap) xs) (hne:xs ≠ []) (ha:a = some ⟨b,o,none⟩):b ∉ fp:=h hne b (by rw [ha];rfl)
theorem Ats.baseN {c:Cx} {hs:List Asn} {b o:Nat} {vs:List Value} (h:∀ (j:Nat) (u:Value),vs[j]? = some u → c.w0.cell? ⟨b,o + j,none⟩ = some u) (hmd:b ∉ c.md):Ats c hs b o vs:=
  Ats.of_get fun j v hv=>At.baseN (h j v hv) hmd
def YieldsB (P:Program) (l:Nat) (args:List Value) (w0:World) (md:List Nat) (pre:Asn) (post:Bool → Asn):Prop:=
  ∀ W fp, Keeps md w0 W → (∀ b ∈ fp, b ∈ md ∨ w0.heap.size ≤ b) → fp.Nodup → pre.sat (hp W) fp → ∃ f tmps asg body, (Instr.yield l args.toArray).run P W = .ok (.round l f tmps asg body) W ∧
    RoundIn (FR none) 0 P l f tmps asg body W (RoundR fp W post)
def Iter (P:Program) (f:FuncId) (first cap:List Value) (own:List Asn) (items:List (List Value)) (w0:World) (md:List Nat) (w:World):Prop:=
  ∀ (l : Nat) (fp : List Nat) (J : Nat → Asn) (E : Asn), Keeps md w0 w → (∀ b ∈ fp, b ∈ md ∨ w0.heap.size ≤ b) → fp.Nodup → Sats (hp w) (J 0 :: own) fp →
    (∀ k vs,items[k]? = some vs → YieldsB P l vs w0 md (J k) (fun b=>bif b then J (k + 1) else E)) →
    Gives P f (first++[.func (.yield l) #[] #[]]++cap) w fp (fun _:Bool=>True) (fun _=>.tuple #[]) (fun b=>(bif b then J items.length else E) :: own)
section
variable {P:Program} {r:Option Nat} {c:Cx} {D:List Nat} {sl:Slots} {hs hs':List Asn} {Q:Exit → Act → World → Prop} {ι κ:Type}
variable {ops:Array Oper} {d:Nat} {ty:TypeId} {pos:String} {af:Array Edge} {rest:List Oper}
theorem tr_yieldB {x:Operand} {xs:List Operand} {ts:Array TypeId} {l:Nat} {w0:World} {md:List Nat} {vs:List Value} {pre:Asn} {post:Bool → Asn} (hB:Keeps md w0 c.w0) (hF:∀ b ∈ c.md,b ∈ md ∨ w0.heap.size ≤ b) (hy:YieldsB P l vs w0 md pre post)
    (hx:Is sl x (.func (.yield l) #[] #[])) (ha:Iss sl xs vs) (hd:Nat.blt d c.nt = true) (ht:Take hs pre hs')
    (k:∀ b,Tr c D ((d,.bool b) :: sl) (post b :: hs') (WL P r ops Q rest)):Tr c D sl hs (WL P r ops Q (⟨some d,.call ⟨.value x,xs.toArray,ts⟩,ty,pos,af,none⟩ :: rest)):=fun a w hst=>by
  have hm:=hst.mem.take (ht.append _)
  obtain ⟨kk,fp,hn,⟨f1,f2,rfl,h1,h2⟩,hb⟩:=hm
  obtain ⟨f,tmps,asg,body,hrun,hround⟩:=hy w f1 (hB.over hF kk) (fun b hb'=>by
    rcases hb b (List.mem_append_left _ hb') with h | h
    · exact .inr (Nat.le_trans hB.size h)
    · exact hF b h) (List.nodup_append.1 hn).1 h1
  refine wl_op rfl ⟨fr_about _ _ _ _ _,?_⟩
  rw [Oper.semAt_eq _ _ _ (by simp)]
  have:(execOp a.eval ⟨some d,.call ⟨.value x,xs.toArray,ts⟩,ty,pos,af,none⟩).run P w = .ok (.round l f tmps asg body) w:=by
    simp only [execOp,resolve,hx a hst.slots,Deferred.ofValue,Sem.run_bind,Sem.run_pure,Result.andThen_ok,invoke,List.map_toArray,ha.map hst.slots]
    simpa using hrun
  rw [this]
  refine ⟨by simp [FR,Fence.wide],(round_any hround).mono fun e w' ⟨b,he,hk,fp',hn',hs1,hf'⟩=>?_⟩
  subst he
  refine k b _ _ ((hst.put (by simpa [Nat.blt_eq] using hd) (.bool b)).heap ?_)
  obtain ⟨n1,n2,n12⟩:=List.nodup_append.1 hn
  have hlt:∀ b ∈ f2,b < w.heap.size:=fun b hb'=>let ⟨o,ho⟩:=h2.own b hb';hp_lt ho
  refine ⟨?_,fp'++f2,?_,⟨fp',f2,rfl,hs1,h2.loc fun b hb'=>?_⟩,?_⟩
  · refine ⟨hk.os.trans kk.os,hk.tape.trans kk.tape,hk.output.trans kk.output,Nat.le_trans kk.size hk.size,fun b hb' hm=>?_⟩
    rw [← kk.block b hb' hm]
    refine hk.block b (Nat.lt_of_lt_of_le hb' kk.size) (fun hf=>?_)
    rcases hb b (List.mem_append_left _ hf) with h | h
    · omega
    · exact hm h
  · refine List.nodup_append.2 ⟨hn',n2,fun x hx y hy e=>?_⟩
    subst e
    rcases hf' x hx with h | h
    · exact n12 x h x hy rfl
    · have:=hlt x hy;omega
  · exact hk.block b (hlt b hb') (fun hf=>n12 b hf b hb' rfl)
  · intro b hb'
    rcases List.mem_append.1 hb' with h | h
    · rcases hf' b h with h | h
      · exact hb b (List.mem_append_left _ h)
      · exact .inl (Nat.le_trans kk.size h)
    · exact hb b (List.mem_append_right _ h)
theorem yieldsB_of {l:Nat} {rc:Loop} {nt:Nat} {vs:List Value} {w0:World} {md:List Nat} {Φ:ι → Prop} {A:ι → List Asn} {post:Bool → Asn} {sl0:Slots} (hsl:SlotsOk sl0 ⟨rc.tmps,[]⟩) (hn:rc.tmps.size = nt) (hlen:vs.length = rc.params.size) (hps:∀ t ∈ rc.params.toList,t < nt)
    (h:∀ x W fp,Keeps md w0 W → (∀ b ∈ fp,b ∈ md ∨ w0.heap.size ≤ b) → Φ x → Tr ⟨W,fp,nt⟩ [] (putAll (rc.params.toList.zip vs) sl0) (blk l (recL rc .ready none) :: A x) (WP P (some l) rc.assign (Exit.then (Begins P l rc.body (RoundR fp W post)) (fun _ _ _=>False)))) :
    YieldsB P l vs w0 md (exA Φ fun x=>blk l (recL rc .ready none) :: A x) post:=by
  rintro W fp hB hF hnd ⟨x,hx,hsat⟩
  have hmem:Mem ⟨W,fp,nt⟩ (blk l (recL rc .ready none) :: A x) W:=⟨.refl _ _,fp,hnd,hsat,fun b hb=>.inr hb⟩
  have hb:W.heap[l]? = some (recL rc .ready none):=hmem.blk .here
  have hy:=run_yield (P:=P) (w:=W) (l:=l) (r:={ rc with state:=.ready,pending:=none }) (args:=vs.toArray) hb (by simpa using hlen)
  refine ⟨_,_,_,_,hy,?_⟩
  refine roundIn_of_wpIn trivial ?_
  obtain ⟨g1,g2⟩:=putAll_ok (rc.params.toList.zip vs) sl0 rc.tmps hsl hn (fun p hp=>hps p.1 (by
    obtain ⟨t,v⟩:=p
    exact (List.of_mem_zip hp).1))
  have hfold:((rc.params.zip vs.toArray).foldl (fun tmps (x:Nat × Value)=>tmps.setIfInBounds x.1 x.2) rc.tmps) = (rc.params.toList.zip vs).foldl (fun (t:Array Value) p=>t.setIfInBounds p.1 p.2) rc.tmps:=by
    rw [← Array.foldl_toList]
    simp
  have:=h x W fp hB hF hx ⟨(rc.params.toList.zip vs).foldl (fun (t:Array Value) p=>t.setIfInBounds p.1 p.2) rc.tmps,[]⟩ W ⟨by simpa [mks] using hmem,g1,g2,rfl⟩
  rw [← hfold] at this
  exact this
def SeqPost (l:Nat) (rc:Loop) (Φ:Nat → ι → Prop) (A:ι → List Asn) (Ψ:κ → Prop) (B:κ → List Asn) (pd:κ → Code) (k:Nat) (b:Bool):Asn:=
  bif b then exA (Φ k) (fun x=>blk l (recL rc .ready none) :: A x) else exA Ψ (fun y=>blk l (recL rc .done (some (pd y))) :: B y)
theorem tr_rangeSeq {g:Operand} {ps:List Tmp} {asg body:Code} {f:FuncId} {first cap:List Value} [Bod P f] (hg:Is sl g (.func (.func f) first.toArray cap.toArray))
    (own:List Asn) (items:List (List Value)) (hit:∀ w,Mem c hs w → Iter P f first cap own items c.w0 c.md w)
    (Φ:Nat → ι → Prop) (A:ι → List Asn) (Ψ:κ → Prop) (B:κ → List Asn) (pd:κ → Code) (x0:ι) {rst:List Asn} (h0:Φ 0 x0) (ht:Takes hs (A x0++own) rst)
    (hlen:∀ vs ∈ items,vs.length = ps.length) (hps:∀ t ∈ ps,t < c.nt)
    (round:∀ l rc W fp k x vs,rc.tmps.size = c.nt → items[k]? = some vs → Φ k x → Keeps c.md c.w0 W → (∀ b ∈ fp,b ∈ c.md ∨ c.w0.heap.size ≤ b) →
      Tr ⟨W,fp,c.nt⟩ [] (putAll (ps.zip vs) sl) (blk l (recL rc .ready none) :: A x) (WP P (some l) asg (Exit.then (Begins P l body (RoundR fp W (SeqPost l rc Φ A Ψ B pd (k + 1)))) (fun _ _ _=>False))))
    (kn:∀ x D,Φ items.length x → Tr c D sl (A x++own++rst) (Q .normal))
    (kj:∀ y D,Ψ y → Tr c D sl (B y++own++rst) (WP P none (pd y) Q)) :
    Tr c D sl hs (WP P none (.rangeFunc g ps.toArray asg body) Q):=by
  refine tr_rangeFunc (ι:=ι ⊕ κ) hg (As:=fun l rc=>blk l (recL rc .ready none) :: (A x0++own)) (rest:=rst)
    (Φ:=fun l rc x=>match x with | .inl x=>Φ items.length x | .inr y=>Ψ y) (own:=fun l rc x=>match x with | .inl x=>A x++own | .inr y=>B y++own)
    (st:=fun x=>match x with | .inl _=>.ready | .inr _=>.done) (pd:=fun x=>match x with | .inl _=>none | .inr y=>some (pd y)) ?_ ?_ ?_ ?_ ?_
  · exact fun l rc=>Takes.cons .here ht
  · rintro (x | y) <;> simp
  · intro l rc hps' ha hbd hsl hsz w fp hm hn hs1 hfp
    have hfp':∀ b ∈ fp,b ∈ c.md ∨ c.w0.heap.size ≤ b:=fun b hb=>(hfp b hb).symm
    have hs2:Sats (hp w) (exA (Φ 0) (fun x=>blk l (recL rc .ready none) :: A x) :: own) fp:=by
      rw [← List.cons_append] at hs1
      obtain ⟨f1,f2,rfl,h1,h2⟩:=Sats.append_iff.1 hs1
      exact ⟨f1,f2,rfl,⟨x0,h0,h1⟩,h2⟩
    refine (hit w hm.dropHead l fp (fun k=>exA (Φ k) (fun x=>blk l (recL rc .ready none) :: A x)) (exA Ψ (fun y=>blk l (recL rc .done (some (pd y))) :: B y)) hm.keeps hfp' hn hs2 ?_).mono ?_
    · intro k vs hk
      refine yieldsB_of (post:=SeqPost l rc Φ A Ψ B pd (k + 1)) hsl hsz (by rw [hps'];simpa using hlen vs (List.mem_of_getElem? hk)) (by rw [hps'];simpa using hps) ?_
      intro x W fp2 hB hF hx
      have:=round l rc W fp2 k x vs hsz hk hx hB hF
      rw [ha,hbd,hps']
      simpa using this
    · rintro e w' ⟨b,he,_,hk,fp',hn',hs',hf'⟩
      obtain ⟨f1,f2,rfl,h1,h2⟩:=hs'
      cases b with
      | true =>
        obtain ⟨x,hx,h1⟩:=h1
        exact ⟨.inl x,he,hx,hk,f1++f2,hn',by
          show Sats _ (blk l (recL rc .ready none) :: (A x++own)) _
          rw [← List.cons_append]
          exact Sats.append_iff.2 ⟨f1,f2,rfl,h1,h2⟩,hf'⟩
      | false =>
        obtain ⟨y,hy,h1⟩:=h1
        exact ⟨.inr y,he,hy,hk,f1++f2,hn',by
          show Sats _ (blk l (recL rc .done (some (pd y))) :: (B y++own)) _
          rw [← List.cons_append]
          exact Sats.append_iff.2 ⟨f1,f2,rfl,h1,h2⟩,hf'⟩
  · rintro l rc (x | y) b hx hpd
    · exact kn x (b :: D) hx
    · simp at hpd
  · rintro l rc (x | y) b j hx hpd
    · simp at hpd
    · simp only [Option.some.injEq] at hpd;subst hpd
      exact kj y (b :: D) hx
theorem tr_seqN {nt:Nat} {W:World} {fp:List Nat} {l:Nat} {rc:Loop} {Φ:Nat → ι → Prop} {A:ι → List Asn} {Ψ:κ → Prop} {B:κ → List Asn} {pd:κ → Code} {k:Nat} {s:LoopState} {p:Option Code} (x:ι) {rst rst2:List Asn}
    (ht:Take hs (blk l (recL rc s p)) rst) (hx:Φ k x) (h2:Takes rst (A x) rst2):Tr ⟨W,fp,nt⟩ D sl hs (roundPost P l (RoundR fp W (SeqPost l rc Φ A Ψ B pd k)) .normal):=
  tr_roundN (c:=⟨W,fp,nt⟩) (post:=SeqPost l rc Φ A Ψ B pd k) x rfl ht hx (Takes.cons .here h2)
theorem tr_seqR {nt:Nat} {W:World} {fp:List Nat} {l:Nat} {rc:Loop} {Φ:Nat → ι → Prop} {A:ι → List Asn} {Ψ:κ → Prop} {B:κ → List Asn} {pd:κ → Code} {k:Nat} {s:LoopState} {p:Option Code} (y:κ) {rst rst2:List Asn}
    (hpd:pd y = .ret) (ht:Take hs (blk l (recL rc s p)) rst) (hy:Ψ y) (h2:Takes rst (B y) rst2):Tr ⟨W,fp,nt⟩ D sl hs (roundPost P l (RoundR fp W (SeqPost l rc Φ A Ψ B pd k)) .ret):=by
  refine tr_roundR (c:=⟨W,fp,nt⟩) (post:=SeqPost l rc Φ A Ψ B pd k) (Φ:=Ψ) (A:=fun y=>blk l (recL rc .done (some (pd y))) :: B y) y (rest:=rst2) rfl ht hy ?_
  rw [hpd];exact Takes.cons .here h2
end
end Go.SL
namespace Go.SL
open Go
theorem flatten_rep_get {α:Type} {zs:List α} {n i:Nat} (h0:0 < zs.length) (hi:i < n * zs.length):(List.replicate n zs).flatten[i]? = zs[i % zs.length]?:=by
  induction n generalizing i with
  | zero=>omega
  | succ n ih =>
    rw [List.replicate_succ,List.flatten_cons,List.getElem?_append]
    split
    · rw [Nat.mod_eq_of_lt (by assumption)]
    · rw [ih (by rw [Nat.succ_mul] at hi;omega),Nat.mod_eq_sub_mod (a:=i) (by omega)]
theorem madeCells_rows {z:Array Value} {n:Nat} (h0:0 < z.size):(madeCells z (n * z.size)) = (List.replicate n z.toList).flatten.toArray:=by
  apply Array.ext'
  apply List.ext_getElem?
  intro i
  rw [Array.getElem?_toList]
  by_cases hi:i < n * z.size
  · have:=flatten_rep_get (zs:=z.toList) (n:=n) (i:=i) (by simpa using h0) (by simpa using hi)
    rw [this]
    simp [madeCells,hi,Nat.mod_lt _ h0]
  · rw [Array.getElem?_eq_none (by simp [size_madeCells];omega),List.getElem?_eq_none (by simp;omega)]
section
variable {P:Program} {c:Cx} {sl:Slots} {hs:List Asn} {dst:Option Tmp} {ty:TypeId} {pos:String} {af:Array Edge} {g:Option (Nat × Bool)}
theorem rk_make {t e:TypeId} {agg:Bool} {size bytes l cp:Nat} {z:Value} {x y:Operand} {kx ky:IntKind} [hu:Und P t (.slice e)] [hT:Ty P e agg size] [hZ:Zer P e z] [hB:Byt P e bytes]
    (hx:Is sl x (.int kx l)) (hy:Is sl y (.int ky cp)) (hl:l ≤ cp) (hb:bytes * cp ≤ 281474976710656) (hz:z.cells.size = size) (hsz:Nat.blt 0 size = true) (h63:cp ≤ 9223372036854775807) :
    RunN P c sl hs ⟨dst,.makeSlice t x y,ty,pos,af,g⟩ (fun b=>.slice (some ⟨b,0,none⟩) l cp) (.cells (List.replicate cp z.cells.toList).flatten.toArray e (0,0)):=
  ⟨by simp,fun a w ha _=>by
    obtain ⟨de,i,hde,hi,_,hsize⟩:=Ty.parts (P:=P) (t:=e) (agg:=agg) (n:=size)
    have hzero:i.zero = some z:=by have:=hZ.eq;rw [hi] at this;simpa using this
    have hbytes:i.bytes = bytes:=by have:=hB.eq;rw [hi] at this;simpa using this
    have hs0:0 < size:=by simpa [Nat.blt_eq] using hsz
    have:=run_make (P:=P) w t e i z hu.eq hi hzero kx ky l cp (by omega) (by omega) (by rw [hbytes];omega) (by omega)
    have e1:=madeCells_rows (z:=z.cells) (n:=cp) (by omega)
    rw [hz] at e1
    simp only [execOp,hx a ha,hy a ha]
    refine (by rw [Sem.run_bind,this];simp only [Int.toNat_natCast,hsize,e1];rfl)⟩
end
end Go.SL
namespace Go.SL
open Go
def tab (n:Nat) (f:Nat → List Value):List Value:=((List.range n).map f).flatten
theorem tab_length {n sz:Nat} {f:Nat → List Value} (hf:∀ i,i < n → (f i).length = sz):(tab n f).length = n * sz:=by
  unfold tab
  induction n with
  | zero=>simp
  | succ n ih =>
    rw [List.range_succ,List.map_append,List.flatten_append,List.length_append,ih (fun i h=>hf i (by omega))]
    simp [hf n (by omega),Nat.succ_mul]
theorem tab_get {n sz i j:Nat} {f:Nat → List Value} (hf:∀ i,i < n → (f i).length = sz) (hi:i < n) (hj:j < sz):(tab n f)[i * sz + j]? = (f i)[j]?:=by
  have hl:=hf i hi
  obtain ⟨u,hu⟩:∃ u,(f i)[j]? = some u:=⟨(f i)[j]'(by omega),List.getElem?_eq_getElem (by omega)⟩
  rw [hu]
  exact flatten_get _ i (fun r hr=>by obtain ⟨k,hk,rfl⟩:=List.mem_map.1 hr;exact hf k (List.mem_range.1 hk)) (by simp [hi]) hu
theorem setCells_get:∀ (vs cs:List Value) (o k:Nat),o + vs.length ≤ cs.length → (setCells cs o vs)[k]? = if o ≤ k ∧ k < o + vs.length then vs[k - o]? else cs[k]?
  | [], cs, o, k, _ => by
    rw [if_neg (by simp only [List.length_nil];omega)];rfl
  | v :: vs, cs, o, k, h => by
    simp only [List.length_cons] at h ⊢
    rw [setCells,setCells_get vs _ (o + 1) k (by simp;omega)]
    by_cases h1:o + 1 ≤ k ∧ k < o + 1 + vs.length
    · rw [if_pos h1,if_pos (by omega),show k - o = (k - (o + 1)) + 1 by omega,List.getElem?_cons_succ]
    · rw [if_neg h1]
      by_cases h2:k = o
      · subst h2
        rw [if_pos (by omega),Nat.sub_self,List.getElem?_cons_zero,List.getElem?_set_self (by omega)]
      · rw [if_neg (by omega),List.getElem?_set_ne (by omega)]
theorem tab_cells {n sz i:Nat} {f:Nat → List Value} (hf:∀ i,i < n → (f i).length = sz) (hi:i < n):cellsAt (tab n f) (i * sz) sz = f i:=by
  rw [cellsAt_eq]
  apply List.ext_getElem?
  intro j
  rw [List.getElem?_take]
  split
  · rw [List.getElem?_drop,tab_get hf hi (by assumption)]
  · rw [List.getElem?_eq_none (by rw [hf i hi];omega)]
theorem tab_eq_map (n:Nat) (f:Nat → List Value):tab n f = ((List.range n).map f).flatten:=rfl
theorem At.blkL {c:Cx} {hs hs':List Asn} {b o:Nat} {cs:List Value} {E:TypeId} {fz:Nat × Nat} {v:Value} (ht:Take hs (SL.blk b (.cells cs.toArray E fz)) hs') (hv:cs[o]? = some v):At c hs b o v:=
  At.blk ht (by simpa using hv)
section
variable {P:Program} {c:Cx} {sl:Slots} {hs hs':List Asn}
theorem endsCT {fn:Func} {t u:Tmp} {T:TypeId} {b o n:Nat} {cs vs:List Value} {E:TypeId} {fz:Nat × Nat} {y:Value} (h:fn.results = #[.cell t T,.tmp u]) (hT:Ty P T true n) (hp:sget sl t = some (.pointer (some ⟨b,o,none⟩))) (ht:Take hs (SL.blk b (.cells cs.toArray E fz)) hs') (hv:cellsAt cs o n = vs) (hl:vs.length = n) (hy:sget sl u = some y):Ends P fn c sl hs (.tuple #[.agg vs.toArray,y]):=
  endsL (xs:=[.cell t T,.tmp u]) (vs:=[.agg vs.toArray,y]) h (RVs.cons (RV.cell hp (loadsN (Ats.blk ht hv) hl)) (RVs.cons (RV.tmp hy) RVs.nil)) (by simp)
variable {dst:Option Tmp} {ty:TypeId} {pos:String} {af:Array Edge} {g:Option (Nat × Bool)}
theorem rk_sliceLitN {t e:TypeId} {agg:Bool} {n size:Nat} {z:Value} {xs:List (Nat × Operand)} {ps:List (Nat × Value)} {zs cs:List Value} {places:List (Nat × Nat)} [hu:Und P t (.slice e)] [hT:Ty P e agg size] [hZ:Zer P e z] (hp:Parts sl xs ps)
    (hn:Nat.ble (n * size) 1000 = true) (hpos:Nat.blt 0 (n * size) = true) (hpl:(List.range n).map (fun i=>(i * size,size)) = places) (hzs:(List.range (n * size)).map (fun i=>z.cells[i % z.cells.size]!) = zs) (hf:fillL places zs ps = some cs) :
    RunN P c sl hs ⟨dst,.buildSlice t n xs.toArray,ty,pos,af,g⟩ (fun b=>.slice (some ⟨b,0,none⟩) n n) (.cells cs.toArray e):=
  rk_buildSlice (ps:=ps.toArray) (fun a ha=>by have:=hp.map ha;rw [List.map_toArray,this]) (fun w=>by
    have hn':n * size ≤ 1000:=by simpa using hn
    have hp':0 < n * size:=by simpa [Nat.blt_eq] using hpos
    unfold Instr.buildSlice
    simp only [Sem.run_bind,rk_underlying hu.eq,Result.andThen_ok,rk_sizeOf (t:=e) (agg:=agg) (n:=size)]
    rw [if_neg (by omega),if_neg (by omega)]
    simp only [Sem.run_bind,rk_zeroValue (t:=e) (v:=z),Result.andThen_ok,Sem.run_pure]
    have h1:(Array.range (n * size)).map (fun i=>z.cells[i % z.cells.size]!) = zs.toArray:=by
      rw [← hzs];apply Array.ext';simp
    have h2:=fill_eq (places:=places) (f:=fun i=>if i < n then some (i * size,size) else none) (fun i x hx=>by
      subst hpl
      simp only [List.getElem?_map,Option.map_eq_some_iff] at hx
      obtain ⟨k,hk,rfl⟩:=hx
      obtain ⟨hlt,hk⟩:=List.getElem?_eq_some_iff.1 hk
      simp only [List.getElem_range] at hk;subst hk
      simp only [List.length_range] at hlt
      simp [hlt]) ps zs cs hf
    have h3:Instr.fill (fun i=>some (i * size,size)) zs.toArray ps = some cs.toArray:=by
      have key:∀ (l:List (Nat × Value)) (cc:Array Value) (r:Array Value),Instr.fill (fun i=>if i < n then some (i * size,size) else none) cc l = some r → Instr.fill (fun i=>some (i * size,size)) cc l = some r:=by
        intro l
        induction l with
        | nil=>intro cc r h;exact h
        | cons x l ih =>
          obtain ⟨i,v⟩:=x
          intro cc r h
          simp only [Instr.fill] at h ⊢
          by_cases hi:i < n
          · rw [if_pos hi] at h
            simp only at h
            split at h
            · cases h
            · rename_i hc
              rw [if_neg hc]
              exact ih _ _ h
          · rw [if_neg hi] at h;cases h
      exact key ps zs.toArray cs.toArray h2
    rw [h1,h3]
    simp [newRow])
theorem tr_rowSl {D:List Nat} {X:Act → World → Prop} {E:TypeId} {sz n:Nat} {v:Value} {xs:List Value} (ht:Take hs (row E sz v n xs) hs') (k:∀ a cap,v = .slice a n cap → Tr c D sl hs X):Tr c D sl hs X:=fun a w hst=>by
  obtain ⟨_,fp,_,⟨f1,f2,_,h1,_⟩,_⟩:=hst.mem'.take ht
  obtain ⟨_,_,⟨rfl,rfl⟩ | ⟨g,cap,cur,rfl,_⟩⟩:=h1
  · exact k _ _ rfl a w hst
  · exact k _ _ rfl a w hst
end
end Go.SL
namespace Go.SL
open Go
def NP (Q:Exit → Act → World → Prop):Exit → Act → World → Prop
  | .panic _=>fun _ _=>False
  | e=>Q e
theorem Oper.wpIn_mono2 {F:Fence} {n:Nat} {P:Program} {o:Oper} {a:Act} {w:World} {K K':Act → World → Prop} {Q Q':Exit → Act → World → Prop} (h:∀ a w,K a w → K' a w) (hq:∀ c a w,Q (.panic c) a w → Q' (.panic c) a w) (hl:LetsOut Q → LetsOut Q')
    (hh:o.wpIn F n P a w K Q):o.wpIn F n P a w K' Q':=by
  unfold Oper.wpIn at *
  refine ⟨hh.1,?_⟩
  have hh:=hh.2
  generalize (o.semAt F.round a.eval).run P w = r at *
  cases r with
  | ok x w' =>
    cases x <;> simp only [Oper.uponIn] at hh ⊢ <;>
      first
        | exact h _ _ hh
        | exact ⟨hh.1,CallsIn.mono hh.2 (fun e w'' he=>by cases e <;> first | exact h _ _ he | exact hq _ _ _ he | exact hl he | exact he)⟩
        | exact ⟨hh.1,RowsIn.mono hh.2 (fun _ _ he=>h _ _ he)⟩
        | exact ⟨hh.1,RoundIn.mono hh.2 (fun e w'' he=>by cases e <;> first | exact h _ _ he | exact hq _ _ _ he | exact hl he | exact he)⟩
  | halt x w'=>cases x <;> simp only [Oper.uponIn] at hh ⊢ <;> first | exact hh | exact hq _ _ _ hh
section
variable {P:Program} {r:Option Nat} {c:Cx} {D:List Nat} {sl:Slots} {hs hs':List Asn} {Q:Exit → Act → World → Prop} {ops:Array Oper} {fuel i:Nat} {listed:Array Bool}
def Left (P:Program) (ops:Array Oper) (Q:Exit → Act → World → Prop) (fuel:Nat) (listed:Array Bool):Act → World → Prop:=wpAnyIn (FR none) 0 P .any ops (NP Q) fuel listed
theorem tr_left {id:Nat} {l:List Oper} (n:Nat) [hmix:Mix P] (hn:l.length = n) (k:Tr c D sl hs (Left P l.toArray Q n (Array.replicate n false))):Tr c D sl hs (WP P none (.region id l.toArray true) Q):=fun a w hst=>by
  subst hn
  have h:(Code.region id l.toArray true).wpIn (FR none) 0 P (NP Q) a w:=wpIn_region_any hmix.eq (by
    have:=k a w.drew (hst.heap hst.mem.drew)
    simpa [Left] using this)
  exact wpIn_mono h fun e a' w' h=>by
    cases e with
    | panic c=>exact h.elim
    | _=>exact h
theorem left_take (i:Nat) {d:Nat} {op:Op} {ty:TypeId} {pos:String} {af:Array Edge} {V:Value} (hi:ops[i]? = some ⟨some d,op,ty,pos,af,none⟩) (hs1:Region.noSelect ops = true) (hf:Region.free .any ops listed i = true) (hr:(Region.ready .any ops listed).contains i = true)
    (hab:∀ (w:World) (ρ:Operand → Value),Oper.about P w ρ ⟨some d,op,ty,pos,af,none⟩ = none) (hv:∀ w,RunV P ⟨w,[],0⟩ sl [] ⟨some d,op,ty,pos,af,none⟩ V) (hd:Nat.blt d c.nt = true)
    (k:Tr c D ((d,V) :: sl) hs (Left P ops Q fuel (listed.setIfInBounds i true))):Tr c D sl hs (Left P ops Q (fuel + 1) listed):=fun a w hst=>by
  refine wpAnyIn_take (oi:=⟨some d,op,ty,pos,af,none⟩) rfl hi hs1 hf hr (fun c a w h=>h) (v:=V) ⟨.inl ⟨by simp [Region.wanted],fun w'=>?_⟩,fun w'=>hab w' _⟩ (k _ _ (hst.put (by simpa [Nat.blt_eq] using hd) V))
  exact (hv w').2 a w' hst.slots ⟨.refl _ _,[],List.nodup_nil,rfl,by simp⟩
def Next (P:Program) (c:Cx) (D:List Nat) (sl:Slots) (hs:List Asn) (ops:Array Oper) (Q:Exit → Act → World → Prop) (fuel:Nat) (listed:Array Bool) (i:Nat):Prop:=
  ∀ a w,St c D sl hs a w → wpOpIn (FR none) 0 P ops (NP Q) i (Left P ops Q fuel (listed.setIfInBounds i true)) a w
theorem left_ready {rs:List Nat} (hr:Region.ready .any ops listed = rs) (hne:rs ≠ []) (h:∀ i ∈ rs,Next P c D sl hs ops Q fuel listed i):Tr c D sl hs (Left P ops Q (fuel + 1) listed):=fun a w hst=>
  wpAnyIn_all hr hne fun i hi=>h i hi a w hst
theorem next_step {d:Option Tmp} {op:Op} {ty:TypeId} {pos:String} {af:Array Edge} {g:Option (Nat × Bool)} (hi:ops[i]? = some ⟨d,op,ty,pos,af,g⟩) (h:Tr c D sl hs (WL P none ops (Exit.then (Left P ops Q fuel (listed.setIfInBounds i true)) (NP Q)) [⟨d,op,ty,pos,af,g⟩])):Next P c D sl hs ops Q fuel listed i:=fun a w hst=>by
  have h1:=h a w hst
  unfold wpOpIn
  simp only [hi]
  unfold WL at h1
  split
  · rename_i hw
    rw [if_pos hw] at h1
    exact Oper.wpIn_mono2 (fun a w h=>h) (fun c a w h=>h) (fun h=>h) h1
  · rename_i hw
    rw [if_neg hw] at h1
    exact ⟨fun _ _=>trivial,h1⟩
theorem left_done (hr:Region.ready .any ops listed = []) (k:Tr c D sl hs (Q .normal)):Tr c D sl hs (Left P ops Q fuel listed):=fun a w hst=>
  wpAnyIn_done (Q:=NP Q) hr (k a w hst) fuel
variable {dst:Option Tmp} {ty:TypeId} {pos:String} {af:Array Edge} {g:Option (Nat × Bool)}
theorem rk_eqNil {t u e:TypeId} {x y:Operand} {a:Option Addr} {n cp n' cp':Nat} [hu:Und P t (.slice e)] (hx:Is sl x (.slice a n cp)) (hy:Is sl y (.slice none n' cp')):RunV P c sl hs ⟨dst,.binOp .eql t x y u,ty,pos,af,g⟩ (.bool a.isNone):=
  rk_bin hx hy fun w=>by
    have h1:(eqGuard .eql t x y (.slice a n cp) (.slice none n' cp')).run P w = .ok () w:=by simp [eqGuard]
    rw [Sem.run_bind,h1,Result.andThen_ok]
    exact Go.Lib.run_eql_slice_nil w t e a n cp n' cp' hu.eq
end
end Go.SL
