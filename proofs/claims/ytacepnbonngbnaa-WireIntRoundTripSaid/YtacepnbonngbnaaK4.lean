/- A part of the proofs: a verified symbolic execution of Go's code, and what each function of the program computes; no conditions of its own. -/
import Derived.Test.YtacepnbonngbnaaProg
import Derived.Test.YtacepnbonngbnaaK3

set_option linter.unusedVariables false
namespace Go.Proofs.Ytacepnbonngbnaa
open Go Go.AI Go.Proofs

/-! ### quietus/quietuslaw01.few: function 11 -/
def a11 : Ann := ⟨[], [], [(0, [2]), (1, [6, 7]), (2, [0]), (4, [11, 12, 13]), (5, [5, 14, 15, 16, 17]), (6, [18]), (7, [3, 8, 9, 10, 11, 19, 20])], []⟩
def i11_0 : List IOper := [⟨(some 2), (.mov (.c (.c (.bool false)))), none⟩]
def i11_1 : List IOper := [⟨(some 6), (.mov (.t 0)), none⟩, ⟨(some 7), (.len (.t 6)), none⟩, ⟨(some 3), (.mov (.t 7)), none⟩]
def i11_2 : List IOper := [⟨(some 8), (.mov (.t 0)), none⟩, ⟨(some 9), (.len (.t 8)), none⟩, ⟨(some 10), (.mov (.c (.c (.int .i64 0)))), none⟩]
def i11_3 : List IOper := [⟨(some 11), (.bin .lss (.t 10) (.t 9)), none⟩]
def i11_4 : List IOper := [⟨(some 12), (.iaddr 1 (.t 8) (.t 10)), none⟩, ⟨(some 13), (.load none (.t 12)), none⟩, ⟨(some 5), (.mov (.t 13)), none⟩]
def i11_5 : List IOper := [⟨(some 14), (.mov (.t 3)), none⟩, ⟨(some 15), (.mov (.t 5)), none⟩, ⟨(some 16), (.slen (.t 15)), none⟩, ⟨(some 17), (.bin .add (.t 14) (.t 16)), none⟩, ⟨(some 3), (.mov (.t 17)), none⟩]
def i11_6 : List IOper := [⟨(some 18), (.bin .add (.t 10) (.c (.c (.int .i64 1)))), none⟩, ⟨(some 10), (.mov (.t 18)), none⟩]
def i11_7 : List IOper := [⟨(some 19), (.mov (.t 3)), none⟩, ⟨(some 20), (.bin .leq (.t 19) (.c (.c (.int .i64 2000)))), none⟩, ⟨(some 2), (.mov (.t 20)), none⟩]
def i11_L0 : IR := .seq (.region i11_3 []) (.seq (.cond (.t 11) .skip (.exit 0)) (.seq (.block 1 (.seq (.region i11_4 [11, 12, 13]) (.region i11_5 [5, 14, 15, 16, 17]))) (.region i11_6 [18])))
def i11_K0 : IR := .seq (.region i11_7 [3, 8, 9, 10, 11, 19, 20]) .ret
def i11 : IR := .seq (.region i11_0 [2]) (.seq (.region i11_1 [6, 7]) (.seq (.seq (.region i11_2 [0]) (.block 0 (.loop [] i11_L0))) i11_K0))
def rs11 : List RV := [(.t 2)]
theorem ok11 : cIR Try.prog a11 Try.f11.ntmps 0 (Try.f11.body.getD .skip) = some i11 := by kernel_rfl
theorem rok11 : cRes Try.prog Try.f11.results.toList = some rs11 := by kernel_rfl
theorem R11 {args : List AV} {H H' : List Blk} {r : AV} (hn : args.length ≤ 21) (hgo : i11.go Try.prog ⟨args0 0 args, H⟩ (Fin rs11 H r H')) : RunsTo Try.prog 11 args H r H' := runs_of (A := a11) Try.func11 (by kernel_rfl) (by decide +kernel) ok11 rok11 hn hgo

/-! ### quietus/quietuslaw01.sanity: function 12 -/
def a12 : Ann := ⟨[], [], [(0, [0]), (1, [24, 25, 26, 27, 28, 29]), (2, [4, 5, 30, 31, 32, 33, 34, 35]), (3, [7, 8, 36, 37, 38, 39, 40, 41]), (4, [42, 43, 44, 45, 46, 47]), (5, [48, 49, 50, 51, 52, 53]), (6, [54]), (7, [55, 56, 57, 58, 59, 60, 61, 62]), (8, [63, 64, 65, 66, 67, 68]), (9, [20, 21, 22, 69, 70, 71, 72, 73, 74, 75, 76, 77, 78, 79, 80, 81, 82, 83, 84, 85]), (10, [1, 2, 3, 6, 9, 10, 11, 12, 13, 14, 15, 16, 17, 18, 19, 23, 86, 87, 88, 89, 90, 91, 92, 93, 94, 95, 96, 97, 98, 99, 100, 101, 102, 103, 104, 105, 106, 107, 108, 109, 110, 111, 112, 113, 114, 115, 116, 117, 118, 119, 120, 121, 122, 123, 124, 125, 126, 127, 128, 129, 130, 131, 132, 133, 134, 135, 136, 137, 138, 139, 140, 141, 142, 143, 144, 145, 146, 147, 148, 149, 150, 151, 152, 153, 154, 155, 156, 157, 158, 159, 160, 161])], []⟩
def i12_0 : List IOper := [⟨(some 0), (.mov (.c (.c (.bool false)))), none⟩]
def i12_1 : List IOper := [⟨(some 25), (.bsl 5 1 3 [(.int .u8 0), (.int .u8 0), (.int .u8 0)] [(0, (1, (.c (.c (.int .u8 128))))), (1, (1, (.c (.c (.int .u8 1))))), (2, (1, (.c (.c (.int .u8 9)))))]), none⟩, ⟨(some 26), (.call (.c (.c (.fn 24 []))) [(.t 25)]), none⟩, ⟨(some 24), (.mov (.t 26)), none⟩, ⟨(some 27), (.extract (.t 24) 0), none⟩, ⟨(some 28), (.extract (.t 24) 1), none⟩, ⟨(some 29), (.extract (.t 24) 2), none⟩, ⟨(some 1), (.mov (.t 27)), none⟩, ⟨(some 2), (.mov (.t 28)), none⟩, ⟨(some 3), (.mov (.t 29)), none⟩]
def i12_2 : List IOper := [⟨(some 31), (.bsl 5 1 1 [(.int .u8 0)] [(0, (1, (.c (.c (.int .u8 128)))))]), none⟩, ⟨(some 32), (.call (.c (.c (.fn 24 []))) [(.t 31)]), none⟩, ⟨(some 30), (.mov (.t 32)), none⟩, ⟨(some 33), (.extract (.t 30) 0), none⟩, ⟨(some 34), (.extract (.t 30) 1), none⟩, ⟨(some 35), (.extract (.t 30) 2), none⟩, ⟨(some 4), (.mov (.t 33)), none⟩, ⟨(some 5), (.mov (.t 34)), none⟩, ⟨(some 6), (.mov (.t 35)), none⟩]
def i12_3 : List IOper := [⟨(some 37), (.bsl 5 1 2 [(.int .u8 0), (.int .u8 0)] [(0, (1, (.c (.c (.int .u8 128))))), (1, (1, (.c (.c (.int .u8 0)))))]), none⟩, ⟨(some 38), (.call (.c (.c (.fn 24 []))) [(.t 37)]), none⟩, ⟨(some 36), (.mov (.t 38)), none⟩, ⟨(some 39), (.extract (.t 36) 0), none⟩, ⟨(some 40), (.extract (.t 36) 1), none⟩, ⟨(some 41), (.extract (.t 36) 2), none⟩, ⟨(some 7), (.mov (.t 39)), none⟩, ⟨(some 8), (.mov (.t 40)), none⟩, ⟨(some 9), (.mov (.t 41)), none⟩]
def i12_4 : List IOper := [⟨(some 43), (.bsl 5 1 4 [(.int .u8 0), (.int .u8 0), (.int .u8 0), (.int .u8 0)] [(0, (1, (.c (.c (.int .u8 4))))), (1, (1, (.c (.c (.int .u8 97))))), (2, (1, (.c (.c (.int .u8 98))))), (3, (1, (.c (.c (.int .u8 7)))))]), none⟩, ⟨(some 44), (.call (.c (.c (.fn 26 []))) [(.t 43)]), none⟩, ⟨(some 42), (.mov (.t 44)), none⟩, ⟨(some 45), (.extract (.t 42) 0), none⟩, ⟨(some 46), (.extract (.t 42) 1), none⟩, ⟨(some 47), (.extract (.t 42) 2), none⟩, ⟨(some 10), (.mov (.t 45)), none⟩, ⟨(some 11), (.mov (.t 46)), none⟩, ⟨(some 12), (.mov (.t 47)), none⟩]
def i12_5 : List IOper := [⟨(some 49), (.bsl 5 1 3 [(.int .u8 0), (.int .u8 0), (.int .u8 0)] [(0, (1, (.c (.c (.int .u8 4))))), (1, (1, (.c (.c (.int .u8 2))))), (2, (1, (.c (.c (.int .u8 1)))))]), none⟩, ⟨(some 50), (.call (.c (.c (.fn 28 []))) [(.t 49)]), none⟩, ⟨(some 48), (.mov (.t 50)), none⟩, ⟨(some 51), (.extract (.t 48) 0), none⟩, ⟨(some 52), (.extract (.t 48) 1), none⟩, ⟨(some 53), (.extract (.t 48) 2), none⟩, ⟨(some 13), (.mov (.t 51)), none⟩, ⟨(some 14), (.mov (.t 52)), none⟩, ⟨(some 15), (.mov (.t 53)), none⟩]
def i12_6 : List IOper := [⟨(some 54), (.build [(.int .u8 0), (.int .u8 0), (.int .u8 0), (.int .u8 0), (.int .u8 0), (.int .u8 0), (.int .u8 0), (.int .u8 0), (.int .u8 0), (.int .u8 0), (.int .u8 0), (.int .u8 0), (.int .u8 0), (.int .u8 0), (.int .u8 0), (.int .u8 0)] [(0, (1, (.c (.c (.int .u8 1))))), (1, (1, (.c (.c (.int .u8 2)))))]), none⟩, ⟨(some 16), (.alloc [(.int .u8 0), (.int .u8 0), (.int .u8 0), (.int .u8 0), (.int .u8 0), (.int .u8 0), (.int .u8 0), (.int .u8 0), (.int .u8 0), (.int .u8 0), (.int .u8 0), (.int .u8 0), (.int .u8 0), (.int .u8 0), (.int .u8 0), (.int .u8 0)]), none⟩, ⟨none, (.store 16 (.t 16) (.t 54)), none⟩]
def i12_7 : List IOper := [⟨(some 56), (.load (some 16) (.t 16)), none⟩, ⟨(some 57), (.bsl 57 16 1 [(.int .u8 0), (.int .u8 0), (.int .u8 0), (.int .u8 0), (.int .u8 0), (.int .u8 0), (.int .u8 0), (.int .u8 0), (.int .u8 0), (.int .u8 0), (.int .u8 0), (.int .u8 0), (.int .u8 0), (.int .u8 0), (.int .u8 0), (.int .u8 0)] [(0, (16, (.t 56)))]), none⟩, ⟨(some 58), (.call (.c (.c (.fn 22 []))) [(.t 57)]), none⟩, ⟨(some 59), (.call (.c (.c (.fn 34 []))) [(.t 58)]), none⟩, ⟨(some 55), (.mov (.t 59)), none⟩, ⟨(some 60), (.extract (.t 55) 0), none⟩, ⟨(some 61), (.extract (.t 55) 1), none⟩, ⟨(some 62), (.extract (.t 55) 2), none⟩, ⟨(some 17), (.mov (.t 60)), none⟩, ⟨(some 18), (.mov (.t 61)), none⟩, ⟨(some 19), (.mov (.t 62)), none⟩]
def i12_8 : List IOper := [⟨(some 64), (.bsl 5 1 5 [(.int .u8 0), (.int .u8 0), (.int .u8 0), (.int .u8 0), (.int .u8 0)] [(0, (1, (.c (.c (.int .u8 4))))), (1, (1, (.c (.c (.int .u8 0))))), (2, (1, (.c (.c (.int .u8 2))))), (3, (1, (.c (.c (.int .u8 97))))), (4, (1, (.c (.c (.int .u8 5)))))]), none⟩, ⟨(some 65), (.call (.c (.c (.fn 31 []))) [(.t 64)]), none⟩, ⟨(some 63), (.mov (.t 65)), none⟩, ⟨(some 66), (.extract (.t 63) 0), none⟩, ⟨(some 67), (.extract (.t 63) 1), none⟩, ⟨(some 68), (.extract (.t 63) 2), none⟩, ⟨(some 20), (.mov (.t 66)), none⟩, ⟨(some 21), (.mov (.t 67)), none⟩, ⟨(some 22), (.mov (.t 68)), none⟩]
def i12_9 : List IOper := [⟨(some 69), (.mov (.t 20)), none⟩, ⟨(some 70), (.bsl 9 1 2 [(.str ⟨⟨[]⟩⟩), (.str ⟨⟨[]⟩⟩)] [(0, (1, (.c (.c (.str ⟨⟨[]⟩⟩))))), (1, (1, (.c (.c (.str ⟨⟨[97]⟩⟩)))))]), none⟩, ⟨(some 71), (.call (.c (.c (.fn 33 []))) [(.t 69), (.t 70)]), none⟩, ⟨(some 72), (.mov (.t 71)), none⟩, ⟨(some 73), (.mov (.t 21)), (some (72, true))⟩, ⟨(some 74), (.bin .eql (.t 73) (.c (.c (.int .i64 4)))), (some (72, true))⟩, ⟨(some 75), (.pick (.t 72) (.t 74) (.c (.c (.bool false)))), none⟩, ⟨(some 76), (.mov (.t 75)), none⟩, ⟨(some 77), (.mov (.t 22)), (some (76, true))⟩, ⟨(some 78), (.bin .eql (.t 77) (.c (.c (.int .i64 0)))), (some (76, true))⟩, ⟨(some 79), (.pick (.t 76) (.t 78) (.c (.c (.bool false)))), none⟩, ⟨(some 80), (.mov (.t 79)), none⟩, ⟨(some 81), (.bsl 9 1 2 [(.str ⟨⟨[]⟩⟩), (.str ⟨⟨[]⟩⟩)] [(0, (1, (.c (.c (.str ⟨⟨[]⟩⟩))))), (1, (1, (.c (.c (.str ⟨⟨[97]⟩⟩)))))]), (some (80, true))⟩, ⟨(some 82), (.call (.c (.c (.fn 20 []))) [(.t 81)]), (some (80, true))⟩, ⟨(some 83), (.bsl 5 1 4 [(.int .u8 0), (.int .u8 0), (.int .u8 0), (.int .u8 0)] [(0, (1, (.c (.c (.int .u8 4))))), (1, (1, (.c (.c (.int .u8 0))))), (2, (1, (.c (.c (.int .u8 2))))), (3, (1, (.c (.c (.int .u8 97)))))]), (some (80, true))⟩, ⟨(some 84), (.call (.c (.c (.fn 13 []))) [(.t 82), (.t 83)]), (some (80, true))⟩, ⟨(some 85), (.pick (.t 80) (.t 84) (.c (.c (.bool false)))), none⟩, ⟨(some 23), (.mov (.t 85)), none⟩]
def i12_10 : List IOper := [⟨(some 86), (.mov (.t 23)), none⟩, ⟨(some 87), (.mov (.t 86)), none⟩, ⟨(some 88), (.call (.c (.c (.fn 14 []))) [(.c (.c (.int .i64 (-65))))]), (some (87, true))⟩, ⟨(some 89), (.bsl 5 1 2 [(.int .u8 0), (.int .u8 0)] [(0, (1, (.c (.c (.int .u8 129))))), (1, (1, (.c (.c (.int .u8 1)))))]), (some (87, true))⟩, ⟨(some 90), (.call (.c (.c (.fn 13 []))) [(.t 88), (.t 89)]), (some (87, true))⟩, ⟨(some 91), (.pick (.t 87) (.t 90) (.c (.c (.bool false)))), none⟩, ⟨(some 92), (.mov (.t 91)), none⟩, ⟨(some 93), (.mov (.t 1)), (some (92, true))⟩, ⟨(some 94), (.bin .eql (.t 93) (.c (.c (.int .i64 64)))), (some (92, true))⟩, ⟨(some 95), (.pick (.t 92) (.t 94) (.c (.c (.bool false)))), none⟩, ⟨(some 96), (.mov (.t 95)), none⟩, ⟨(some 97), (.mov (.t 2)), (some (96, true))⟩, ⟨(some 98), (.bin .eql (.t 97) (.c (.c (.int .i64 2)))), (some (96, true))⟩, ⟨(some 99), (.pick (.t 96) (.t 98) (.c (.c (.bool false)))), none⟩, ⟨(some 100), (.mov (.t 99)), none⟩, ⟨(some 101), (.mov (.t 3)), (some (100, true))⟩, ⟨(some 102), (.bin .eql (.t 101) (.c (.c (.int .i64 0)))), (some (100, true))⟩, ⟨(some 103), (.pick (.t 100) (.t 102) (.c (.c (.bool false)))), none⟩, ⟨(some 104), (.mov (.t 103)), none⟩, ⟨(some 105), (.mov (.t 6)), (some (104, true))⟩, ⟨(some 106), (.bin .eql (.t 105) (.c (.c (.int .i64 10)))), (some (104, true))⟩, ⟨(some 107), (.pick (.t 104) (.t 106) (.c (.c (.bool false)))), none⟩, ⟨(some 108), (.mov (.t 107)), none⟩, ⟨(some 109), (.mov (.t 9)), (some (108, true))⟩, ⟨(some 110), (.bin .eql (.t 109) (.c (.c (.int .i64 11)))), (some (108, true))⟩, ⟨(some 111), (.pick (.t 108) (.t 110) (.c (.c (.bool false)))), none⟩, ⟨(some 112), (.mov (.t 111)), none⟩, ⟨(some 113), (.mov (.t 10)), (some (112, true))⟩, ⟨(some 114), (.bin .eql (.t 113) (.c (.c (.str ⟨⟨[97, 98]⟩⟩)))), (some (112, true))⟩, ⟨(some 115), (.pick (.t 112) (.t 114) (.c (.c (.bool false)))), none⟩, ⟨(some 116), (.mov (.t 115)), none⟩, ⟨(some 117), (.mov (.t 11)), (some (116, true))⟩, ⟨(some 118), (.bin .eql (.t 117) (.c (.c (.int .i64 3)))), (some (116, true))⟩, ⟨(some 119), (.pick (.t 116) (.t 118) (.c (.c (.bool false)))), none⟩, ⟨(some 120), (.mov (.t 119)), none⟩, ⟨(some 121), (.mov (.t 12)), (some (120, true))⟩, ⟨(some 122), (.bin .eql (.t 121) (.c (.c (.int .i64 0)))), (some (120, true))⟩, ⟨(some 123), (.pick (.t 120) (.t 122) (.c (.c (.bool false)))), none⟩, ⟨(some 124), (.mov (.t 123)), none⟩, ⟨(some 125), (.mov (.t 13)), (some (124, true))⟩, ⟨(some 126), (.bsl 3 1 2 [(.int .i64 0), (.int .i64 0)] [(0, (1, (.c (.c (.int .i64 1))))), (1, (1, (.c (.c (.int .i64 (-1))))))]), (some (124, true))⟩, ⟨(some 127), (.call (.c (.c (.fn 30 []))) [(.t 125), (.t 126)]), (some (124, true))⟩, ⟨(some 128), (.pick (.t 124) (.t 127) (.c (.c (.bool false)))), none⟩, ⟨(some 129), (.mov (.t 128)), none⟩, ⟨(some 130), (.mov (.t 14)), (some (129, true))⟩, ⟨(some 131), (.bin .eql (.t 130) (.c (.c (.int .i64 3)))), (some (129, true))⟩, ⟨(some 132), (.pick (.t 129) (.t 131) (.c (.c (.bool false)))), none⟩, ⟨(some 133), (.mov (.t 132)), none⟩, ⟨(some 134), (.mov (.t 15)), (some (133, true))⟩, ⟨(some 135), (.bin .eql (.t 134) (.c (.c (.int .i64 0)))), (some (133, true))⟩, ⟨(some 136), (.pick (.t 133) (.t 135) (.c (.c (.bool false)))), none⟩, ⟨(some 137), (.mov (.t 136)), none⟩, ⟨(some 138), (.call (.c (.c (.fn 16 []))) [(.c (.c (.str ⟨⟨[97, 98]⟩⟩)))]), (some (137, true))⟩, ⟨(some 139), (.bsl 5 1 3 [(.int .u8 0), (.int .u8 0), (.int .u8 0)] [(0, (1, (.c (.c (.int .u8 4))))), (1, (1, (.c (.c (.int .u8 97))))), (2, (1, (.c (.c (.int .u8 98)))))]), (some (137, true))⟩, ⟨(some 140), (.call (.c (.c (.fn 13 []))) [(.t 138), (.t 139)]), (some (137, true))⟩, ⟨(some 141), (.pick (.t 137) (.t 140) (.c (.c (.bool false)))), none⟩, ⟨(some 142), (.mov (.t 141)), none⟩, ⟨(some 143), (.bsl 3 1 2 [(.int .i64 0), (.int .i64 0)] [(0, (1, (.c (.c (.int .i64 1))))), (1, (1, (.c (.c (.int .i64 (-1))))))]), (some (142, true))⟩, ⟨(some 144), (.call (.c (.c (.fn 18 []))) [(.t 143)]), (some (142, true))⟩, ⟨(some 145), (.bsl 5 1 3 [(.int .u8 0), (.int .u8 0), (.int .u8 0)] [(0, (1, (.c (.c (.int .u8 4))))), (1, (1, (.c (.c (.int .u8 2))))), (2, (1, (.c (.c (.int .u8 1)))))]), (some (142, true))⟩, ⟨(some 146), (.call (.c (.c (.fn 13 []))) [(.t 144), (.t 145)]), (some (142, true))⟩, ⟨(some 147), (.pick (.t 142) (.t 146) (.c (.c (.bool false)))), none⟩, ⟨(some 148), (.mov (.t 147)), none⟩, ⟨(some 149), (.mov (.t 17)), (some (148, true))⟩, ⟨(some 150), (.load (some 16) (.t 16)), (some (148, true))⟩, ⟨(some 151), (.bsl 57 16 1 [(.int .u8 0), (.int .u8 0), (.int .u8 0), (.int .u8 0), (.int .u8 0), (.int .u8 0), (.int .u8 0), (.int .u8 0), (.int .u8 0), (.int .u8 0), (.int .u8 0), (.int .u8 0), (.int .u8 0), (.int .u8 0), (.int .u8 0), (.int .u8 0)] [(0, (16, (.t 150)))]), (some (148, true))⟩, ⟨(some 152), (.call (.c (.c (.fn 36 []))) [(.t 149), (.t 151)]), (some (148, true))⟩, ⟨(some 153), (.pick (.t 148) (.t 152) (.c (.c (.bool false)))), none⟩, ⟨(some 154), (.mov (.t 153)), none⟩, ⟨(some 155), (.mov (.t 18)), (some (154, true))⟩, ⟨(some 156), (.bin .eql (.t 155) (.c (.c (.int .i64 17)))), (some (154, true))⟩, ⟨(some 157), (.pick (.t 154) (.t 156) (.c (.c (.bool false)))), none⟩, ⟨(some 158), (.mov (.t 157)), none⟩, ⟨(some 159), (.mov (.t 19)), (some (158, true))⟩, ⟨(some 160), (.bin .eql (.t 159) (.c (.c (.int .i64 0)))), (some (158, true))⟩, ⟨(some 161), (.pick (.t 158) (.t 160) (.c (.c (.bool false)))), none⟩, ⟨(some 0), (.mov (.t 161)), none⟩]
def i12 : IR := .seq (.region i12_0 [0]) (.seq (.region i12_1 [24, 25, 26, 27, 28, 29]) (.seq (.region i12_2 [4, 5, 30, 31, 32, 33, 34, 35]) (.seq (.region i12_3 [7, 8, 36, 37, 38, 39, 40, 41]) (.seq (.region i12_4 [42, 43, 44, 45, 46, 47]) (.seq (.region i12_5 [48, 49, 50, 51, 52, 53]) (.seq (.region i12_6 [54]) (.seq (.region i12_7 [55, 56, 57, 58, 59, 60, 61, 62]) (.seq (.region i12_8 [63, 64, 65, 66, 67, 68]) (.seq (.region i12_9 [20, 21, 22, 69, 70, 71, 72, 73, 74, 75, 76, 77, 78, 79, 80, 81, 82, 83, 84, 85]) (.seq (.region i12_10 [1, 2, 3, 6, 9, 10, 11, 12, 13, 14, 15, 16, 17, 18, 19, 23, 86, 87, 88, 89, 90, 91, 92, 93, 94, 95, 96, 97, 98, 99, 100, 101, 102, 103, 104, 105, 106, 107, 108, 109, 110, 111, 112, 113, 114, 115, 116, 117, 118, 119, 120, 121, 122, 123, 124, 125, 126, 127, 128, 129, 130, 131, 132, 133, 134, 135, 136, 137, 138, 139, 140, 141, 142, 143, 144, 145, 146, 147, 148, 149, 150, 151, 152, 153, 154, 155, 156, 157, 158, 159, 160, 161]) .ret))))))))))
def rs12 : List RV := [(.t 0)]
theorem ok12 : cIR Try.prog a12 Try.f12.ntmps 0 (Try.f12.body.getD .skip) = some i12 := by kernel_rfl
theorem rok12 : cRes Try.prog Try.f12.results.toList = some rs12 := by kernel_rfl
theorem R12 {args : List AV} {H H' : List Blk} {r : AV} (hn : args.length ≤ 162) (hgo : i12.go Try.prog ⟨args0 0 args, H⟩ (Fin rs12 H r H')) : RunsTo Try.prog 12 args H r H' := runs_of (A := a12) Try.func12 (by kernel_rfl) (by decide +kernel) ok12 rok12 hn hgo

/-! ### quietus/quietusref01.Same: function 13 -/
def a13 : Ann := ⟨[], [], [(0, [4]), (1, [0, 1, 5, 6, 7, 8, 9])], []⟩
def i13_0 : List IOper := [⟨(some 4), (.mov (.c (.c (.bool false)))), none⟩]
def i13_1 : List IOper := [⟨(some 5), (.mov (.t 0)), none⟩, ⟨(some 6), (.b2s (.t 5)), none⟩, ⟨(some 7), (.mov (.t 1)), none⟩, ⟨(some 8), (.b2s (.t 7)), none⟩, ⟨(some 9), (.bin .eql (.t 6) (.t 8)), none⟩, ⟨(some 4), (.mov (.t 9)), none⟩]
def i13 : IR := .seq (.region i13_0 [4]) (.seq (.region i13_1 [0, 1, 5, 6, 7, 8, 9]) .ret)
def rs13 : List RV := [(.t 4)]
theorem ok13 : cIR Try.prog a13 Try.f13.ntmps 0 (Try.f13.body.getD .skip) = some i13 := by kernel_rfl
theorem rok13 : cRes Try.prog Try.f13.results.toList = some rs13 := by kernel_rfl
theorem R13 {args : List AV} {H H' : List Blk} {r : AV} (hn : args.length ≤ 10) (hgo : i13.go Try.prog ⟨args0 0 args, H⟩ (Fin rs13 H r H')) : RunsTo Try.prog 13 args H r H' := runs_of (A := a13) Try.func13 (by kernel_rfl) (by decide +kernel) ok13 rok13 hn hgo

/-! ### quietus/wire.Int: function 14 -/
def a14 : Ann := ⟨[2, 4, 16, 22], [], [(0, [2]), (1, [0, 5, 6, 7, 8, 9, 10, 11]), (3, [12]), (4, [14, 15]), (5, [13, 16, 17, 18, 19, 20, 21]), (6, [3, 4, 13, 22, 23, 24, 25, 26])], []⟩
def i14_0 : List IOper := [⟨(some 2), (.mov (.c (.c (.list 1 1 [])))), none⟩]
def i14_1 : List IOper := [⟨(some 5), (.mov (.t 0)), none⟩, ⟨(some 6), (.toInt .u64 (.t 5)), none⟩, ⟨(some 7), (.bin .shl (.t 6) (.c (.c (.int .u64 1)))), none⟩, ⟨(some 8), (.mov (.t 0)), none⟩, ⟨(some 9), (.bin .shr (.t 8) (.c (.c (.int .u64 63)))), none⟩, ⟨(some 10), (.toInt .u64 (.t 9)), none⟩, ⟨(some 11), (.bin .xor (.t 7) (.t 10)), none⟩, ⟨(some 3), (.mov (.t 11)), none⟩]
def i14_2 : List IOper := [⟨(some 4), (.mov (.c (.c (.list 1 1 [])))), none⟩]
def i14_3 : List IOper := [⟨(some 12), (.mov (.t 3)), none⟩, ⟨(some 13), (.bin .gtr (.t 12) (.c (.c (.int .u64 127)))), none⟩]
def i14_4 : List IOper := [⟨(some 16), (.movT 4), none⟩, ⟨(some 17), (.mov (.t 3)), none⟩, ⟨(some 18), (.toInt .u8 (.t 17)), none⟩, ⟨(some 19), (.bin .or (.t 18) (.c (.c (.int .u8 128)))), none⟩, ⟨(some 20), (.bsl 5 1 1 [(.int .u8 0)] [(0, (1, (.t 19)))]), none⟩, ⟨(some 21), (.append 5 1 1 (.t 16) (.t 20)), none⟩, ⟨(some 4), (.movT 21), none⟩]
def i14_5 : List IOper := [⟨(some 14), (.mov (.t 3)), none⟩, ⟨(some 15), (.bin .shr (.t 14) (.c (.c (.int .u64 7)))), none⟩, ⟨(some 3), (.mov (.t 15)), none⟩]
def i14_6 : List IOper := [⟨(some 22), (.movT 4), none⟩, ⟨(some 23), (.mov (.t 3)), none⟩, ⟨(some 24), (.toInt .u8 (.t 23)), none⟩, ⟨(some 25), (.bsl 5 1 1 [(.int .u8 0)] [(0, (1, (.t 24)))]), none⟩, ⟨(some 26), (.append 5 1 1 (.t 22) (.t 25)), none⟩, ⟨(some 2), (.movT 26), none⟩]
def i14_L0 : IR := .seq (.seq (.region i14_3 [12]) (.cond (.t 13) .skip (.exit 0))) (.seq (.block 1 (.region i14_4 [13, 16, 17, 18, 19, 20, 21])) (.region i14_5 [14, 15]))
def i14_K0 : IR := .seq (.region i14_6 [3, 4, 13, 22, 23, 24, 25, 26]) .ret
def i14 : IR := .seq (.region i14_0 [2]) (.seq (.region i14_1 [0, 5, 6, 7, 8, 9, 10, 11]) (.seq (.region i14_2 []) (.seq (.block 0 (.loop [] i14_L0)) i14_K0)))
def rs14 : List RV := [(.t 2)]
theorem ok14 : cIR Try.prog a14 Try.f14.ntmps 0 (Try.f14.body.getD .skip) = some i14 := by kernel_rfl
theorem rok14 : cRes Try.prog Try.f14.results.toList = some rs14 := by kernel_rfl
theorem R14 {args : List AV} {H H' : List Blk} {r : AV} (hn : args.length ≤ 27) (hgo : i14.go Try.prog ⟨args0 0 args, H⟩ (Fin rs14 H r H')) : RunsTo Try.prog 14 args H r H' := runs_of (A := a14) Try.func14 (by kernel_rfl) (by decide +kernel) ok14 rok14 hn hgo

/-! ### quietus/quietusref01.Int: function 15 -/
def a15 : Ann := ⟨[2, 4, 17, 26], [], [(0, [2]), (1, [5, 6, 7]), (2, [8]), (3, [0, 9, 10, 11, 12, 13, 14]), (4, [0, 9]), (5, [15]), (6, [16, 17, 18, 19, 20, 21, 22, 23]), (7, [24, 25]), (8, [3, 4, 16, 26, 27, 28, 29, 30])], []⟩
def i15_0 : List IOper := [⟨(some 2), (.mov (.c (.c (.list 1 1 [])))), none⟩]
def i15_1 : List IOper := [⟨(some 5), (.mov (.t 0)), none⟩, ⟨(some 6), (.toInt .u64 (.t 5)), none⟩, ⟨(some 7), (.bin .mul (.t 6) (.c (.c (.int .u64 2)))), none⟩, ⟨(some 3), (.mov (.t 7)), none⟩]
def i15_2 : List IOper := [⟨(some 8), (.mov (.t 0)), none⟩, ⟨(some 9), (.bin .lss (.t 8) (.c (.c (.int .i64 0)))), none⟩]
def i15_3 : List IOper := [⟨(some 10), (.mov (.t 0)), none⟩, ⟨(some 11), (.bin .sub (.c (.c (.int .i64 (-1)))) (.t 10)), none⟩, ⟨(some 12), (.toInt .u64 (.t 11)), none⟩, ⟨(some 13), (.bin .mul (.t 12) (.c (.c (.int .u64 2)))), none⟩, ⟨(some 14), (.bin .add (.t 13) (.c (.c (.int .u64 1)))), none⟩, ⟨(some 3), (.mov (.t 14)), none⟩]
def i15_4 : List IOper := [⟨(some 4), (.mov (.c (.c (.list 1 1 [])))), none⟩]
def i15_5 : List IOper := [⟨(some 15), (.mov (.t 3)), none⟩, ⟨(some 16), (.bin .geq (.t 15) (.c (.c (.int .u64 128)))), none⟩]
def i15_6 : List IOper := [⟨(some 17), (.movT 4), none⟩, ⟨(some 18), (.mov (.t 3)), none⟩, ⟨(some 19), (.bin .rem (.t 18) (.c (.c (.int .u64 128)))), none⟩, ⟨(some 20), (.toInt .u8 (.t 19)), none⟩, ⟨(some 21), (.bin .add (.t 20) (.c (.c (.int .u8 128)))), none⟩, ⟨(some 22), (.bsl 5 1 1 [(.int .u8 0)] [(0, (1, (.t 21)))]), none⟩, ⟨(some 23), (.append 5 1 1 (.t 17) (.t 22)), none⟩, ⟨(some 4), (.movT 23), none⟩]
def i15_7 : List IOper := [⟨(some 24), (.mov (.t 3)), none⟩, ⟨(some 25), (.bin .quo (.t 24) (.c (.c (.int .u64 128)))), none⟩, ⟨(some 3), (.mov (.t 25)), none⟩]
def i15_8 : List IOper := [⟨(some 26), (.movT 4), none⟩, ⟨(some 27), (.mov (.t 3)), none⟩, ⟨(some 28), (.toInt .u8 (.t 27)), none⟩, ⟨(some 29), (.bsl 5 1 1 [(.int .u8 0)] [(0, (1, (.t 28)))]), none⟩, ⟨(some 30), (.append 5 1 1 (.t 26) (.t 29)), none⟩, ⟨(some 2), (.movT 30), none⟩]
def i15_L0 : IR := .seq (.seq (.region i15_5 [15]) (.cond (.t 16) .skip (.exit 0))) (.block 1 (.seq (.region i15_6 [16, 17, 18, 19, 20, 21, 22, 23]) (.region i15_7 [24, 25])))
def i15_K0 : IR := .seq (.region i15_8 [3, 4, 16, 26, 27, 28, 29, 30]) .ret
def i15 : IR := .seq (.region i15_0 [2]) (.seq (.region i15_1 [5, 6, 7]) (.seq (.seq (.region i15_2 [8]) (.cond (.t 9) (.region i15_3 [0, 9, 10, 11, 12, 13, 14]) .skip)) (.seq (.region i15_4 [0, 9]) (.seq (.block 0 (.loop [] i15_L0)) i15_K0))))
def rs15 : List RV := [(.t 2)]
theorem ok15 : cIR Try.prog a15 Try.f15.ntmps 0 (Try.f15.body.getD .skip) = some i15 := by kernel_rfl
theorem rok15 : cRes Try.prog Try.f15.results.toList = some rs15 := by kernel_rfl
theorem R15 {args : List AV} {H H' : List Blk} {r : AV} (hn : args.length ≤ 31) (hgo : i15.go Try.prog ⟨args0 0 args, H⟩ (Fin rs15 H r H')) : RunsTo Try.prog 15 args H r H' := runs_of (A := a15) Try.func15 (by kernel_rfl) (by decide +kernel) ok15 rok15 hn hgo

/-! ### quietus/wire.Bytes: function 16 -/
def a16 : Ann := ⟨[2], [], [(0, [2]), (1, [0, 3, 4, 5, 6, 7])], []⟩
def i16_0 : List IOper := [⟨(some 2), (.mov (.c (.c (.list 1 1 [])))), none⟩]
def i16_1 : List IOper := [⟨(some 3), (.mov (.t 0)), none⟩, ⟨(some 4), (.slen (.t 3)), none⟩, ⟨(some 5), (.call (.c (.c (.fn 14 []))) [(.t 4)]), none⟩, ⟨(some 6), (.mov (.t 0)), none⟩, ⟨(some 7), (.append 5 1 1 (.t 5) (.t 6)), none⟩, ⟨(some 2), (.movT 7), none⟩]
def i16 : IR := .seq (.region i16_0 [2]) (.seq (.region i16_1 [0, 3, 4, 5, 6, 7]) .ret)
def rs16 : List RV := [(.t 2)]
theorem ok16 : cIR Try.prog a16 Try.f16.ntmps 0 (Try.f16.body.getD .skip) = some i16 := by kernel_rfl
theorem rok16 : cRes Try.prog Try.f16.results.toList = some rs16 := by kernel_rfl
theorem R16 {args : List AV} {H H' : List Blk} {r : AV} (hn : args.length ≤ 8) (hgo : i16.go Try.prog ⟨args0 0 args, H⟩ (Fin rs16 H r H')) : RunsTo Try.prog 16 args H r H' := runs_of (A := a16) Try.func16 (by kernel_rfl) (by decide +kernel) ok16 rok16 hn hgo

/-! ### quietus/quietusref01.Bytes: function 17 -/
def a17 : Ann := ⟨[2], [], [(0, [2]), (1, [0, 3, 4, 5, 6, 7])], []⟩
def i17_0 : List IOper := [⟨(some 2), (.mov (.c (.c (.list 1 1 [])))), none⟩]
def i17_1 : List IOper := [⟨(some 3), (.mov (.t 0)), none⟩, ⟨(some 4), (.slen (.t 3)), none⟩, ⟨(some 5), (.call (.c (.c (.fn 15 []))) [(.t 4)]), none⟩, ⟨(some 6), (.mov (.t 0)), none⟩, ⟨(some 7), (.append 5 1 1 (.t 5) (.t 6)), none⟩, ⟨(some 2), (.movT 7), none⟩]
def i17 : IR := .seq (.region i17_0 [2]) (.seq (.region i17_1 [0, 3, 4, 5, 6, 7]) .ret)
def rs17 : List RV := [(.t 2)]
theorem ok17 : cIR Try.prog a17 Try.f17.ntmps 0 (Try.f17.body.getD .skip) = some i17 := by kernel_rfl
theorem rok17 : cRes Try.prog Try.f17.results.toList = some rs17 := by kernel_rfl
theorem R17 {args : List AV} {H H' : List Blk} {r : AV} (hn : args.length ≤ 8) (hgo : i17.go Try.prog ⟨args0 0 args, H⟩ (Fin rs17 H r H')) : RunsTo Try.prog 17 args H r H' := runs_of (A := a17) Try.func17 (by kernel_rfl) (by decide +kernel) ok17 rok17 hn hgo

/-! ### quietus/wire.Ints: function 18 -/
def a18 : Ann := ⟨[2], [], [(0, [2]), (1, [0, 3, 4])], []⟩
def i18_0 : List IOper := [⟨(some 2), (.mov (.c (.c (.list 1 1 [])))), none⟩]
def i18_1 : List IOper := [⟨(some 3), (.mov (.t 0)), none⟩, ⟨(some 4), (.call (.c (.c (.fn 38 []))) [(.t 3), (.c (.c (.fn 14 [])))]), none⟩, ⟨(some 2), (.movT 4), none⟩]
def i18 : IR := .seq (.region i18_0 [2]) (.seq (.region i18_1 [0, 3, 4]) .ret)
def rs18 : List RV := [(.t 2)]
theorem ok18 : cIR Try.prog a18 Try.f18.ntmps 0 (Try.f18.body.getD .skip) = some i18 := by kernel_rfl
theorem rok18 : cRes Try.prog Try.f18.results.toList = some rs18 := by kernel_rfl
theorem R18 {args : List AV} {H H' : List Blk} {r : AV} (hn : args.length ≤ 5) (hgo : i18.go Try.prog ⟨args0 0 args, H⟩ (Fin rs18 H r H')) : RunsTo Try.prog 18 args H r H' := runs_of (A := a18) Try.func18 (by kernel_rfl) (by decide +kernel) ok18 rok18 hn hgo

/-! ### quietus/quietusref01.Ints: function 19 -/
def a19 : Ann := ⟨[2, 3, 14, 21], [], [(0, [2]), (1, [5, 6, 7]), (3, [8, 9, 10]), (4, [12, 13]), (5, [11, 14, 15, 16, 17, 18, 19, 20]), (6, [0, 3, 4, 11, 21])], []⟩
def i19_0 : List IOper := [⟨(some 2), (.mov (.c (.c (.list 1 1 [])))), none⟩]
def i19_1 : List IOper := [⟨(some 5), (.mov (.t 0)), none⟩, ⟨(some 6), (.len (.t 5)), none⟩, ⟨(some 7), (.call (.c (.c (.fn 15 []))) [(.t 6)]), none⟩, ⟨(some 3), (.movT 7), none⟩]
def i19_2 : List IOper := [⟨(some 4), (.mov (.c (.c (.int .i64 0)))), none⟩]
def i19_3 : List IOper := [⟨(some 8), (.mov (.t 4)), none⟩, ⟨(some 9), (.mov (.t 0)), none⟩, ⟨(some 10), (.len (.t 9)), none⟩, ⟨(some 11), (.bin .lss (.t 8) (.t 10)), none⟩]
def i19_4 : List IOper := [⟨(some 14), (.movT 3), none⟩, ⟨(some 15), (.mov (.t 0)), none⟩, ⟨(some 16), (.mov (.t 4)), none⟩, ⟨(some 17), (.iaddr 1 (.t 15) (.t 16)), none⟩, ⟨(some 18), (.load none (.t 17)), none⟩, ⟨(some 19), (.call (.c (.c (.fn 15 []))) [(.t 18)]), none⟩, ⟨(some 20), (.append 5 1 1 (.t 14) (.t 19)), none⟩, ⟨(some 3), (.movT 20), none⟩]
def i19_5 : List IOper := [⟨(some 12), (.mov (.t 4)), none⟩, ⟨(some 13), (.bin .add (.t 12) (.c (.c (.int .i64 1)))), none⟩, ⟨(some 4), (.mov (.t 13)), none⟩]
def i19_6 : List IOper := [⟨(some 21), (.movT 3), none⟩, ⟨(some 2), (.movT 21), none⟩]
def i19_L0 : IR := .seq (.seq (.region i19_3 [8, 9, 10]) (.cond (.t 11) .skip (.exit 0))) (.seq (.block 1 (.region i19_4 [11, 14, 15, 16, 17, 18, 19, 20])) (.region i19_5 [12, 13]))
def i19_K0 : IR := .seq (.region i19_6 [0, 3, 4, 11, 21]) .ret
def i19 : IR := .seq (.region i19_0 [2]) (.seq (.region i19_1 [5, 6, 7]) (.seq (.seq (.region i19_2 []) (.block 0 (.loop [] i19_L0))) i19_K0))
def rs19 : List RV := [(.t 2)]
theorem ok19 : cIR Try.prog a19 Try.f19.ntmps 0 (Try.f19.body.getD .skip) = some i19 := by kernel_rfl
theorem rok19 : cRes Try.prog Try.f19.results.toList = some rs19 := by kernel_rfl
theorem R19 {args : List AV} {H H' : List Blk} {r : AV} (hn : args.length ≤ 22) (hgo : i19.go Try.prog ⟨args0 0 args, H⟩ (Fin rs19 H r H')) : RunsTo Try.prog 19 args H r H' := runs_of (A := a19) Try.func19 (by kernel_rfl) (by decide +kernel) ok19 rok19 hn hgo

/-! ### quietus/wire.Strings: function 20 -/
def a20 : Ann := ⟨[2], [], [(0, [2]), (1, [0, 3, 4])], []⟩
def i20_0 : List IOper := [⟨(some 2), (.mov (.c (.c (.list 1 1 [])))), none⟩]
def i20_1 : List IOper := [⟨(some 3), (.mov (.t 0)), none⟩, ⟨(some 4), (.call (.c (.c (.fn 39 []))) [(.t 3), (.c (.c (.fn 16 [])))]), none⟩, ⟨(some 2), (.movT 4), none⟩]
def i20 : IR := .seq (.region i20_0 [2]) (.seq (.region i20_1 [0, 3, 4]) .ret)
def rs20 : List RV := [(.t 2)]
theorem ok20 : cIR Try.prog a20 Try.f20.ntmps 0 (Try.f20.body.getD .skip) = some i20 := by kernel_rfl
theorem rok20 : cRes Try.prog Try.f20.results.toList = some rs20 := by kernel_rfl
theorem R20 {args : List AV} {H H' : List Blk} {r : AV} (hn : args.length ≤ 5) (hgo : i20.go Try.prog ⟨args0 0 args, H⟩ (Fin rs20 H r H')) : RunsTo Try.prog 20 args H r H' := runs_of (A := a20) Try.func20 (by kernel_rfl) (by decide +kernel) ok20 rok20 hn hgo

/-! ### quietus/quietusref01.Strings: function 21 -/
def a21 : Ann := ⟨[2, 3, 14, 21], [], [(0, [2]), (1, [5, 6, 7]), (3, [8, 9, 10]), (4, [12, 13]), (5, [11, 14, 15, 16, 17, 18, 19, 20]), (6, [0, 3, 4, 11, 21])], []⟩
def i21_0 : List IOper := [⟨(some 2), (.mov (.c (.c (.list 1 1 [])))), none⟩]
def i21_1 : List IOper := [⟨(some 5), (.mov (.t 0)), none⟩, ⟨(some 6), (.len (.t 5)), none⟩, ⟨(some 7), (.call (.c (.c (.fn 15 []))) [(.t 6)]), none⟩, ⟨(some 3), (.movT 7), none⟩]
def i21_2 : List IOper := [⟨(some 4), (.mov (.c (.c (.int .i64 0)))), none⟩]
def i21_3 : List IOper := [⟨(some 8), (.mov (.t 4)), none⟩, ⟨(some 9), (.mov (.t 0)), none⟩, ⟨(some 10), (.len (.t 9)), none⟩, ⟨(some 11), (.bin .lss (.t 8) (.t 10)), none⟩]
def i21_4 : List IOper := [⟨(some 14), (.movT 3), none⟩, ⟨(some 15), (.mov (.t 0)), none⟩, ⟨(some 16), (.mov (.t 4)), none⟩, ⟨(some 17), (.iaddr 1 (.t 15) (.t 16)), none⟩, ⟨(some 18), (.load none (.t 17)), none⟩, ⟨(some 19), (.call (.c (.c (.fn 17 []))) [(.t 18)]), none⟩, ⟨(some 20), (.append 5 1 1 (.t 14) (.t 19)), none⟩, ⟨(some 3), (.movT 20), none⟩]
def i21_5 : List IOper := [⟨(some 12), (.mov (.t 4)), none⟩, ⟨(some 13), (.bin .add (.t 12) (.c (.c (.int .i64 1)))), none⟩, ⟨(some 4), (.mov (.t 13)), none⟩]
def i21_6 : List IOper := [⟨(some 21), (.movT 3), none⟩, ⟨(some 2), (.movT 21), none⟩]
def i21_L0 : IR := .seq (.seq (.region i21_3 [8, 9, 10]) (.cond (.t 11) .skip (.exit 0))) (.seq (.block 1 (.region i21_4 [11, 14, 15, 16, 17, 18, 19, 20])) (.region i21_5 [12, 13]))
def i21_K0 : IR := .seq (.region i21_6 [0, 3, 4, 11, 21]) .ret
def i21 : IR := .seq (.region i21_0 [2]) (.seq (.region i21_1 [5, 6, 7]) (.seq (.seq (.region i21_2 []) (.block 0 (.loop [] i21_L0))) i21_K0))
def rs21 : List RV := [(.t 2)]
theorem ok21 : cIR Try.prog a21 Try.f21.ntmps 0 (Try.f21.body.getD .skip) = some i21 := by kernel_rfl
theorem rok21 : cRes Try.prog Try.f21.results.toList = some rs21 := by kernel_rfl
theorem R21 {args : List AV} {H H' : List Blk} {r : AV} (hn : args.length ≤ 22) (hgo : i21.go Try.prog ⟨args0 0 args, H⟩ (Fin rs21 H r H')) : RunsTo Try.prog 21 args H r H' := runs_of (A := a21) Try.func21 (by kernel_rfl) (by decide +kernel) ok21 rok21 hn hgo

/-! ### quietus/wire.Digests: function 22 -/
def a22 : Ann := ⟨[2], [], [(0, [2]), (1, [0, 3, 4])], []⟩
def i22_0 : List IOper := [⟨(some 2), (.mov (.c (.c (.list 1 1 [])))), none⟩]
def i22_1 : List IOper := [⟨(some 3), (.mov (.t 0)), none⟩, ⟨(some 4), (.call (.c (.c (.fn 40 []))) [(.t 3), (.c (.c (.fn 41 [])))]), none⟩, ⟨(some 2), (.movT 4), none⟩]
def i22 : IR := .seq (.region i22_0 [2]) (.seq (.region i22_1 [0, 3, 4]) .ret)
def rs22 : List RV := [(.t 2)]
theorem ok22 : cIR Try.prog a22 Try.f22.ntmps 0 (Try.f22.body.getD .skip) = some i22 := by kernel_rfl
theorem rok22 : cRes Try.prog Try.f22.results.toList = some rs22 := by kernel_rfl
theorem R22 {args : List AV} {H H' : List Blk} {r : AV} (hn : args.length ≤ 5) (hgo : i22.go Try.prog ⟨args0 0 args, H⟩ (Fin rs22 H r H')) : RunsTo Try.prog 22 args H r H' := runs_of (A := a22) Try.func22 (by kernel_rfl) (by decide +kernel) ok22 rok22 hn hgo

/-! ### quietus/quietusref01.Digests: function 23 -/
def a23 : Ann := ⟨[2, 3, 14, 20], [], [(0, [2]), (1, [5, 6, 7]), (3, [8, 9, 10]), (4, [12, 13]), (5, [11, 14, 15, 16, 17, 18, 19]), (6, [0, 3, 4, 11, 20])], []⟩
def i23_0 : List IOper := [⟨(some 2), (.mov (.c (.c (.list 1 1 [])))), none⟩]
def i23_1 : List IOper := [⟨(some 5), (.mov (.t 0)), none⟩, ⟨(some 6), (.len (.t 5)), none⟩, ⟨(some 7), (.call (.c (.c (.fn 15 []))) [(.t 6)]), none⟩, ⟨(some 3), (.movT 7), none⟩]
def i23_2 : List IOper := [⟨(some 4), (.mov (.c (.c (.int .i64 0)))), none⟩]
def i23_3 : List IOper := [⟨(some 8), (.mov (.t 4)), none⟩, ⟨(some 9), (.mov (.t 0)), none⟩, ⟨(some 10), (.len (.t 9)), none⟩, ⟨(some 11), (.bin .lss (.t 8) (.t 10)), none⟩]
def i23_4 : List IOper := [⟨(some 14), (.movT 3), none⟩, ⟨(some 15), (.mov (.t 0)), none⟩, ⟨(some 16), (.mov (.t 4)), none⟩, ⟨(some 17), (.iaddr 16 (.t 15) (.t 16)), none⟩, ⟨(some 18), (.asl 16 1 (.t 17)), none⟩, ⟨(some 19), (.append 5 1 1 (.t 14) (.t 18)), none⟩, ⟨(some 3), (.movT 19), none⟩]
def i23_5 : List IOper := [⟨(some 12), (.mov (.t 4)), none⟩, ⟨(some 13), (.bin .add (.t 12) (.c (.c (.int .i64 1)))), none⟩, ⟨(some 4), (.mov (.t 13)), none⟩]
def i23_6 : List IOper := [⟨(some 20), (.movT 3), none⟩, ⟨(some 2), (.movT 20), none⟩]
def i23_L0 : IR := .seq (.seq (.region i23_3 [8, 9, 10]) (.cond (.t 11) .skip (.exit 0))) (.seq (.block 1 (.region i23_4 [11, 14, 15, 16, 17, 18, 19])) (.region i23_5 [12, 13]))
def i23_K0 : IR := .seq (.region i23_6 [0, 3, 4, 11, 20]) .ret
def i23 : IR := .seq (.region i23_0 [2]) (.seq (.region i23_1 [5, 6, 7]) (.seq (.seq (.region i23_2 []) (.block 0 (.loop [] i23_L0))) i23_K0))
def rs23 : List RV := [(.t 2)]
theorem ok23 : cIR Try.prog a23 Try.f23.ntmps 0 (Try.f23.body.getD .skip) = some i23 := by kernel_rfl
theorem rok23 : cRes Try.prog Try.f23.results.toList = some rs23 := by kernel_rfl
theorem R23 {args : List AV} {H H' : List Blk} {r : AV} (hn : args.length ≤ 21) (hgo : i23.go Try.prog ⟨args0 0 args, H⟩ (Fin rs23 H r H')) : RunsTo Try.prog 23 args H r H' := runs_of (A := a23) Try.func23 (by kernel_rfl) (by decide +kernel) ok23 rok23 hn hgo

/-! ### quietus/wire.GetInt: function 24 -/
def a24 : Ann := ⟨[], [], [(0, [2, 3, 4]), (3, [0]), (5, [12, 13, 14, 15]), (6, [16, 17, 18, 19, 20, 21, 22, 23, 24]), (7, [25, 26, 27, 28, 29, 30]), (8, [31, 32, 33, 34, 35, 36]), (9, [5, 6, 7, 8, 9, 10, 11, 24]), (10, [8, 37]), (11, [7, 9, 10, 11, 38, 39, 40]), (12, [7, 38, 41]), (13, [9, 10, 11, 12, 42]), (14, [5, 6, 43]), (15, [5, 6, 43, 44, 45, 46, 47, 48, 49, 50, 51, 52])], []⟩
def i24_0 : List IOper := [⟨(some 2), (.mov (.c (.c (.int .i64 0)))), none⟩, ⟨(some 3), (.mov (.c (.c (.int .i64 0)))), none⟩, ⟨(some 4), (.mov (.c (.c (.int .i64 0)))), none⟩]
def i24_1 : List IOper := [⟨(some 5), (.mov (.c (.c (.int .u64 0)))), none⟩]
def i24_2 : List IOper := [⟨(some 6), (.mov (.c (.c (.int .i64 0)))), none⟩]
def i24_3 : List IOper := [⟨(some 9), (.mov (.t 0)), none⟩, ⟨(some 10), (.len (.t 9)), none⟩, ⟨(some 11), (.mov (.c (.c (.int .i64 0)))), none⟩]
def i24_4 : List IOper := [⟨(some 12), (.bin .lss (.t 11) (.t 10)), none⟩]
def i24_5 : List IOper := [⟨(some 13), (.mov (.t 11)), none⟩, ⟨(some 14), (.iaddr 1 (.t 9) (.t 11)), none⟩, ⟨(some 15), (.load none (.t 14)), none⟩, ⟨(some 7), (.mov (.t 13)), none⟩, ⟨(some 8), (.mov (.t 15)), none⟩]
def i24_6 : List IOper := [⟨(some 25), (.mov (.t 7)), none⟩, ⟨(some 26), (.bin .eql (.t 25) (.c (.c (.int .i64 9)))), none⟩, ⟨(some 27), (.mov (.t 26)), none⟩, ⟨(some 28), (.mov (.t 8)), (some (27, true))⟩, ⟨(some 29), (.bin .gtr (.t 28) (.c (.c (.int .u8 1)))), (some (27, true))⟩, ⟨(some 30), (.pick (.t 27) (.t 29) (.c (.c (.bool false)))), none⟩, ⟨(some 24), (.mov (.t 30)), none⟩]
def i24_7 : List IOper := [⟨(some 31), (.mov (.t 7)), none⟩, ⟨(some 32), (.bin .gtr (.t 31) (.c (.c (.int .i64 0)))), none⟩, ⟨(some 33), (.mov (.t 32)), none⟩, ⟨(some 34), (.mov (.t 8)), (some (33, true))⟩, ⟨(some 35), (.bin .eql (.t 34) (.c (.c (.int .u8 0)))), (some (33, true))⟩, ⟨(some 36), (.pick (.t 33) (.t 35) (.c (.c (.bool false)))), none⟩, ⟨(some 24), (.mov (.t 36)), none⟩]
def i24_8 : List IOper := [⟨(some 2), (.mov (.c (.c (.int .i64 0)))), none⟩, ⟨(some 3), (.mov (.c (.c (.int .i64 0)))), none⟩, ⟨(some 4), (.mov (.c (.c (.int .i64 11)))), none⟩]
def i24_9 : List IOper := [⟨(some 16), (.mov (.t 5)), none⟩, ⟨(some 17), (.mov (.t 8)), none⟩, ⟨(some 18), (.bin .and (.t 17) (.c (.c (.int .u8 127)))), none⟩, ⟨(some 19), (.toInt .u64 (.t 18)), none⟩, ⟨(some 20), (.mov (.t 7)), none⟩, ⟨(some 21), (.bin .mul (.c (.c (.int .i64 7))) (.t 20)), none⟩, ⟨(some 22), (.bin .shl (.t 19) (.t 21)), none⟩, ⟨(some 23), (.bin .or (.t 16) (.t 22)), none⟩, ⟨(some 5), (.mov (.t 23)), none⟩]
def i24_10 : List IOper := [⟨(some 37), (.mov (.t 8)), none⟩, ⟨(some 38), (.bin .lss (.t 37) (.c (.c (.int .u8 128)))), none⟩]
def i24_11 : List IOper := [⟨(some 39), (.mov (.t 7)), none⟩, ⟨(some 40), (.bin .add (.t 39) (.c (.c (.int .i64 1)))), none⟩, ⟨(some 6), (.mov (.t 40)), none⟩]
def i24_12 : List IOper := [⟨(some 41), (.bin .add (.t 11) (.c (.c (.int .i64 1)))), none⟩, ⟨(some 11), (.mov (.t 41)), none⟩]
def i24_13 : List IOper := [⟨(some 42), (.mov (.t 6)), none⟩, ⟨(some 43), (.bin .eql (.t 42) (.c (.c (.int .i64 0)))), none⟩]
def i24_14 : List IOper := [⟨(some 2), (.mov (.c (.c (.int .i64 0)))), none⟩, ⟨(some 3), (.mov (.c (.c (.int .i64 0)))), none⟩, ⟨(some 4), (.mov (.c (.c (.int .i64 10)))), none⟩]
def i24_15 : List IOper := [⟨(some 44), (.mov (.t 5)), none⟩, ⟨(some 45), (.bin .shr (.t 44) (.c (.c (.int .u64 1)))), none⟩, ⟨(some 46), (.toInt .i64 (.t 45)), none⟩, ⟨(some 47), (.mov (.t 5)), none⟩, ⟨(some 48), (.bin .and (.t 47) (.c (.c (.int .u64 1)))), none⟩, ⟨(some 49), (.toInt .i64 (.t 48)), none⟩, ⟨(some 50), (.neg (.t 49)), none⟩, ⟨(some 51), (.bin .xor (.t 46) (.t 50)), none⟩, ⟨(some 52), (.mov (.t 6)), none⟩, ⟨(some 2), (.mov (.t 51)), none⟩, ⟨(some 3), (.mov (.t 52)), none⟩, ⟨(some 4), (.mov (.c (.c (.int .i64 0)))), none⟩]
def i24_L0 : IR := .seq (.region i24_4 []) (.seq (.cond (.t 12) .skip (.exit 0)) (.seq (.block 1 (.seq (.region i24_5 [12, 13, 14, 15]) (.seq (.block 2 (.seq (.seq (.region i24_6 [25, 26, 27, 28, 29, 30]) (.cond (.t 24) .skip (.region i24_7 [31, 32, 33, 34, 35, 36]))) (.cond (.t 24) (.seq (.region i24_8 [5, 6, 7, 8, 9, 10, 11, 24]) .ret) (.region i24_9 [16, 17, 18, 19, 20, 21, 22, 23, 24])))) (.seq (.region i24_10 [8, 37]) (.cond (.t 38) (.seq (.region i24_11 [7, 9, 10, 11, 38, 39, 40]) (.exit 0)) .skip))))) (.region i24_12 [7, 38, 41])))
def i24_K0 : IR := .seq (.seq (.region i24_13 [9, 10, 11, 12, 42]) (.cond (.t 43) (.seq (.region i24_14 [5, 6, 43]) .ret) .skip)) (.seq (.region i24_15 [5, 6, 43, 44, 45, 46, 47, 48, 49, 50, 51, 52]) .ret)
def i24 : IR := .seq (.region i24_0 [2, 3, 4]) (.seq (.region i24_1 []) (.seq (.region i24_2 []) (.seq .skip (.seq (.seq (.region i24_3 [0]) (.block 0 (.loop [] i24_L0))) i24_K0))))
def rs24 : List RV := [(.t 2), (.t 3), (.t 4)]
theorem ok24 : cIR Try.prog a24 Try.f24.ntmps 0 (Try.f24.body.getD .skip) = some i24 := by kernel_rfl
theorem rok24 : cRes Try.prog Try.f24.results.toList = some rs24 := by kernel_rfl
theorem R24 {args : List AV} {H H' : List Blk} {r : AV} (hn : args.length ≤ 53) (hgo : i24.go Try.prog ⟨args0 0 args, H⟩ (Fin rs24 H r H')) : RunsTo Try.prog 24 args H r H' := runs_of (A := a24) Try.func24 (by kernel_rfl) (by decide +kernel) ok24 rok24 hn hgo

/-! ### quietus/quietusref01.GetInt: function 25 -/
def a25 : Ann := ⟨[], [], [(0, [2, 3, 4]), (2, [8, 9, 10, 11, 12, 13, 14, 15, 16, 17, 18, 19, 20, 21]), (3, [22, 23, 24]), (4, [22, 25]), (5, [0, 5, 26]), (6, [26, 27, 28, 29]), (7, [0, 5, 30]), (8, [30, 31, 32, 33, 34, 35, 36, 37, 38, 39, 40, 41, 42, 43, 44, 45, 46, 47, 48, 49]), (9, [0, 5, 50]), (10, [50]), (11, [51]), (12, [52]), (13, [54, 55]), (14, [53, 56, 57, 58, 59, 60, 61, 62, 63, 64]), (15, [0, 7, 53, 65, 66]), (16, [5, 6, 67, 68, 69, 70, 71, 72, 73]), (17, [5, 6, 67, 74, 75, 76, 77, 78])], []⟩
def i25_0 : List IOper := [⟨(some 2), (.mov (.c (.c (.int .i64 0)))), none⟩, ⟨(some 3), (.mov (.c (.c (.int .i64 0)))), none⟩, ⟨(some 4), (.mov (.c (.c (.int .i64 0)))), none⟩]
def i25_1 : List IOper := [⟨(some 5), (.mov (.c (.c (.int .i64 0)))), none⟩]
def i25_2 : List IOper := [⟨(some 8), (.mov (.t 5)), none⟩, ⟨(some 9), (.mov (.t 0)), none⟩, ⟨(some 10), (.len (.t 9)), none⟩, ⟨(some 11), (.bin .lss (.t 8) (.t 10)), none⟩, ⟨(some 12), (.mov (.t 11)), none⟩, ⟨(some 13), (.mov (.t 5)), (some (12, true))⟩, ⟨(some 14), (.bin .lss (.t 13) (.c (.c (.int .i64 10)))), (some (12, true))⟩, ⟨(some 15), (.pick (.t 12) (.t 14) (.c (.c (.bool false)))), none⟩, ⟨(some 16), (.mov (.t 15)), none⟩, ⟨(some 17), (.mov (.t 0)), (some (16, true))⟩, ⟨(some 18), (.mov (.t 5)), (some (16, true))⟩, ⟨(some 19), (.iaddr 1 (.t 17) (.t 18)), (some (16, true))⟩, ⟨(some 20), (.load none (.t 19)), (some (16, true))⟩, ⟨(some 21), (.bin .geq (.t 20) (.c (.c (.int .u8 128)))), (some (16, true))⟩, ⟨(some 22), (.pick (.t 16) (.t 21) (.c (.c (.bool false)))), none⟩]
def i25_3 : List IOper := [⟨(some 23), (.mov (.t 5)), none⟩, ⟨(some 24), (.bin .add (.t 23) (.c (.c (.int .i64 1)))), none⟩, ⟨(some 5), (.mov (.t 24)), none⟩]
def i25_4 : List IOper := [⟨(some 25), (.mov (.t 5)), none⟩, ⟨(some 26), (.bin .eql (.t 25) (.c (.c (.int .i64 10)))), none⟩]
def i25_5 : List IOper := [⟨(some 2), (.mov (.c (.c (.int .i64 0)))), none⟩, ⟨(some 3), (.mov (.c (.c (.int .i64 0)))), none⟩, ⟨(some 4), (.mov (.c (.c (.int .i64 11)))), none⟩]
def i25_6 : List IOper := [⟨(some 27), (.mov (.t 5)), none⟩, ⟨(some 28), (.mov (.t 0)), none⟩, ⟨(some 29), (.len (.t 28)), none⟩, ⟨(some 30), (.bin .eql (.t 27) (.t 29)), none⟩]
def i25_7 : List IOper := [⟨(some 2), (.mov (.c (.c (.int .i64 0)))), none⟩, ⟨(some 3), (.mov (.c (.c (.int .i64 0)))), none⟩, ⟨(some 4), (.mov (.c (.c (.int .i64 10)))), none⟩]
def i25_8 : List IOper := [⟨(some 31), (.mov (.t 5)), none⟩, ⟨(some 32), (.bin .eql (.t 31) (.c (.c (.int .i64 9)))), none⟩, ⟨(some 33), (.mov (.t 32)), none⟩, ⟨(some 34), (.mov (.t 0)), (some (33, true))⟩, ⟨(some 35), (.mov (.t 5)), (some (33, true))⟩, ⟨(some 36), (.iaddr 1 (.t 34) (.t 35)), (some (33, true))⟩, ⟨(some 37), (.load none (.t 36)), (some (33, true))⟩, ⟨(some 38), (.bin .gtr (.t 37) (.c (.c (.int .u8 1)))), (some (33, true))⟩, ⟨(some 39), (.pick (.t 33) (.t 38) (.c (.c (.bool false)))), none⟩, ⟨(some 40), (.mov (.t 39)), none⟩, ⟨(some 41), (.mov (.t 5)), (some (40, false))⟩, ⟨(some 42), (.bin .gtr (.t 41) (.c (.c (.int .i64 0)))), (some (40, false))⟩, ⟨(some 43), (.mov (.t 42)), (some (40, false))⟩, ⟨(some 44), (.mov (.t 0)), (some (43, true))⟩, ⟨(some 45), (.mov (.t 5)), (some (43, true))⟩, ⟨(some 46), (.iaddr 1 (.t 44) (.t 45)), (some (43, true))⟩, ⟨(some 47), (.load none (.t 46)), (some (43, true))⟩, ⟨(some 48), (.bin .eql (.t 47) (.c (.c (.int .u8 0)))), (some (43, true))⟩, ⟨(some 49), (.pick (.t 43) (.t 48) (.c (.c (.bool false)))), (some (40, false))⟩, ⟨(some 50), (.pick (.t 40) (.c (.c (.bool true))) (.t 49)), none⟩]
def i25_9 : List IOper := [⟨(some 2), (.mov (.c (.c (.int .i64 0)))), none⟩, ⟨(some 3), (.mov (.c (.c (.int .i64 0)))), none⟩, ⟨(some 4), (.mov (.c (.c (.int .i64 11)))), none⟩]
def i25_10 : List IOper := [⟨(some 6), (.mov (.c (.c (.int .u64 0)))), none⟩]
def i25_11 : List IOper := [⟨(some 51), (.mov (.t 5)), none⟩, ⟨(some 7), (.mov (.t 51)), none⟩]
def i25_12 : List IOper := [⟨(some 52), (.mov (.t 7)), none⟩, ⟨(some 53), (.bin .geq (.t 52) (.c (.c (.int .i64 0)))), none⟩]
def i25_13 : List IOper := [⟨(some 56), (.mov (.t 6)), none⟩, ⟨(some 57), (.bin .mul (.t 56) (.c (.c (.int .u64 128)))), none⟩, ⟨(some 58), (.mov (.t 0)), none⟩, ⟨(some 59), (.mov (.t 7)), none⟩, ⟨(some 60), (.iaddr 1 (.t 58) (.t 59)), none⟩, ⟨(some 61), (.load none (.t 60)), none⟩, ⟨(some 62), (.bin .rem (.t 61) (.c (.c (.int .u8 128)))), none⟩, ⟨(some 63), (.toInt .u64 (.t 62)), none⟩, ⟨(some 64), (.bin .add (.t 57) (.t 63)), none⟩, ⟨(some 6), (.mov (.t 64)), none⟩]
def i25_14 : List IOper := [⟨(some 54), (.mov (.t 7)), none⟩, ⟨(some 55), (.bin .sub (.t 54) (.c (.c (.int .i64 1)))), none⟩, ⟨(some 7), (.mov (.t 55)), none⟩]
def i25_15 : List IOper := [⟨(some 65), (.mov (.t 6)), none⟩, ⟨(some 66), (.bin .rem (.t 65) (.c (.c (.int .u64 2)))), none⟩, ⟨(some 67), (.bin .eql (.t 66) (.c (.c (.int .u64 1)))), none⟩]
def i25_16 : List IOper := [⟨(some 68), (.mov (.t 6)), none⟩, ⟨(some 69), (.bin .quo (.t 68) (.c (.c (.int .u64 2)))), none⟩, ⟨(some 70), (.toInt .i64 (.t 69)), none⟩, ⟨(some 71), (.bin .sub (.c (.c (.int .i64 (-1)))) (.t 70)), none⟩, ⟨(some 72), (.mov (.t 5)), none⟩, ⟨(some 73), (.bin .add (.t 72) (.c (.c (.int .i64 1)))), none⟩, ⟨(some 2), (.mov (.t 71)), none⟩, ⟨(some 3), (.mov (.t 73)), none⟩, ⟨(some 4), (.mov (.c (.c (.int .i64 0)))), none⟩]
def i25_17 : List IOper := [⟨(some 74), (.mov (.t 6)), none⟩, ⟨(some 75), (.bin .quo (.t 74) (.c (.c (.int .u64 2)))), none⟩, ⟨(some 76), (.toInt .i64 (.t 75)), none⟩, ⟨(some 77), (.mov (.t 5)), none⟩, ⟨(some 78), (.bin .add (.t 77) (.c (.c (.int .i64 1)))), none⟩, ⟨(some 2), (.mov (.t 76)), none⟩, ⟨(some 3), (.mov (.t 78)), none⟩, ⟨(some 4), (.mov (.c (.c (.int .i64 0)))), none⟩]
def i25_L0 : IR := .seq (.seq (.region i25_2 [8, 9, 10, 11, 12, 13, 14, 15, 16, 17, 18, 19, 20, 21]) (.cond (.t 22) .skip (.exit 0))) (.block 1 (.region i25_3 [22, 23, 24]))
def i25_L1 : IR := .seq (.seq (.region i25_12 [52]) (.cond (.t 53) .skip (.exit 2))) (.seq (.block 3 (.region i25_13 [53, 56, 57, 58, 59, 60, 61, 62, 63, 64])) (.region i25_14 [54, 55]))
def i25_K0 : IR := .seq (.seq (.region i25_15 [0, 7, 53, 65, 66]) (.cond (.t 67) (.seq (.region i25_16 [5, 6, 67, 68, 69, 70, 71, 72, 73]) .ret) .skip)) (.seq (.region i25_17 [5, 6, 67, 74, 75, 76, 77, 78]) .ret)
def i25_K1 : IR := .seq (.seq (.region i25_4 [22, 25]) (.cond (.t 26) (.seq (.region i25_5 [0, 5, 26]) .ret) .skip)) (.seq (.seq (.region i25_6 [26, 27, 28, 29]) (.cond (.t 30) (.seq (.region i25_7 [0, 5, 30]) .ret) .skip)) (.seq (.seq (.region i25_8 [30, 31, 32, 33, 34, 35, 36, 37, 38, 39, 40, 41, 42, 43, 44, 45, 46, 47, 48, 49]) (.cond (.t 50) (.seq (.region i25_9 [0, 5, 50]) .ret) .skip)) (.seq (.region i25_10 [50]) (.seq (.seq (.region i25_11 [51]) (.block 2 (.loop [] i25_L1))) i25_K0))))
def i25 : IR := .seq (.region i25_0 [2, 3, 4]) (.seq (.region i25_1 []) (.seq (.block 0 (.loop [] i25_L0)) i25_K1))
def rs25 : List RV := [(.t 2), (.t 3), (.t 4)]
theorem ok25 : cIR Try.prog a25 Try.f25.ntmps 0 (Try.f25.body.getD .skip) = some i25 := by kernel_rfl
theorem rok25 : cRes Try.prog Try.f25.results.toList = some rs25 := by kernel_rfl
theorem R25 {args : List AV} {H H' : List Blk} {r : AV} (hn : args.length ≤ 79) (hgo : i25.go Try.prog ⟨args0 0 args, H⟩ (Fin rs25 H r H')) : RunsTo Try.prog 25 args H r H' := runs_of (A := a25) Try.func25 (by kernel_rfl) (by decide +kernel) ok25 rok25 hn hgo

/-! ### quietus/wire.GetBytes: function 26 -/
def a26 : Ann := ⟨[], [], [(0, [2, 3, 4]), (1, [8, 9, 10, 11, 12, 13]), (2, [14]), (3, [0, 5, 6, 7, 15, 16]), (4, [0, 5, 6, 7, 15, 17, 18, 19, 20, 21, 22, 23, 24, 25, 26])], []⟩
def i26_0 : List IOper := [⟨(some 2), (.mov (.c (.c (.str ⟨⟨[]⟩⟩)))), none⟩, ⟨(some 3), (.mov (.c (.c (.int .i64 0)))), none⟩, ⟨(some 4), (.mov (.c (.c (.int .i64 0)))), none⟩]
def i26_1 : List IOper := [⟨(some 9), (.mov (.t 0)), none⟩, ⟨(some 10), (.call (.c (.c (.fn 42 []))) [(.t 9), (.c (.c (.int .i64 1)))]), none⟩, ⟨(some 8), (.mov (.t 10)), none⟩, ⟨(some 11), (.extract (.t 8) 0), none⟩, ⟨(some 12), (.extract (.t 8) 1), none⟩, ⟨(some 13), (.extract (.t 8) 2), none⟩, ⟨(some 5), (.mov (.t 11)), none⟩, ⟨(some 6), (.mov (.t 12)), none⟩, ⟨(some 7), (.mov (.t 13)), none⟩]
def i26_2 : List IOper := [⟨(some 14), (.mov (.t 7)), none⟩, ⟨(some 15), (.bin .neq (.t 14) (.c (.c (.int .i64 0)))), none⟩]
def i26_3 : List IOper := [⟨(some 16), (.mov (.t 7)), none⟩, ⟨(some 2), (.mov (.c (.c (.str ⟨⟨[]⟩⟩)))), none⟩, ⟨(some 3), (.mov (.c (.c (.int .i64 0)))), none⟩, ⟨(some 4), (.mov (.t 16)), none⟩]
def i26_4 : List IOper := [⟨(some 17), (.mov (.t 0)), none⟩, ⟨(some 18), (.mov (.t 6)), none⟩, ⟨(some 19), (.mov (.t 6)), none⟩, ⟨(some 20), (.mov (.t 5)), none⟩, ⟨(some 21), (.bin .add (.t 19) (.t 20)), none⟩, ⟨(some 22), (.slst 1 (.t 17) (some (.t 18)) (some (.t 21)) none), none⟩, ⟨(some 23), (.b2s (.t 22)), none⟩, ⟨(some 24), (.mov (.t 6)), none⟩, ⟨(some 25), (.mov (.t 5)), none⟩, ⟨(some 26), (.bin .add (.t 24) (.t 25)), none⟩, ⟨(some 2), (.mov (.t 23)), none⟩, ⟨(some 3), (.mov (.t 26)), none⟩, ⟨(some 4), (.mov (.c (.c (.int .i64 0)))), none⟩]
def i26 : IR := .seq (.region i26_0 [2, 3, 4]) (.seq (.region i26_1 [8, 9, 10, 11, 12, 13]) (.seq (.seq (.region i26_2 [14]) (.cond (.t 15) (.seq (.region i26_3 [0, 5, 6, 7, 15, 16]) .ret) .skip)) (.seq (.region i26_4 [0, 5, 6, 7, 15, 17, 18, 19, 20, 21, 22, 23, 24, 25, 26]) .ret)))
def rs26 : List RV := [(.t 2), (.t 3), (.t 4)]
theorem ok26 : cIR Try.prog a26 Try.f26.ntmps 0 (Try.f26.body.getD .skip) = some i26 := by kernel_rfl
theorem rok26 : cRes Try.prog Try.f26.results.toList = some rs26 := by kernel_rfl
theorem R26 {args : List AV} {H H' : List Blk} {r : AV} (hn : args.length ≤ 27) (hgo : i26.go Try.prog ⟨args0 0 args, H⟩ (Fin rs26 H r H')) : RunsTo Try.prog 26 args H r H' := runs_of (A := a26) Try.func26 (by kernel_rfl) (by decide +kernel) ok26 rok26 hn hgo

/-! ### quietus/quietusref01.GetBytes: function 27 -/
def a27 : Ann := ⟨[], [], [(0, [2, 3, 4]), (1, [8, 9, 10, 11, 12, 13]), (2, [14]), (3, [0, 5, 6, 7, 15, 16]), (4, [7, 15, 17]), (5, [0, 5, 6, 18]), (6, [18, 19, 20, 21, 22, 23]), (7, [0, 5, 6, 24]), (8, [0, 5, 6, 24, 25, 26, 27, 28, 29, 30, 31, 32, 33, 34])], []⟩
def i27_0 : List IOper := [⟨(some 2), (.mov (.c (.c (.str ⟨⟨[]⟩⟩)))), none⟩, ⟨(some 3), (.mov (.c (.c (.int .i64 0)))), none⟩, ⟨(some 4), (.mov (.c (.c (.int .i64 0)))), none⟩]
def i27_1 : List IOper := [⟨(some 9), (.mov (.t 0)), none⟩, ⟨(some 10), (.call (.c (.c (.fn 25 []))) [(.t 9)]), none⟩, ⟨(some 8), (.mov (.t 10)), none⟩, ⟨(some 11), (.extract (.t 8) 0), none⟩, ⟨(some 12), (.extract (.t 8) 1), none⟩, ⟨(some 13), (.extract (.t 8) 2), none⟩, ⟨(some 5), (.mov (.t 11)), none⟩, ⟨(some 6), (.mov (.t 12)), none⟩, ⟨(some 7), (.mov (.t 13)), none⟩]
def i27_2 : List IOper := [⟨(some 14), (.mov (.t 7)), none⟩, ⟨(some 15), (.bin .neq (.t 14) (.c (.c (.int .i64 0)))), none⟩]
def i27_3 : List IOper := [⟨(some 16), (.mov (.t 7)), none⟩, ⟨(some 2), (.mov (.c (.c (.str ⟨⟨[]⟩⟩)))), none⟩, ⟨(some 3), (.mov (.c (.c (.int .i64 0)))), none⟩, ⟨(some 4), (.mov (.t 16)), none⟩]
def i27_4 : List IOper := [⟨(some 17), (.mov (.t 5)), none⟩, ⟨(some 18), (.bin .lss (.t 17) (.c (.c (.int .i64 0)))), none⟩]
def i27_5 : List IOper := [⟨(some 2), (.mov (.c (.c (.str ⟨⟨[]⟩⟩)))), none⟩, ⟨(some 3), (.mov (.c (.c (.int .i64 0)))), none⟩, ⟨(some 4), (.mov (.c (.c (.int .i64 11)))), none⟩]
def i27_6 : List IOper := [⟨(some 19), (.mov (.t 5)), none⟩, ⟨(some 20), (.mov (.t 0)), none⟩, ⟨(some 21), (.len (.t 20)), none⟩, ⟨(some 22), (.mov (.t 6)), none⟩, ⟨(some 23), (.bin .sub (.t 21) (.t 22)), none⟩, ⟨(some 24), (.bin .gtr (.t 19) (.t 23)), none⟩]
def i27_7 : List IOper := [⟨(some 2), (.mov (.c (.c (.str ⟨⟨[]⟩⟩)))), none⟩, ⟨(some 3), (.mov (.c (.c (.int .i64 0)))), none⟩, ⟨(some 4), (.mov (.c (.c (.int .i64 10)))), none⟩]
def i27_8 : List IOper := [⟨(some 25), (.mov (.t 0)), none⟩, ⟨(some 26), (.mov (.t 6)), none⟩, ⟨(some 27), (.mov (.t 6)), none⟩, ⟨(some 28), (.mov (.t 5)), none⟩, ⟨(some 29), (.bin .add (.t 27) (.t 28)), none⟩, ⟨(some 30), (.slst 1 (.t 25) (some (.t 26)) (some (.t 29)) none), none⟩, ⟨(some 31), (.b2s (.t 30)), none⟩, ⟨(some 32), (.mov (.t 6)), none⟩, ⟨(some 33), (.mov (.t 5)), none⟩, ⟨(some 34), (.bin .add (.t 32) (.t 33)), none⟩, ⟨(some 2), (.mov (.t 31)), none⟩, ⟨(some 3), (.mov (.t 34)), none⟩, ⟨(some 4), (.mov (.c (.c (.int .i64 0)))), none⟩]
def i27 : IR := .seq (.region i27_0 [2, 3, 4]) (.seq (.region i27_1 [8, 9, 10, 11, 12, 13]) (.seq (.seq (.region i27_2 [14]) (.cond (.t 15) (.seq (.region i27_3 [0, 5, 6, 7, 15, 16]) .ret) .skip)) (.seq (.seq (.region i27_4 [7, 15, 17]) (.cond (.t 18) (.seq (.region i27_5 [0, 5, 6, 18]) .ret) .skip)) (.seq (.seq (.region i27_6 [18, 19, 20, 21, 22, 23]) (.cond (.t 24) (.seq (.region i27_7 [0, 5, 6, 24]) .ret) .skip)) (.seq (.region i27_8 [0, 5, 6, 24, 25, 26, 27, 28, 29, 30, 31, 32, 33, 34]) .ret)))))
def rs27 : List RV := [(.t 2), (.t 3), (.t 4)]
theorem ok27 : cIR Try.prog a27 Try.f27.ntmps 0 (Try.f27.body.getD .skip) = some i27 := by kernel_rfl
theorem rok27 : cRes Try.prog Try.f27.results.toList = some rs27 := by kernel_rfl
theorem R27 {args : List AV} {H H' : List Blk} {r : AV} (hn : args.length ≤ 35) (hgo : i27.go Try.prog ⟨args0 0 args, H⟩ (Fin rs27 H r H')) : RunsTo Try.prog 27 args H r H' := runs_of (A := a27) Try.func27 (by kernel_rfl) (by decide +kernel) ok27 rok27 hn hgo

/-! ### quietus/wire.GetInts: function 28 -/
def a28 : Ann := ⟨[], [], [(0, [2, 3, 4]), (1, [0, 5, 6, 7, 8, 9])], []⟩
def i28_0 : List IOper := [⟨(some 2), (.mov (.c (.c (.list 1 1 [])))), none⟩, ⟨(some 3), (.mov (.c (.c (.int .i64 0)))), none⟩, ⟨(some 4), (.mov (.c (.c (.int .i64 0)))), none⟩]
def i28_1 : List IOper := [⟨(some 5), (.mov (.t 0)), none⟩, ⟨(some 6), (.call (.c (.c (.fn 43 []))) [(.t 5), (.c (.c (.int .i64 1))), (.c (.c (.fn 24 [])))]), none⟩, ⟨(some 7), (.extract (.t 6) 0), none⟩, ⟨(some 8), (.extract (.t 6) 1), none⟩, ⟨(some 9), (.extract (.t 6) 2), none⟩, ⟨(some 2), (.mov (.t 7)), none⟩, ⟨(some 3), (.mov (.t 8)), none⟩, ⟨(some 4), (.mov (.t 9)), none⟩]
def i28 : IR := .seq (.region i28_0 [2, 3, 4]) (.seq (.region i28_1 [0, 5, 6, 7, 8, 9]) .ret)
def rs28 : List RV := [(.t 2), (.t 3), (.t 4)]
theorem ok28 : cIR Try.prog a28 Try.f28.ntmps 0 (Try.f28.body.getD .skip) = some i28 := by kernel_rfl
theorem rok28 : cRes Try.prog Try.f28.results.toList = some rs28 := by kernel_rfl
theorem R28 {args : List AV} {H H' : List Blk} {r : AV} (hn : args.length ≤ 10) (hgo : i28.go Try.prog ⟨args0 0 args, H⟩ (Fin rs28 H r H')) : RunsTo Try.prog 28 args H r H' := runs_of (A := a28) Try.func28 (by kernel_rfl) (by decide +kernel) ok28 rok28 hn hgo

/-! ### quietus/quietusref01.GetInts: function 29 -/
def a29 : Ann := ⟨[8, 38], [], [(0, [2, 3, 4]), (1, [13, 14, 15, 16, 17, 18]), (2, [19]), (3, [0, 5, 6, 7, 20, 21]), (4, [7, 20]), (6, [22, 23]), (7, [25, 26]), (8, [24, 27, 28, 29, 30, 31, 32, 33, 34]), (9, [35]), (10, [0, 5, 6, 8, 9, 10, 11, 12, 36, 37]), (11, [10, 12, 36, 38, 39, 40, 41]), (12, [11, 42, 43, 44]), (13, [0, 5, 6, 8, 9, 24, 45, 46])], []⟩
def i29_0 : List IOper := [⟨(some 2), (.mov (.c (.c (.list 1 1 [])))), none⟩, ⟨(some 3), (.mov (.c (.c (.int .i64 0)))), none⟩, ⟨(some 4), (.mov (.c (.c (.int .i64 0)))), none⟩]
def i29_1 : List IOper := [⟨(some 14), (.mov (.t 0)), none⟩, ⟨(some 15), (.call (.c (.c (.fn 44 []))) [(.t 14), (.c (.c (.int .i64 1)))]), none⟩, ⟨(some 13), (.mov (.t 15)), none⟩, ⟨(some 16), (.extract (.t 13) 0), none⟩, ⟨(some 17), (.extract (.t 13) 1), none⟩, ⟨(some 18), (.extract (.t 13) 2), none⟩, ⟨(some 5), (.mov (.t 16)), none⟩, ⟨(some 6), (.mov (.t 17)), none⟩, ⟨(some 7), (.mov (.t 18)), none⟩]
def i29_2 : List IOper := [⟨(some 19), (.mov (.t 7)), none⟩, ⟨(some 20), (.bin .neq (.t 19) (.c (.c (.int .i64 0)))), none⟩]
def i29_3 : List IOper := [⟨(some 21), (.mov (.t 7)), none⟩, ⟨(some 2), (.mov (.c (.c (.list 1 1 [])))), none⟩, ⟨(some 3), (.mov (.c (.c (.int .i64 0)))), none⟩, ⟨(some 4), (.mov (.t 21)), none⟩]
def i29_4 : List IOper := [⟨(some 8), (.mov (.c (.c (.list 1 1 [])))), none⟩]
def i29_5 : List IOper := [⟨(some 9), (.mov (.c (.c (.int .i64 0)))), none⟩]
def i29_6 : List IOper := [⟨(some 22), (.mov (.t 9)), none⟩, ⟨(some 23), (.mov (.t 5)), none⟩, ⟨(some 24), (.bin .lss (.t 22) (.t 23)), none⟩]
def i29_7 : List IOper := [⟨(some 28), (.mov (.t 0)), none⟩, ⟨(some 29), (.mov (.t 6)), none⟩, ⟨(some 30), (.slst 1 (.t 28) (some (.t 29)) none none), none⟩, ⟨(some 31), (.call (.c (.c (.fn 25 []))) [(.t 30)]), none⟩, ⟨(some 27), (.mov (.t 31)), none⟩, ⟨(some 32), (.extract (.t 27) 0), none⟩, ⟨(some 33), (.extract (.t 27) 1), none⟩, ⟨(some 34), (.extract (.t 27) 2), none⟩, ⟨(some 10), (.mov (.t 32)), none⟩, ⟨(some 11), (.mov (.t 33)), none⟩, ⟨(some 12), (.mov (.t 34)), none⟩]
def i29_8 : List IOper := [⟨(some 35), (.mov (.t 12)), none⟩, ⟨(some 36), (.bin .neq (.t 35) (.c (.c (.int .i64 0)))), none⟩]
def i29_9 : List IOper := [⟨(some 37), (.mov (.t 12)), none⟩, ⟨(some 2), (.mov (.c (.c (.list 1 1 [])))), none⟩, ⟨(some 3), (.mov (.c (.c (.int .i64 0)))), none⟩, ⟨(some 4), (.mov (.t 37)), none⟩]
def i29_10 : List IOper := [⟨(some 38), (.movT 8), none⟩, ⟨(some 39), (.mov (.t 10)), none⟩, ⟨(some 40), (.bsl 3 1 1 [(.int .i64 0)] [(0, (1, (.t 39)))]), none⟩, ⟨(some 41), (.append 3 1 8 (.t 38) (.t 40)), none⟩, ⟨(some 8), (.movT 41), none⟩]
def i29_11 : List IOper := [⟨(some 42), (.mov (.t 6)), none⟩, ⟨(some 43), (.mov (.t 11)), none⟩, ⟨(some 44), (.bin .add (.t 42) (.t 43)), none⟩, ⟨(some 6), (.mov (.t 44)), none⟩]
def i29_12 : List IOper := [⟨(some 25), (.mov (.t 9)), none⟩, ⟨(some 26), (.bin .add (.t 25) (.c (.c (.int .i64 1)))), none⟩, ⟨(some 9), (.mov (.t 26)), none⟩]
def i29_13 : List IOper := [⟨(some 45), (.mov (.t 8)), none⟩, ⟨(some 46), (.mov (.t 6)), none⟩, ⟨(some 2), (.mov (.t 45)), none⟩, ⟨(some 3), (.mov (.t 46)), none⟩, ⟨(some 4), (.mov (.c (.c (.int .i64 0)))), none⟩]
def i29_L0 : IR := .seq (.seq (.region i29_6 [22, 23]) (.cond (.t 24) .skip (.exit 0))) (.seq (.block 1 (.seq (.region i29_7 [24, 27, 28, 29, 30, 31, 32, 33, 34]) (.seq (.seq (.region i29_8 [35]) (.cond (.t 36) (.seq (.region i29_9 [0, 5, 6, 8, 9, 10, 11, 12, 36, 37]) .ret) .skip)) (.seq (.region i29_10 [10, 12, 36, 38, 39, 40, 41]) (.region i29_11 [11, 42, 43, 44]))))) (.region i29_12 [25, 26]))
def i29_K0 : IR := .seq (.region i29_13 [0, 5, 6, 8, 9, 24, 45, 46]) .ret
def i29 : IR := .seq (.region i29_0 [2, 3, 4]) (.seq (.region i29_1 [13, 14, 15, 16, 17, 18]) (.seq (.seq (.region i29_2 [19]) (.cond (.t 20) (.seq (.region i29_3 [0, 5, 6, 7, 20, 21]) .ret) .skip)) (.seq (.region i29_4 [7, 20]) (.seq (.seq (.region i29_5 []) (.block 0 (.loop [] i29_L0))) i29_K0))))
def rs29 : List RV := [(.t 2), (.t 3), (.t 4)]
theorem ok29 : cIR Try.prog a29 Try.f29.ntmps 0 (Try.f29.body.getD .skip) = some i29 := by kernel_rfl
theorem rok29 : cRes Try.prog Try.f29.results.toList = some rs29 := by kernel_rfl
theorem R29 {args : List AV} {H H' : List Blk} {r : AV} (hn : args.length ≤ 47) (hgo : i29.go Try.prog ⟨args0 0 args, H⟩ (Fin rs29 H r H')) : RunsTo Try.prog 29 args H r H' := runs_of (A := a29) Try.func29 (by kernel_rfl) (by decide +kernel) ok29 rok29 hn hgo

/-! ### quietus/quietusref01.SameInts: function 30 -/
def a30 : Ann := ⟨[], [(6, [0, 1, 2, 3, 4, 5, 6, 7, 8], [])], [(0, [4]), (1, [6, 7, 8, 9]), (2, [0, 1, 10]), (3, [10]), (4, [11, 12, 13]), (5, [15, 16, 25]), (6, [14, 17, 18, 19, 20, 21, 22, 23, 24]), (7, [0, 1, 5, 25]), (8, [0, 1, 5, 14])], []⟩
def i30_0 : List IOper := [⟨(some 4), (.mov (.c (.c (.bool false)))), none⟩]
def i30_1 : List IOper := [⟨(some 6), (.mov (.t 0)), none⟩, ⟨(some 7), (.len (.t 6)), none⟩, ⟨(some 8), (.mov (.t 1)), none⟩, ⟨(some 9), (.len (.t 8)), none⟩, ⟨(some 10), (.bin .neq (.t 7) (.t 9)), none⟩]
def i30_2 : List IOper := [⟨(some 4), (.mov (.c (.c (.bool false)))), none⟩]
def i30_3 : List IOper := [⟨(some 5), (.mov (.c (.c (.int .i64 0)))), none⟩]
def i30_4 : List IOper := [⟨(some 11), (.mov (.t 5)), none⟩, ⟨(some 12), (.mov (.t 0)), none⟩, ⟨(some 13), (.len (.t 12)), none⟩, ⟨(some 14), (.bin .lss (.t 11) (.t 13)), none⟩]
def i30_5 : List IOper := [⟨none, .srt, none⟩, ⟨(some 17), (.mov (.t 0)), none⟩, ⟨(some 18), (.mov (.t 5)), none⟩, ⟨(some 19), (.iaddr 1 (.t 17) (.t 18)), none⟩, ⟨(some 20), (.load none (.t 19)), none⟩, ⟨(some 21), (.mov (.t 1)), none⟩, ⟨(some 22), (.mov (.t 5)), none⟩, ⟨(some 23), (.iaddr 1 (.t 21) (.t 22)), none⟩, ⟨(some 24), (.load none (.t 23)), none⟩, ⟨(some 25), (.bin .neq (.t 20) (.t 24)), none⟩]
def i30_6 : List IOper := [⟨(some 4), (.mov (.c (.c (.bool false)))), none⟩]
def i30_7 : List IOper := [⟨(some 15), (.mov (.t 5)), none⟩, ⟨(some 16), (.bin .add (.t 15) (.c (.c (.int .i64 1)))), none⟩, ⟨(some 5), (.mov (.t 16)), none⟩]
def i30_8 : List IOper := [⟨(some 4), (.mov (.c (.c (.bool true)))), none⟩]
def i30_L0 : IR := .seq (.seq (.region i30_4 [11, 12, 13]) (.cond (.t 14) .skip (.exit 0))) (.seq (.block 1 (.seq (.region i30_5 [14, 17, 18, 19, 20, 21, 22, 23, 24]) (.cond (.t 25) (.seq (.region i30_6 [0, 1, 5, 25]) .ret) .skip))) (.region i30_7 [15, 16, 25]))
def i30_K0 : IR := .seq (.region i30_8 [0, 1, 5, 14]) .ret
def i30 : IR := .seq (.region i30_0 [4]) (.seq (.seq (.region i30_1 [6, 7, 8, 9]) (.cond (.t 10) (.seq (.region i30_2 [0, 1, 10]) .ret) .skip)) (.seq (.seq (.region i30_3 [10]) (.block 0 (.loop [] i30_L0))) i30_K0))
def rs30 : List RV := [(.t 4)]
theorem ok30 : cIR Try.prog a30 Try.f30.ntmps 0 (Try.f30.body.getD .skip) = some i30 := by kernel_rfl
theorem rok30 : cRes Try.prog Try.f30.results.toList = some rs30 := by kernel_rfl
theorem R30 {args : List AV} {H H' : List Blk} {r : AV} (hn : args.length ≤ 26) (hgo : i30.go Try.prog ⟨args0 0 args, H⟩ (Fin rs30 H r H')) : RunsTo Try.prog 30 args H r H' := runs_of (A := a30) Try.func30 (by kernel_rfl) (by decide +kernel) ok30 rok30 hn hgo

/-! ### quietus/wire.GetStrings: function 31 -/
def a31 : Ann := ⟨[], [], [(0, [2, 3, 4]), (1, [0, 5, 6, 7, 8, 9])], []⟩
def i31_0 : List IOper := [⟨(some 2), (.mov (.c (.c (.list 1 1 [])))), none⟩, ⟨(some 3), (.mov (.c (.c (.int .i64 0)))), none⟩, ⟨(some 4), (.mov (.c (.c (.int .i64 0)))), none⟩]
def i31_1 : List IOper := [⟨(some 5), (.mov (.t 0)), none⟩, ⟨(some 6), (.call (.c (.c (.fn 45 []))) [(.t 5), (.c (.c (.int .i64 1))), (.c (.c (.fn 26 [])))]), none⟩, ⟨(some 7), (.extract (.t 6) 0), none⟩, ⟨(some 8), (.extract (.t 6) 1), none⟩, ⟨(some 9), (.extract (.t 6) 2), none⟩, ⟨(some 2), (.mov (.t 7)), none⟩, ⟨(some 3), (.mov (.t 8)), none⟩, ⟨(some 4), (.mov (.t 9)), none⟩]
def i31 : IR := .seq (.region i31_0 [2, 3, 4]) (.seq (.region i31_1 [0, 5, 6, 7, 8, 9]) .ret)
def rs31 : List RV := [(.t 2), (.t 3), (.t 4)]
theorem ok31 : cIR Try.prog a31 Try.f31.ntmps 0 (Try.f31.body.getD .skip) = some i31 := by kernel_rfl
theorem rok31 : cRes Try.prog Try.f31.results.toList = some rs31 := by kernel_rfl
theorem R31 {args : List AV} {H H' : List Blk} {r : AV} (hn : args.length ≤ 10) (hgo : i31.go Try.prog ⟨args0 0 args, H⟩ (Fin rs31 H r H')) : RunsTo Try.prog 31 args H r H' := runs_of (A := a31) Try.func31 (by kernel_rfl) (by decide +kernel) ok31 rok31 hn hgo

/-! ### quietus/quietusref01.GetStrings: function 32 -/
def a32 : Ann := ⟨[8, 38], [], [(0, [2, 3, 4]), (1, [13, 14, 15, 16, 17, 18]), (2, [19]), (3, [0, 5, 6, 7, 20, 21]), (4, [7, 20]), (6, [22, 23]), (7, [25, 26]), (8, [24, 27, 28, 29, 30, 31, 32, 33, 34]), (9, [35]), (10, [0, 5, 6, 8, 9, 10, 11, 12, 36, 37]), (11, [10, 12, 36, 38, 39, 40, 41]), (12, [11, 42, 43, 44]), (13, [0, 5, 6, 8, 9, 24, 45, 46])], []⟩
def i32_0 : List IOper := [⟨(some 2), (.mov (.c (.c (.list 1 1 [])))), none⟩, ⟨(some 3), (.mov (.c (.c (.int .i64 0)))), none⟩, ⟨(some 4), (.mov (.c (.c (.int .i64 0)))), none⟩]
def i32_1 : List IOper := [⟨(some 14), (.mov (.t 0)), none⟩, ⟨(some 15), (.call (.c (.c (.fn 44 []))) [(.t 14), (.c (.c (.int .i64 1)))]), none⟩, ⟨(some 13), (.mov (.t 15)), none⟩, ⟨(some 16), (.extract (.t 13) 0), none⟩, ⟨(some 17), (.extract (.t 13) 1), none⟩, ⟨(some 18), (.extract (.t 13) 2), none⟩, ⟨(some 5), (.mov (.t 16)), none⟩, ⟨(some 6), (.mov (.t 17)), none⟩, ⟨(some 7), (.mov (.t 18)), none⟩]
def i32_2 : List IOper := [⟨(some 19), (.mov (.t 7)), none⟩, ⟨(some 20), (.bin .neq (.t 19) (.c (.c (.int .i64 0)))), none⟩]
def i32_3 : List IOper := [⟨(some 21), (.mov (.t 7)), none⟩, ⟨(some 2), (.mov (.c (.c (.list 1 1 [])))), none⟩, ⟨(some 3), (.mov (.c (.c (.int .i64 0)))), none⟩, ⟨(some 4), (.mov (.t 21)), none⟩]
def i32_4 : List IOper := [⟨(some 8), (.mov (.c (.c (.list 1 1 [])))), none⟩]
def i32_5 : List IOper := [⟨(some 9), (.mov (.c (.c (.int .i64 0)))), none⟩]
def i32_6 : List IOper := [⟨(some 22), (.mov (.t 9)), none⟩, ⟨(some 23), (.mov (.t 5)), none⟩, ⟨(some 24), (.bin .lss (.t 22) (.t 23)), none⟩]
def i32_7 : List IOper := [⟨(some 28), (.mov (.t 0)), none⟩, ⟨(some 29), (.mov (.t 6)), none⟩, ⟨(some 30), (.slst 1 (.t 28) (some (.t 29)) none none), none⟩, ⟨(some 31), (.call (.c (.c (.fn 27 []))) [(.t 30)]), none⟩, ⟨(some 27), (.mov (.t 31)), none⟩, ⟨(some 32), (.extract (.t 27) 0), none⟩, ⟨(some 33), (.extract (.t 27) 1), none⟩, ⟨(some 34), (.extract (.t 27) 2), none⟩, ⟨(some 10), (.mov (.t 32)), none⟩, ⟨(some 11), (.mov (.t 33)), none⟩, ⟨(some 12), (.mov (.t 34)), none⟩]
def i32_8 : List IOper := [⟨(some 35), (.mov (.t 12)), none⟩, ⟨(some 36), (.bin .neq (.t 35) (.c (.c (.int .i64 0)))), none⟩]
def i32_9 : List IOper := [⟨(some 37), (.mov (.t 12)), none⟩, ⟨(some 2), (.mov (.c (.c (.list 1 1 [])))), none⟩, ⟨(some 3), (.mov (.c (.c (.int .i64 0)))), none⟩, ⟨(some 4), (.mov (.t 37)), none⟩]
def i32_10 : List IOper := [⟨(some 38), (.movT 8), none⟩, ⟨(some 39), (.mov (.t 10)), none⟩, ⟨(some 40), (.bsl 9 1 1 [(.str ⟨⟨[]⟩⟩)] [(0, (1, (.t 39)))]), none⟩, ⟨(some 41), (.append 9 1 16 (.t 38) (.t 40)), none⟩, ⟨(some 8), (.movT 41), none⟩]
def i32_11 : List IOper := [⟨(some 42), (.mov (.t 6)), none⟩, ⟨(some 43), (.mov (.t 11)), none⟩, ⟨(some 44), (.bin .add (.t 42) (.t 43)), none⟩, ⟨(some 6), (.mov (.t 44)), none⟩]
def i32_12 : List IOper := [⟨(some 25), (.mov (.t 9)), none⟩, ⟨(some 26), (.bin .add (.t 25) (.c (.c (.int .i64 1)))), none⟩, ⟨(some 9), (.mov (.t 26)), none⟩]
def i32_13 : List IOper := [⟨(some 45), (.mov (.t 8)), none⟩, ⟨(some 46), (.mov (.t 6)), none⟩, ⟨(some 2), (.mov (.t 45)), none⟩, ⟨(some 3), (.mov (.t 46)), none⟩, ⟨(some 4), (.mov (.c (.c (.int .i64 0)))), none⟩]
def i32_L0 : IR := .seq (.seq (.region i32_6 [22, 23]) (.cond (.t 24) .skip (.exit 0))) (.seq (.block 1 (.seq (.region i32_7 [24, 27, 28, 29, 30, 31, 32, 33, 34]) (.seq (.seq (.region i32_8 [35]) (.cond (.t 36) (.seq (.region i32_9 [0, 5, 6, 8, 9, 10, 11, 12, 36, 37]) .ret) .skip)) (.seq (.region i32_10 [10, 12, 36, 38, 39, 40, 41]) (.region i32_11 [11, 42, 43, 44]))))) (.region i32_12 [25, 26]))
def i32_K0 : IR := .seq (.region i32_13 [0, 5, 6, 8, 9, 24, 45, 46]) .ret
def i32 : IR := .seq (.region i32_0 [2, 3, 4]) (.seq (.region i32_1 [13, 14, 15, 16, 17, 18]) (.seq (.seq (.region i32_2 [19]) (.cond (.t 20) (.seq (.region i32_3 [0, 5, 6, 7, 20, 21]) .ret) .skip)) (.seq (.region i32_4 [7, 20]) (.seq (.seq (.region i32_5 []) (.block 0 (.loop [] i32_L0))) i32_K0))))
def rs32 : List RV := [(.t 2), (.t 3), (.t 4)]
theorem ok32 : cIR Try.prog a32 Try.f32.ntmps 0 (Try.f32.body.getD .skip) = some i32 := by kernel_rfl
theorem rok32 : cRes Try.prog Try.f32.results.toList = some rs32 := by kernel_rfl
theorem R32 {args : List AV} {H H' : List Blk} {r : AV} (hn : args.length ≤ 47) (hgo : i32.go Try.prog ⟨args0 0 args, H⟩ (Fin rs32 H r H')) : RunsTo Try.prog 32 args H r H' := runs_of (A := a32) Try.func32 (by kernel_rfl) (by decide +kernel) ok32 rok32 hn hgo

/-! ### quietus/quietusref01.SameTexts: function 33 -/
def a33 : Ann := ⟨[], [(6, [0, 1, 2, 3, 4, 5, 6, 7, 8], [])], [(0, [4]), (1, [6, 7, 8, 9]), (2, [0, 1, 10]), (3, [10]), (4, [11, 12, 13]), (5, [15, 16, 25]), (6, [14, 17, 18, 19, 20, 21, 22, 23, 24]), (7, [0, 1, 5, 25]), (8, [0, 1, 5, 14])], []⟩
def i33_0 : List IOper := [⟨(some 4), (.mov (.c (.c (.bool false)))), none⟩]
def i33_1 : List IOper := [⟨(some 6), (.mov (.t 0)), none⟩, ⟨(some 7), (.len (.t 6)), none⟩, ⟨(some 8), (.mov (.t 1)), none⟩, ⟨(some 9), (.len (.t 8)), none⟩, ⟨(some 10), (.bin .neq (.t 7) (.t 9)), none⟩]
def i33_2 : List IOper := [⟨(some 4), (.mov (.c (.c (.bool false)))), none⟩]
def i33_3 : List IOper := [⟨(some 5), (.mov (.c (.c (.int .i64 0)))), none⟩]
def i33_4 : List IOper := [⟨(some 11), (.mov (.t 5)), none⟩, ⟨(some 12), (.mov (.t 0)), none⟩, ⟨(some 13), (.len (.t 12)), none⟩, ⟨(some 14), (.bin .lss (.t 11) (.t 13)), none⟩]
def i33_5 : List IOper := [⟨none, .srt, none⟩, ⟨(some 17), (.mov (.t 0)), none⟩, ⟨(some 18), (.mov (.t 5)), none⟩, ⟨(some 19), (.iaddr 1 (.t 17) (.t 18)), none⟩, ⟨(some 20), (.load none (.t 19)), none⟩, ⟨(some 21), (.mov (.t 1)), none⟩, ⟨(some 22), (.mov (.t 5)), none⟩, ⟨(some 23), (.iaddr 1 (.t 21) (.t 22)), none⟩, ⟨(some 24), (.load none (.t 23)), none⟩, ⟨(some 25), (.bin .neq (.t 20) (.t 24)), none⟩]
def i33_6 : List IOper := [⟨(some 4), (.mov (.c (.c (.bool false)))), none⟩]
def i33_7 : List IOper := [⟨(some 15), (.mov (.t 5)), none⟩, ⟨(some 16), (.bin .add (.t 15) (.c (.c (.int .i64 1)))), none⟩, ⟨(some 5), (.mov (.t 16)), none⟩]
def i33_8 : List IOper := [⟨(some 4), (.mov (.c (.c (.bool true)))), none⟩]
def i33_L0 : IR := .seq (.seq (.region i33_4 [11, 12, 13]) (.cond (.t 14) .skip (.exit 0))) (.seq (.block 1 (.seq (.region i33_5 [14, 17, 18, 19, 20, 21, 22, 23, 24]) (.cond (.t 25) (.seq (.region i33_6 [0, 1, 5, 25]) .ret) .skip))) (.region i33_7 [15, 16, 25]))
def i33_K0 : IR := .seq (.region i33_8 [0, 1, 5, 14]) .ret
def i33 : IR := .seq (.region i33_0 [4]) (.seq (.seq (.region i33_1 [6, 7, 8, 9]) (.cond (.t 10) (.seq (.region i33_2 [0, 1, 10]) .ret) .skip)) (.seq (.seq (.region i33_3 [10]) (.block 0 (.loop [] i33_L0))) i33_K0))
def rs33 : List RV := [(.t 4)]
theorem ok33 : cIR Try.prog a33 Try.f33.ntmps 0 (Try.f33.body.getD .skip) = some i33 := by kernel_rfl
theorem rok33 : cRes Try.prog Try.f33.results.toList = some rs33 := by kernel_rfl
theorem R33 {args : List AV} {H H' : List Blk} {r : AV} (hn : args.length ≤ 26) (hgo : i33.go Try.prog ⟨args0 0 args, H⟩ (Fin rs33 H r H')) : RunsTo Try.prog 33 args H r H' := runs_of (A := a33) Try.func33 (by kernel_rfl) (by decide +kernel) ok33 rok33 hn hgo

/-! ### quietus/wire.GetDigests: function 34 -/
def a34 : Ann := ⟨[], [], [(0, [2, 3, 4]), (1, [0, 5, 6, 7, 8, 9])], []⟩
def i34_0 : List IOper := [⟨(some 2), (.mov (.c (.c (.list 1 16 [])))), none⟩, ⟨(some 3), (.mov (.c (.c (.int .i64 0)))), none⟩, ⟨(some 4), (.mov (.c (.c (.int .i64 0)))), none⟩]
def i34_1 : List IOper := [⟨(some 5), (.mov (.t 0)), none⟩, ⟨(some 6), (.call (.c (.c (.fn 46 []))) [(.t 5), (.c (.c (.int .i64 16))), (.c (.c (.fn 47 [])))]), none⟩, ⟨(some 7), (.extract (.t 6) 0), none⟩, ⟨(some 8), (.extract (.t 6) 1), none⟩, ⟨(some 9), (.extract (.t 6) 2), none⟩, ⟨(some 2), (.mov (.t 7)), none⟩, ⟨(some 3), (.mov (.t 8)), none⟩, ⟨(some 4), (.mov (.t 9)), none⟩]
def i34 : IR := .seq (.region i34_0 [2, 3, 4]) (.seq (.region i34_1 [0, 5, 6, 7, 8, 9]) .ret)
def rs34 : List RV := [(.t 2), (.t 3), (.t 4)]
theorem ok34 : cIR Try.prog a34 Try.f34.ntmps 0 (Try.f34.body.getD .skip) = some i34 := by kernel_rfl
theorem rok34 : cRes Try.prog Try.f34.results.toList = some rs34 := by kernel_rfl
theorem R34 {args : List AV} {H H' : List Blk} {r : AV} (hn : args.length ≤ 10) (hgo : i34.go Try.prog ⟨args0 0 args, H⟩ (Fin rs34 H r H')) : RunsTo Try.prog 34 args H r H' := runs_of (A := a34) Try.func34 (by kernel_rfl) (by decide +kernel) ok34 rok34 hn hgo

/-! ### quietus/quietusref01.GetDigests: function 35 -/
def a35 : Ann := ⟨[8, 38], [], [(0, [2, 3, 4]), (1, [12, 13, 14, 15, 16, 17]), (2, [18]), (3, [0, 5, 6, 7, 19, 20]), (4, [7, 19]), (6, [21, 22]), (7, [24, 25]), (8, [23]), (10, [26]), (11, [28, 29]), (12, [27, 30, 31, 32, 33, 34, 35, 36, 37]), (13, [10, 11, 27, 38, 39, 40, 41]), (14, [42, 43]), (15, [0, 5, 6, 8, 9, 23, 44, 45])], []⟩
def i35_0 : List IOper := [⟨(some 2), (.mov (.c (.c (.list 1 16 [])))), none⟩, ⟨(some 3), (.mov (.c (.c (.int .i64 0)))), none⟩, ⟨(some 4), (.mov (.c (.c (.int .i64 0)))), none⟩]
def i35_1 : List IOper := [⟨(some 13), (.mov (.t 0)), none⟩, ⟨(some 14), (.call (.c (.c (.fn 44 []))) [(.t 13), (.c (.c (.int .i64 16)))]), none⟩, ⟨(some 12), (.mov (.t 14)), none⟩, ⟨(some 15), (.extract (.t 12) 0), none⟩, ⟨(some 16), (.extract (.t 12) 1), none⟩, ⟨(some 17), (.extract (.t 12) 2), none⟩, ⟨(some 5), (.mov (.t 15)), none⟩, ⟨(some 6), (.mov (.t 16)), none⟩, ⟨(some 7), (.mov (.t 17)), none⟩]
def i35_2 : List IOper := [⟨(some 18), (.mov (.t 7)), none⟩, ⟨(some 19), (.bin .neq (.t 18) (.c (.c (.int .i64 0)))), none⟩]
def i35_3 : List IOper := [⟨(some 20), (.mov (.t 7)), none⟩, ⟨(some 2), (.mov (.c (.c (.list 1 16 [])))), none⟩, ⟨(some 3), (.mov (.c (.c (.int .i64 0)))), none⟩, ⟨(some 4), (.mov (.t 20)), none⟩]
def i35_4 : List IOper := [⟨(some 8), (.mov (.c (.c (.list 1 16 [])))), none⟩]
def i35_5 : List IOper := [⟨(some 9), (.mov (.c (.c (.int .i64 0)))), none⟩]
def i35_6 : List IOper := [⟨(some 21), (.mov (.t 9)), none⟩, ⟨(some 22), (.mov (.t 5)), none⟩, ⟨(some 23), (.bin .lss (.t 21) (.t 22)), none⟩]
def i35_7 : List IOper := [⟨(some 10), (.alloc [(.int .u8 0), (.int .u8 0), (.int .u8 0), (.int .u8 0), (.int .u8 0), (.int .u8 0), (.int .u8 0), (.int .u8 0), (.int .u8 0), (.int .u8 0), (.int .u8 0), (.int .u8 0), (.int .u8 0), (.int .u8 0), (.int .u8 0), (.int .u8 0)]), none⟩]
def i35_8 : List IOper := [⟨(some 11), (.mov (.c (.c (.int .i64 0)))), none⟩]
def i35_9 : List IOper := [⟨(some 26), (.mov (.t 11)), none⟩, ⟨(some 27), (.bin .lss (.t 26) (.c (.c (.int .i64 16)))), none⟩]
def i35_10 : List IOper := [⟨(some 30), (.mov (.t 11)), none⟩, ⟨(some 31), (.mov (.t 0)), none⟩, ⟨(some 32), (.mov (.t 6)), none⟩, ⟨(some 33), (.mov (.t 11)), none⟩, ⟨(some 34), (.bin .add (.t 32) (.t 33)), none⟩, ⟨(some 35), (.iaddr 1 (.t 31) (.t 34)), none⟩, ⟨(some 36), (.load none (.t 35)), none⟩, ⟨(some 37), (.aaddr 1 16 (.t 10) (.t 30)), none⟩, ⟨none, (.store 1 (.t 37) (.t 36)), none⟩]
def i35_11 : List IOper := [⟨(some 28), (.mov (.t 11)), none⟩, ⟨(some 29), (.bin .add (.t 28) (.c (.c (.int .i64 1)))), none⟩, ⟨(some 11), (.mov (.t 29)), none⟩]
def i35_12 : List IOper := [⟨(some 38), (.movT 8), none⟩, ⟨(some 39), (.load (some 16) (.t 10)), none⟩, ⟨(some 40), (.bsl 57 16 1 [(.int .u8 0), (.int .u8 0), (.int .u8 0), (.int .u8 0), (.int .u8 0), (.int .u8 0), (.int .u8 0), (.int .u8 0), (.int .u8 0), (.int .u8 0), (.int .u8 0), (.int .u8 0), (.int .u8 0), (.int .u8 0), (.int .u8 0), (.int .u8 0)] [(0, (16, (.t 39)))]), none⟩, ⟨(some 41), (.append 57 16 16 (.t 38) (.t 40)), none⟩, ⟨(some 8), (.movT 41), none⟩]
def i35_13 : List IOper := [⟨(some 42), (.mov (.t 6)), none⟩, ⟨(some 43), (.bin .add (.t 42) (.c (.c (.int .i64 16)))), none⟩, ⟨(some 6), (.mov (.t 43)), none⟩]
def i35_14 : List IOper := [⟨(some 24), (.mov (.t 9)), none⟩, ⟨(some 25), (.bin .add (.t 24) (.c (.c (.int .i64 1)))), none⟩, ⟨(some 9), (.mov (.t 25)), none⟩]
def i35_15 : List IOper := [⟨(some 44), (.mov (.t 8)), none⟩, ⟨(some 45), (.mov (.t 6)), none⟩, ⟨(some 2), (.mov (.t 44)), none⟩, ⟨(some 3), (.mov (.t 45)), none⟩, ⟨(some 4), (.mov (.c (.c (.int .i64 0)))), none⟩]
def i35_L0 : IR := .seq (.seq (.region i35_9 [26]) (.cond (.t 27) .skip (.exit 2))) (.seq (.block 3 (.region i35_10 [27, 30, 31, 32, 33, 34, 35, 36, 37])) (.region i35_11 [28, 29]))
def i35_K0 : IR := .seq (.region i35_12 [10, 11, 27, 38, 39, 40, 41]) (.region i35_13 [42, 43])
def i35_K1 : IR := .region i35_14 [24, 25]
def i35_L1 : IR := .seq (.seq (.region i35_6 [21, 22]) (.cond (.t 23) .skip (.exit 0))) (.seq (.block 1 (.seq (.region i35_7 [23]) (.seq (.seq (.region i35_8 []) (.block 2 (.loop [] i35_L0))) i35_K0))) i35_K1)
def i35_K2 : IR := .seq (.region i35_15 [0, 5, 6, 8, 9, 23, 44, 45]) .ret
def i35 : IR := .seq (.region i35_0 [2, 3, 4]) (.seq (.region i35_1 [12, 13, 14, 15, 16, 17]) (.seq (.seq (.region i35_2 [18]) (.cond (.t 19) (.seq (.region i35_3 [0, 5, 6, 7, 19, 20]) .ret) .skip)) (.seq (.region i35_4 [7, 19]) (.seq (.seq (.region i35_5 []) (.block 0 (.loop [] i35_L1))) i35_K2))))
def rs35 : List RV := [(.t 2), (.t 3), (.t 4)]
theorem ok35 : cIR Try.prog a35 Try.f35.ntmps 0 (Try.f35.body.getD .skip) = some i35 := by kernel_rfl
theorem rok35 : cRes Try.prog Try.f35.results.toList = some rs35 := by kernel_rfl
theorem R35 {args : List AV} {H H' : List Blk} {r : AV} (hn : args.length ≤ 46) (hgo : i35.go Try.prog ⟨args0 0 args, H⟩ (Fin rs35 H r H')) : RunsTo Try.prog 35 args H r H' := runs_of (A := a35) Try.func35 (by kernel_rfl) (by decide +kernel) ok35 rok35 hn hgo

/-! ### quietus/quietusref01.SameDigests: function 36 -/
def a36 : Ann := ⟨[], [(6, [0, 1, 2, 3, 4, 5, 6, 7, 8], [])], [(0, [4]), (1, [6, 7, 8, 9]), (2, [0, 1, 10]), (3, [10]), (4, [11, 12, 13]), (5, [15, 16, 25]), (6, [14, 17, 18, 19, 20, 21, 22, 23, 24]), (7, [0, 1, 5, 25]), (8, [0, 1, 5, 14])], []⟩
def i36_0 : List IOper := [⟨(some 4), (.mov (.c (.c (.bool false)))), none⟩]
def i36_1 : List IOper := [⟨(some 6), (.mov (.t 0)), none⟩, ⟨(some 7), (.len (.t 6)), none⟩, ⟨(some 8), (.mov (.t 1)), none⟩, ⟨(some 9), (.len (.t 8)), none⟩, ⟨(some 10), (.bin .neq (.t 7) (.t 9)), none⟩]
def i36_2 : List IOper := [⟨(some 4), (.mov (.c (.c (.bool false)))), none⟩]
def i36_3 : List IOper := [⟨(some 5), (.mov (.c (.c (.int .i64 0)))), none⟩]
def i36_4 : List IOper := [⟨(some 11), (.mov (.t 5)), none⟩, ⟨(some 12), (.mov (.t 0)), none⟩, ⟨(some 13), (.len (.t 12)), none⟩, ⟨(some 14), (.bin .lss (.t 11) (.t 13)), none⟩]
def i36_5 : List IOper := [⟨none, .srt, none⟩, ⟨(some 17), (.mov (.t 0)), none⟩, ⟨(some 18), (.mov (.t 5)), none⟩, ⟨(some 19), (.iaddr 16 (.t 17) (.t 18)), none⟩, ⟨(some 20), (.load (some 16) (.t 19)), none⟩, ⟨(some 21), (.mov (.t 1)), none⟩, ⟨(some 22), (.mov (.t 5)), none⟩, ⟨(some 23), (.iaddr 16 (.t 21) (.t 22)), none⟩, ⟨(some 24), (.load (some 16) (.t 23)), none⟩, ⟨(some 25), (.eqa true [0, 0, 0, 0, 0, 0, 0, 0, 0, 0, 0, 0, 0, 0, 0, 0] (.t 20) (.t 24)), none⟩]
def i36_6 : List IOper := [⟨(some 4), (.mov (.c (.c (.bool false)))), none⟩]
def i36_7 : List IOper := [⟨(some 15), (.mov (.t 5)), none⟩, ⟨(some 16), (.bin .add (.t 15) (.c (.c (.int .i64 1)))), none⟩, ⟨(some 5), (.mov (.t 16)), none⟩]
def i36_8 : List IOper := [⟨(some 4), (.mov (.c (.c (.bool true)))), none⟩]
def i36_L0 : IR := .seq (.seq (.region i36_4 [11, 12, 13]) (.cond (.t 14) .skip (.exit 0))) (.seq (.block 1 (.seq (.region i36_5 [14, 17, 18, 19, 20, 21, 22, 23, 24]) (.cond (.t 25) (.seq (.region i36_6 [0, 1, 5, 25]) .ret) .skip))) (.region i36_7 [15, 16, 25]))
def i36_K0 : IR := .seq (.region i36_8 [0, 1, 5, 14]) .ret
def i36 : IR := .seq (.region i36_0 [4]) (.seq (.seq (.region i36_1 [6, 7, 8, 9]) (.cond (.t 10) (.seq (.region i36_2 [0, 1, 10]) .ret) .skip)) (.seq (.seq (.region i36_3 [10]) (.block 0 (.loop [] i36_L0))) i36_K0))
def rs36 : List RV := [(.t 4)]
theorem ok36 : cIR Try.prog a36 Try.f36.ntmps 0 (Try.f36.body.getD .skip) = some i36 := by kernel_rfl
theorem rok36 : cRes Try.prog Try.f36.results.toList = some rs36 := by kernel_rfl
theorem R36 {args : List AV} {H H' : List Blk} {r : AV} (hn : args.length ≤ 26) (hgo : i36.go Try.prog ⟨args0 0 args, H⟩ (Fin rs36 H r H')) : RunsTo Try.prog 36 args H r H' := runs_of (A := a36) Try.func36 (by kernel_rfl) (by decide +kernel) ok36 rok36 hn hgo

/-! ### quietus/quietuslaw01.consumed: function 37 -/
def a37 : Ann := ⟨[], [], [(0, [8]), (1, [0, 1, 2, 3, 9, 10, 11, 12, 13, 14, 15, 16, 17, 18, 19, 20, 21, 22, 23, 24, 25, 26, 27, 28, 29, 30, 31])], []⟩
def i37_0 : List IOper := [⟨(some 8), (.mov (.c (.c (.bool false)))), none⟩]
def i37_1 : List IOper := [⟨(some 9), (.mov (.t 3)), none⟩, ⟨(some 10), (.bin .neq (.t 9) (.c (.c (.int .i64 0)))), none⟩, ⟨(some 11), (.mov (.t 10)), none⟩, ⟨(some 12), (.mov (.t 2)), (some (11, false))⟩, ⟨(some 13), (.bin .geq (.t 12) (.c (.c (.int .i64 0)))), (some (11, false))⟩, ⟨(some 14), (.mov (.t 13)), (some (11, false))⟩, ⟨(some 15), (.mov (.t 2)), (some (14, true))⟩, ⟨(some 16), (.mov (.t 0)), (some (14, true))⟩, ⟨(some 17), (.len (.t 16)), (some (14, true))⟩, ⟨(some 18), (.bin .leq (.t 15) (.t 17)), (some (14, true))⟩, ⟨(some 19), (.pick (.t 14) (.t 18) (.c (.c (.bool false)))), (some (11, false))⟩, ⟨(some 20), (.mov (.t 19)), (some (11, false))⟩, ⟨(some 21), (.mov (.t 1)), (some (20, true))⟩, ⟨(some 22), (.mov (.t 0)), (some (20, true))⟩, ⟨(some 23), (.mov (.t 2)), (some (20, true))⟩, ⟨(some 24), (.mov (.t 0)), (some (20, true))⟩, ⟨(some 25), (.len (.t 24)), (some (20, true))⟩, ⟨(some 26), (.mn [(.t 23), (.t 25)]), (some (20, true))⟩, ⟨(some 27), (.mx [(.c (.c (.int .i64 0))), (.t 26)]), (some (20, true))⟩, ⟨(some 28), (.slst 1 (.t 22) none (some (.t 27)) none), (some (20, true))⟩, ⟨(some 29), (.call (.c (.c (.fn 13 []))) [(.t 21), (.t 28)]), (some (20, true))⟩, ⟨(some 30), (.pick (.t 20) (.t 29) (.c (.c (.bool false)))), (some (11, false))⟩, ⟨(some 31), (.pick (.t 11) (.c (.c (.bool true))) (.t 30)), none⟩, ⟨(some 8), (.mov (.t 31)), none⟩]
def i37 : IR := .seq (.region i37_0 [8]) (.seq (.region i37_1 [0, 1, 2, 3, 9, 10, 11, 12, 13, 14, 15, 16, 17, 18, 19, 20, 21, 22, 23, 24, 25, 26, 27, 28, 29, 30, 31]) .ret)
def rs37 : List RV := [(.t 8)]
theorem ok37 : cIR Try.prog a37 Try.f37.ntmps 0 (Try.f37.body.getD .skip) = some i37 := by kernel_rfl
theorem rok37 : cRes Try.prog Try.f37.results.toList = some rs37 := by kernel_rfl
theorem R37 {args : List AV} {H H' : List Blk} {r : AV} (hn : args.length ≤ 32) (hgo : i37.go Try.prog ⟨args0 0 args, H⟩ (Fin rs37 H r H')) : RunsTo Try.prog 37 args H r H' := runs_of (A := a37) Try.func37 (by kernel_rfl) (by decide +kernel) ok37 rok37 hn hgo

/-! ### quietus/wire.list[int]: function 38 -/
def a38 : Ann := ⟨[4, 5, 17, 23], [], [(0, [4]), (1, [8, 9, 10]), (2, [0]), (4, [14, 15, 16]), (5, [7, 17, 18, 19, 20, 21]), (6, [22]), (7, [1, 5, 11, 12, 13, 14, 23])], []⟩
def i38_0 : List IOper := [⟨(some 4), (.mov (.c (.c (.list 1 1 [])))), none⟩]
def i38_1 : List IOper := [⟨(some 8), (.mov (.t 0)), none⟩, ⟨(some 9), (.len (.t 8)), none⟩, ⟨(some 10), (.call (.c (.c (.fn 14 []))) [(.t 9)]), none⟩, ⟨(some 5), (.movT 10), none⟩]
def i38_2 : List IOper := [⟨(some 11), (.mov (.t 0)), none⟩, ⟨(some 12), (.len (.t 11)), none⟩, ⟨(some 13), (.mov (.c (.c (.int .i64 0)))), none⟩]
def i38_3 : List IOper := [⟨(some 14), (.bin .lss (.t 13) (.t 12)), none⟩]
def i38_4 : List IOper := [⟨(some 15), (.iaddr 1 (.t 11) (.t 13)), none⟩, ⟨(some 16), (.load none (.t 15)), none⟩, ⟨(some 7), (.mov (.t 16)), none⟩]
def i38_5 : List IOper := [⟨(some 17), (.movT 5), none⟩, ⟨(some 18), (.mov (.t 1)), none⟩, ⟨(some 19), (.mov (.t 7)), none⟩, ⟨(some 20), (.call (.t 18) [(.t 19)]), none⟩, ⟨(some 21), (.append 5 1 1 (.t 17) (.t 20)), none⟩, ⟨(some 5), (.movT 21), none⟩]
def i38_6 : List IOper := [⟨(some 22), (.bin .add (.t 13) (.c (.c (.int .i64 1)))), none⟩, ⟨(some 13), (.mov (.t 22)), none⟩]
def i38_7 : List IOper := [⟨(some 23), (.movT 5), none⟩, ⟨(some 4), (.movT 23), none⟩]
def i38_L0 : IR := .seq (.region i38_3 []) (.seq (.cond (.t 14) .skip (.exit 0)) (.seq (.block 1 (.seq (.region i38_4 [14, 15, 16]) (.region i38_5 [7, 17, 18, 19, 20, 21]))) (.region i38_6 [22])))
def i38_K0 : IR := .seq (.region i38_7 [1, 5, 11, 12, 13, 14, 23]) .ret
def i38 : IR := .seq (.region i38_0 [4]) (.seq (.region i38_1 [8, 9, 10]) (.seq (.seq (.region i38_2 [0]) (.block 0 (.loop [] i38_L0))) i38_K0))
def rs38 : List RV := [(.t 4)]
theorem ok38 : cIR Try.prog a38 Try.f38.ntmps 0 (Try.f38.body.getD .skip) = some i38 := by kernel_rfl
theorem rok38 : cRes Try.prog Try.f38.results.toList = some rs38 := by kernel_rfl
theorem R38 {args : List AV} {H H' : List Blk} {r : AV} (hn : args.length ≤ 24) (hgo : i38.go Try.prog ⟨args0 0 args, H⟩ (Fin rs38 H r H')) : RunsTo Try.prog 38 args H r H' := runs_of (A := a38) Try.func38 (by kernel_rfl) (by decide +kernel) ok38 rok38 hn hgo

/-! ### quietus/wire.list[string]: function 39 -/
def a39 : Ann := ⟨[4, 5, 17, 23], [], [(0, [4]), (1, [8, 9, 10]), (2, [0]), (4, [14, 15, 16]), (5, [7, 17, 18, 19, 20, 21]), (6, [22]), (7, [1, 5, 11, 12, 13, 14, 23])], []⟩
def i39_0 : List IOper := [⟨(some 4), (.mov (.c (.c (.list 1 1 [])))), none⟩]
def i39_1 : List IOper := [⟨(some 8), (.mov (.t 0)), none⟩, ⟨(some 9), (.len (.t 8)), none⟩, ⟨(some 10), (.call (.c (.c (.fn 14 []))) [(.t 9)]), none⟩, ⟨(some 5), (.movT 10), none⟩]
def i39_2 : List IOper := [⟨(some 11), (.mov (.t 0)), none⟩, ⟨(some 12), (.len (.t 11)), none⟩, ⟨(some 13), (.mov (.c (.c (.int .i64 0)))), none⟩]
def i39_3 : List IOper := [⟨(some 14), (.bin .lss (.t 13) (.t 12)), none⟩]
def i39_4 : List IOper := [⟨(some 15), (.iaddr 1 (.t 11) (.t 13)), none⟩, ⟨(some 16), (.load none (.t 15)), none⟩, ⟨(some 7), (.mov (.t 16)), none⟩]
def i39_5 : List IOper := [⟨(some 17), (.movT 5), none⟩, ⟨(some 18), (.mov (.t 1)), none⟩, ⟨(some 19), (.mov (.t 7)), none⟩, ⟨(some 20), (.call (.t 18) [(.t 19)]), none⟩, ⟨(some 21), (.append 5 1 1 (.t 17) (.t 20)), none⟩, ⟨(some 5), (.movT 21), none⟩]
def i39_6 : List IOper := [⟨(some 22), (.bin .add (.t 13) (.c (.c (.int .i64 1)))), none⟩, ⟨(some 13), (.mov (.t 22)), none⟩]
def i39_7 : List IOper := [⟨(some 23), (.movT 5), none⟩, ⟨(some 4), (.movT 23), none⟩]
def i39_L0 : IR := .seq (.region i39_3 []) (.seq (.cond (.t 14) .skip (.exit 0)) (.seq (.block 1 (.seq (.region i39_4 [14, 15, 16]) (.region i39_5 [7, 17, 18, 19, 20, 21]))) (.region i39_6 [22])))
def i39_K0 : IR := .seq (.region i39_7 [1, 5, 11, 12, 13, 14, 23]) .ret
def i39 : IR := .seq (.region i39_0 [4]) (.seq (.region i39_1 [8, 9, 10]) (.seq (.seq (.region i39_2 [0]) (.block 0 (.loop [] i39_L0))) i39_K0))
def rs39 : List RV := [(.t 4)]
theorem ok39 : cIR Try.prog a39 Try.f39.ntmps 0 (Try.f39.body.getD .skip) = some i39 := by kernel_rfl
theorem rok39 : cRes Try.prog Try.f39.results.toList = some rs39 := by kernel_rfl
theorem R39 {args : List AV} {H H' : List Blk} {r : AV} (hn : args.length ≤ 24) (hgo : i39.go Try.prog ⟨args0 0 args, H⟩ (Fin rs39 H r H')) : RunsTo Try.prog 39 args H r H' := runs_of (A := a39) Try.func39 (by kernel_rfl) (by decide +kernel) ok39 rok39 hn hgo

/-! ### quietus/wire.list[quietus/api.Digest]: function 40 -/
def a40 : Ann := ⟨[4, 5, 17, 23], [], [(0, [4]), (1, [8, 9, 10]), (2, [0]), (4, [14, 15, 16]), (5, [7, 17, 18, 19, 20, 21]), (6, [22]), (7, [1, 5, 11, 12, 13, 14, 23])], []⟩
def i40_0 : List IOper := [⟨(some 4), (.mov (.c (.c (.list 1 1 [])))), none⟩]
def i40_1 : List IOper := [⟨(some 8), (.mov (.t 0)), none⟩, ⟨(some 9), (.len (.t 8)), none⟩, ⟨(some 10), (.call (.c (.c (.fn 14 []))) [(.t 9)]), none⟩, ⟨(some 5), (.movT 10), none⟩]
def i40_2 : List IOper := [⟨(some 11), (.mov (.t 0)), none⟩, ⟨(some 12), (.len (.t 11)), none⟩, ⟨(some 13), (.mov (.c (.c (.int .i64 0)))), none⟩]
def i40_3 : List IOper := [⟨(some 14), (.bin .lss (.t 13) (.t 12)), none⟩]
def i40_4 : List IOper := [⟨(some 15), (.iaddr 16 (.t 11) (.t 13)), none⟩, ⟨(some 16), (.load (some 16) (.t 15)), none⟩, ⟨(some 7), (.alloc [(.int .u8 0), (.int .u8 0), (.int .u8 0), (.int .u8 0), (.int .u8 0), (.int .u8 0), (.int .u8 0), (.int .u8 0), (.int .u8 0), (.int .u8 0), (.int .u8 0), (.int .u8 0), (.int .u8 0), (.int .u8 0), (.int .u8 0), (.int .u8 0)]), none⟩, ⟨none, (.store 16 (.t 7) (.t 16)), none⟩]
def i40_5 : List IOper := [⟨(some 17), (.movT 5), none⟩, ⟨(some 18), (.mov (.t 1)), none⟩, ⟨(some 19), (.load (some 16) (.t 7)), none⟩, ⟨(some 20), (.call (.t 18) [(.t 19)]), none⟩, ⟨(some 21), (.append 5 1 1 (.t 17) (.t 20)), none⟩, ⟨(some 5), (.movT 21), none⟩]
def i40_6 : List IOper := [⟨(some 22), (.bin .add (.t 13) (.c (.c (.int .i64 1)))), none⟩, ⟨(some 13), (.mov (.t 22)), none⟩]
def i40_7 : List IOper := [⟨(some 23), (.movT 5), none⟩, ⟨(some 4), (.movT 23), none⟩]
def i40_L0 : IR := .seq (.region i40_3 []) (.seq (.cond (.t 14) .skip (.exit 0)) (.seq (.block 1 (.seq (.region i40_4 [14, 15, 16]) (.region i40_5 [7, 17, 18, 19, 20, 21]))) (.region i40_6 [22])))
def i40_K0 : IR := .seq (.region i40_7 [1, 5, 11, 12, 13, 14, 23]) .ret
def i40 : IR := .seq (.region i40_0 [4]) (.seq (.region i40_1 [8, 9, 10]) (.seq (.seq (.region i40_2 [0]) (.block 0 (.loop [] i40_L0))) i40_K0))
def rs40 : List RV := [(.t 4)]
theorem ok40 : cIR Try.prog a40 Try.f40.ntmps 0 (Try.f40.body.getD .skip) = some i40 := by kernel_rfl
theorem rok40 : cRes Try.prog Try.f40.results.toList = some rs40 := by kernel_rfl
theorem R40 {args : List AV} {H H' : List Blk} {r : AV} (hn : args.length ≤ 24) (hgo : i40.go Try.prog ⟨args0 0 args, H⟩ (Fin rs40 H r H')) : RunsTo Try.prog 40 args H r H' := runs_of (A := a40) Try.func40 (by kernel_rfl) (by decide +kernel) ok40 rok40 hn hgo

/-! ### quietus/wire.digest: function 41 -/
def a41 : Ann := ⟨[2], [], [(0, [0, 2]), (1, [1, 3, 4])], []⟩
def i41_0 : List IOper := [⟨(some 1), (.box (.t 0)), none⟩, ⟨(some 2), (.mov (.c (.c (.list 1 1 [])))), none⟩]
def i41_1 : List IOper := [⟨(some 3), (.asl 16 1 (.t 1)), none⟩, ⟨(some 4), (.call (.c (.c (.fn 48 []))) [(.t 3)]), none⟩, ⟨(some 2), (.movT 4), none⟩]
def i41 : IR := .seq (.region i41_0 [0, 2]) (.seq (.region i41_1 [1, 3, 4]) .ret)
def rs41 : List RV := [(.t 2)]
theorem ok41 : cIR Try.prog a41 Try.f41.ntmps 0 (Try.f41.body.getD .skip) = some i41 := by kernel_rfl
theorem rok41 : cRes Try.prog Try.f41.results.toList = some rs41 := by kernel_rfl
theorem R41 {args : List AV} {H H' : List Blk} {r : AV} (hn : args.length ≤ 5) (hgo : i41.go Try.prog ⟨args0 0 args, H⟩ (Fin rs41 H r H')) : RunsTo Try.prog 41 args H r H' := runs_of (A := a41) Try.func41 (by kernel_rfl) (by decide +kernel) ok41 rok41 hn hgo

/-! ### quietus/wire.length: function 42 -/
def a42 : Ann := ⟨[], [], [(0, [4, 5, 6]), (1, [10, 11, 12, 13, 14, 15]), (2, [17, 18]), (3, [0, 1, 7, 8, 9, 16, 19]), (4, [9, 16, 21, 22]), (5, [0, 1, 7, 8, 20]), (6, [0, 1, 20, 24, 25, 26, 27, 28, 29, 30, 31]), (7, [7, 8, 23]), (8, [7, 8, 23, 32, 33])], []⟩
def i42_0 : List IOper := [⟨(some 4), (.mov (.c (.c (.int .i64 0)))), none⟩, ⟨(some 5), (.mov (.c (.c (.int .i64 0)))), none⟩, ⟨(some 6), (.mov (.c (.c (.int .i64 0)))), none⟩]
def i42_1 : List IOper := [⟨(some 11), (.mov (.t 0)), none⟩, ⟨(some 12), (.call (.c (.c (.fn 24 []))) [(.t 11)]), none⟩, ⟨(some 10), (.mov (.t 12)), none⟩, ⟨(some 13), (.extract (.t 10) 0), none⟩, ⟨(some 14), (.extract (.t 10) 1), none⟩, ⟨(some 15), (.extract (.t 10) 2), none⟩, ⟨(some 7), (.mov (.t 13)), none⟩, ⟨(some 8), (.mov (.t 14)), none⟩, ⟨(some 9), (.mov (.t 15)), none⟩]
def i42_2 : List IOper := [⟨(some 17), (.mov (.t 9)), none⟩, ⟨(some 18), (.bin .neq (.t 17) (.c (.c (.int .i64 0)))), none⟩, ⟨(some 16), (.mov (.t 18)), none⟩]
def i42_3 : List IOper := [⟨(some 19), (.mov (.t 9)), none⟩, ⟨(some 4), (.mov (.c (.c (.int .i64 0)))), none⟩, ⟨(some 5), (.mov (.c (.c (.int .i64 0)))), none⟩, ⟨(some 6), (.mov (.t 19)), none⟩]
def i42_4 : List IOper := [⟨(some 21), (.mov (.t 7)), none⟩, ⟨(some 22), (.bin .lss (.t 21) (.c (.c (.int .i64 0)))), none⟩, ⟨(some 20), (.mov (.t 22)), none⟩]
def i42_5 : List IOper := [⟨(some 4), (.mov (.c (.c (.int .i64 0)))), none⟩, ⟨(some 5), (.mov (.c (.c (.int .i64 0)))), none⟩, ⟨(some 6), (.mov (.c (.c (.int .i64 11)))), none⟩]
def i42_6 : List IOper := [⟨(some 24), (.mov (.t 7)), none⟩, ⟨(some 25), (.mov (.t 0)), none⟩, ⟨(some 26), (.len (.t 25)), none⟩, ⟨(some 27), (.mov (.t 8)), none⟩, ⟨(some 28), (.bin .sub (.t 26) (.t 27)), none⟩, ⟨(some 29), (.mov (.t 1)), none⟩, ⟨(some 30), (.bin .quo (.t 28) (.t 29)), none⟩, ⟨(some 31), (.bin .gtr (.t 24) (.t 30)), none⟩, ⟨(some 23), (.mov (.t 31)), none⟩]
def i42_7 : List IOper := [⟨(some 4), (.mov (.c (.c (.int .i64 0)))), none⟩, ⟨(some 5), (.mov (.c (.c (.int .i64 0)))), none⟩, ⟨(some 6), (.mov (.c (.c (.int .i64 10)))), none⟩]
def i42_8 : List IOper := [⟨(some 32), (.mov (.t 7)), none⟩, ⟨(some 33), (.mov (.t 8)), none⟩, ⟨(some 4), (.mov (.t 32)), none⟩, ⟨(some 5), (.mov (.t 33)), none⟩, ⟨(some 6), (.mov (.c (.c (.int .i64 0)))), none⟩]
def i42 : IR := .seq (.region i42_0 [4, 5, 6]) (.seq (.region i42_1 [10, 11, 12, 13, 14, 15]) (.seq (.block 0 (.seq (.region i42_2 [17, 18]) (.cond (.t 16) (.seq (.region i42_3 [0, 1, 7, 8, 9, 16, 19]) .ret) (.seq (.region i42_4 [9, 16, 21, 22]) (.cond (.t 20) (.seq (.region i42_5 [0, 1, 7, 8, 20]) .ret) (.seq (.region i42_6 [0, 1, 20, 24, 25, 26, 27, 28, 29, 30, 31]) (.cond (.t 23) (.seq (.region i42_7 [7, 8, 23]) .ret) .skip))))))) (.seq (.region i42_8 [7, 8, 23, 32, 33]) .ret)))
def rs42 : List RV := [(.t 4), (.t 5), (.t 6)]
theorem ok42 : cIR Try.prog a42 Try.f42.ntmps 0 (Try.f42.body.getD .skip) = some i42 := by kernel_rfl
theorem rok42 : cRes Try.prog Try.f42.results.toList = some rs42 := by kernel_rfl
theorem R42 {args : List AV} {H H' : List Blk} {r : AV} (hn : args.length ≤ 34) (hgo : i42.go Try.prog ⟨args0 0 args, H⟩ (Fin rs42 H r H')) : RunsTo Try.prog 42 args H r H' := runs_of (A := a42) Try.func42 (by kernel_rfl) (by decide +kernel) ok42 rok42 hn hgo

/-! ### quietus/wire.get[int]: function 43 -/
def a43 : Ann := ⟨[12, 41], [], [(0, [6, 7, 8]), (1, [1, 16, 17, 18, 19, 20, 21, 22]), (2, [23]), (3, [0, 2, 9, 10, 11, 24, 25]), (4, [11, 24]), (5, [9]), (7, [28, 29, 30, 31, 32, 33, 34, 35, 36, 37]), (8, [38]), (9, [0, 2, 10, 12, 13, 14, 15, 26, 27, 39, 40]), (10, [13, 14, 15, 39, 41, 42, 43, 44, 45, 46, 47]), (11, [48]), (12, [0, 2, 10, 12, 26, 27, 28, 49, 50])], []⟩
def i43_0 : List IOper := [⟨(some 6), (.mov (.c (.c (.list 1 1 [])))), none⟩, ⟨(some 7), (.mov (.c (.c (.int .i64 0)))), none⟩, ⟨(some 8), (.mov (.c (.c (.int .i64 0)))), none⟩]
def i43_1 : List IOper := [⟨(some 17), (.mov (.t 0)), none⟩, ⟨(some 18), (.mov (.t 1)), none⟩, ⟨(some 19), (.call (.c (.c (.fn 42 []))) [(.t 17), (.t 18)]), none⟩, ⟨(some 16), (.mov (.t 19)), none⟩, ⟨(some 20), (.extract (.t 16) 0), none⟩, ⟨(some 21), (.extract (.t 16) 1), none⟩, ⟨(some 22), (.extract (.t 16) 2), none⟩, ⟨(some 9), (.mov (.t 20)), none⟩, ⟨(some 10), (.mov (.t 21)), none⟩, ⟨(some 11), (.mov (.t 22)), none⟩]
def i43_2 : List IOper := [⟨(some 23), (.mov (.t 11)), none⟩, ⟨(some 24), (.bin .neq (.t 23) (.c (.c (.int .i64 0)))), none⟩]
def i43_3 : List IOper := [⟨(some 25), (.mov (.t 11)), none⟩, ⟨(some 6), (.mov (.c (.c (.list 1 1 [])))), none⟩, ⟨(some 7), (.mov (.c (.c (.int .i64 0)))), none⟩, ⟨(some 8), (.mov (.t 25)), none⟩]
def i43_4 : List IOper := [⟨(some 12), (.mov (.c (.c (.list 1 1 [])))), none⟩]
def i43_5 : List IOper := [⟨(some 26), (.mov (.t 9)), none⟩, ⟨(some 27), (.mov (.c (.c (.int .i64 0)))), none⟩]
def i43_6 : List IOper := [⟨(some 28), (.bin .lss (.t 27) (.t 26)), none⟩]
def i43_7 : List IOper := [⟨(some 30), (.mov (.t 2)), none⟩, ⟨(some 31), (.mov (.t 0)), none⟩, ⟨(some 32), (.mov (.t 10)), none⟩, ⟨(some 33), (.slst 1 (.t 31) (some (.t 32)) none none), none⟩, ⟨(some 34), (.call (.t 30) [(.t 33)]), none⟩, ⟨(some 29), (.mov (.t 34)), none⟩, ⟨(some 35), (.extract (.t 29) 0), none⟩, ⟨(some 36), (.extract (.t 29) 1), none⟩, ⟨(some 37), (.extract (.t 29) 2), none⟩, ⟨(some 13), (.mov (.t 35)), none⟩, ⟨(some 14), (.mov (.t 36)), none⟩, ⟨(some 15), (.mov (.t 37)), none⟩]
def i43_8 : List IOper := [⟨(some 38), (.mov (.t 15)), none⟩, ⟨(some 39), (.bin .neq (.t 38) (.c (.c (.int .i64 0)))), none⟩]
def i43_9 : List IOper := [⟨(some 40), (.mov (.t 15)), none⟩, ⟨(some 6), (.mov (.c (.c (.list 1 1 [])))), none⟩, ⟨(some 7), (.mov (.c (.c (.int .i64 0)))), none⟩, ⟨(some 8), (.mov (.t 40)), none⟩]
def i43_10 : List IOper := [⟨(some 41), (.movT 12), none⟩, ⟨(some 42), (.mov (.t 13)), none⟩, ⟨(some 43), (.bsl 3 1 1 [(.int .i64 0)] [(0, (1, (.t 42)))]), none⟩, ⟨(some 44), (.append 3 1 8 (.t 41) (.t 43)), none⟩, ⟨(some 45), (.mov (.t 10)), none⟩, ⟨(some 46), (.mov (.t 14)), none⟩, ⟨(some 47), (.bin .add (.t 45) (.t 46)), none⟩, ⟨(some 12), (.movT 44), none⟩, ⟨(some 10), (.mov (.t 47)), none⟩]
def i43_11 : List IOper := [⟨(some 48), (.bin .add (.t 27) (.c (.c (.int .i64 1)))), none⟩, ⟨(some 27), (.mov (.t 48)), none⟩]
def i43_12 : List IOper := [⟨(some 49), (.mov (.t 12)), none⟩, ⟨(some 50), (.mov (.t 10)), none⟩, ⟨(some 6), (.mov (.t 49)), none⟩, ⟨(some 7), (.mov (.t 50)), none⟩, ⟨(some 8), (.mov (.c (.c (.int .i64 0)))), none⟩]
def i43_L0 : IR := .seq (.region i43_6 []) (.seq (.cond (.t 28) .skip (.exit 0)) (.seq (.block 1 (.seq (.region i43_7 [28, 29, 30, 31, 32, 33, 34, 35, 36, 37]) (.seq (.seq (.region i43_8 [38]) (.cond (.t 39) (.seq (.region i43_9 [0, 2, 10, 12, 13, 14, 15, 26, 27, 39, 40]) .ret) .skip)) (.region i43_10 [13, 14, 15, 39, 41, 42, 43, 44, 45, 46, 47])))) (.region i43_11 [48])))
def i43_K0 : IR := .seq (.region i43_12 [0, 2, 10, 12, 26, 27, 28, 49, 50]) .ret
def i43 : IR := .seq (.region i43_0 [6, 7, 8]) (.seq (.region i43_1 [1, 16, 17, 18, 19, 20, 21, 22]) (.seq (.seq (.region i43_2 [23]) (.cond (.t 24) (.seq (.region i43_3 [0, 2, 9, 10, 11, 24, 25]) .ret) .skip)) (.seq (.region i43_4 [11, 24]) (.seq (.seq (.region i43_5 [9]) (.block 0 (.loop [] i43_L0))) i43_K0))))
def rs43 : List RV := [(.t 6), (.t 7), (.t 8)]
theorem ok43 : cIR Try.prog a43 Try.f43.ntmps 0 (Try.f43.body.getD .skip) = some i43 := by kernel_rfl
theorem rok43 : cRes Try.prog Try.f43.results.toList = some rs43 := by kernel_rfl
theorem R43 {args : List AV} {H H' : List Blk} {r : AV} (hn : args.length ≤ 51) (hgo : i43.go Try.prog ⟨args0 0 args, H⟩ (Fin rs43 H r H')) : RunsTo Try.prog 43 args H r H' := runs_of (A := a43) Try.func43 (by kernel_rfl) (by decide +kernel) ok43 rok43 hn hgo

/-! ### quietus/quietusref01.length: function 44 -/
def a44 : Ann := ⟨[], [], [(0, [4, 5, 6]), (1, [10, 11, 12, 13, 14, 15]), (2, [16]), (3, [0, 1, 7, 8, 9, 17, 18]), (4, [9, 17, 19]), (5, [0, 1, 7, 8, 20]), (6, [0, 1, 20, 21, 22, 23, 24, 25, 26, 27]), (7, [7, 8, 28]), (8, [7, 8, 28, 29, 30])], []⟩
def i44_0 : List IOper := [⟨(some 4), (.mov (.c (.c (.int .i64 0)))), none⟩, ⟨(some 5), (.mov (.c (.c (.int .i64 0)))), none⟩, ⟨(some 6), (.mov (.c (.c (.int .i64 0)))), none⟩]
def i44_1 : List IOper := [⟨(some 11), (.mov (.t 0)), none⟩, ⟨(some 12), (.call (.c (.c (.fn 25 []))) [(.t 11)]), none⟩, ⟨(some 10), (.mov (.t 12)), none⟩, ⟨(some 13), (.extract (.t 10) 0), none⟩, ⟨(some 14), (.extract (.t 10) 1), none⟩, ⟨(some 15), (.extract (.t 10) 2), none⟩, ⟨(some 7), (.mov (.t 13)), none⟩, ⟨(some 8), (.mov (.t 14)), none⟩, ⟨(some 9), (.mov (.t 15)), none⟩]
def i44_2 : List IOper := [⟨(some 16), (.mov (.t 9)), none⟩, ⟨(some 17), (.bin .neq (.t 16) (.c (.c (.int .i64 0)))), none⟩]
def i44_3 : List IOper := [⟨(some 18), (.mov (.t 9)), none⟩, ⟨(some 4), (.mov (.c (.c (.int .i64 0)))), none⟩, ⟨(some 5), (.mov (.c (.c (.int .i64 0)))), none⟩, ⟨(some 6), (.mov (.t 18)), none⟩]
def i44_4 : List IOper := [⟨(some 19), (.mov (.t 7)), none⟩, ⟨(some 20), (.bin .lss (.t 19) (.c (.c (.int .i64 0)))), none⟩]
def i44_5 : List IOper := [⟨(some 4), (.mov (.c (.c (.int .i64 0)))), none⟩, ⟨(some 5), (.mov (.c (.c (.int .i64 0)))), none⟩, ⟨(some 6), (.mov (.c (.c (.int .i64 11)))), none⟩]
def i44_6 : List IOper := [⟨(some 21), (.mov (.t 7)), none⟩, ⟨(some 22), (.mov (.t 0)), none⟩, ⟨(some 23), (.len (.t 22)), none⟩, ⟨(some 24), (.mov (.t 8)), none⟩, ⟨(some 25), (.bin .sub (.t 23) (.t 24)), none⟩, ⟨(some 26), (.mov (.t 1)), none⟩, ⟨(some 27), (.bin .quo (.t 25) (.t 26)), none⟩, ⟨(some 28), (.bin .gtr (.t 21) (.t 27)), none⟩]
def i44_7 : List IOper := [⟨(some 4), (.mov (.c (.c (.int .i64 0)))), none⟩, ⟨(some 5), (.mov (.c (.c (.int .i64 0)))), none⟩, ⟨(some 6), (.mov (.c (.c (.int .i64 10)))), none⟩]
def i44_8 : List IOper := [⟨(some 29), (.mov (.t 7)), none⟩, ⟨(some 30), (.mov (.t 8)), none⟩, ⟨(some 4), (.mov (.t 29)), none⟩, ⟨(some 5), (.mov (.t 30)), none⟩, ⟨(some 6), (.mov (.c (.c (.int .i64 0)))), none⟩]
def i44 : IR := .seq (.region i44_0 [4, 5, 6]) (.seq (.region i44_1 [10, 11, 12, 13, 14, 15]) (.seq (.seq (.region i44_2 [16]) (.cond (.t 17) (.seq (.region i44_3 [0, 1, 7, 8, 9, 17, 18]) .ret) .skip)) (.seq (.seq (.region i44_4 [9, 17, 19]) (.cond (.t 20) (.seq (.region i44_5 [0, 1, 7, 8, 20]) .ret) .skip)) (.seq (.seq (.region i44_6 [0, 1, 20, 21, 22, 23, 24, 25, 26, 27]) (.cond (.t 28) (.seq (.region i44_7 [7, 8, 28]) .ret) .skip)) (.seq (.region i44_8 [7, 8, 28, 29, 30]) .ret)))))
def rs44 : List RV := [(.t 4), (.t 5), (.t 6)]
theorem ok44 : cIR Try.prog a44 Try.f44.ntmps 0 (Try.f44.body.getD .skip) = some i44 := by kernel_rfl
theorem rok44 : cRes Try.prog Try.f44.results.toList = some rs44 := by kernel_rfl
theorem R44 {args : List AV} {H H' : List Blk} {r : AV} (hn : args.length ≤ 31) (hgo : i44.go Try.prog ⟨args0 0 args, H⟩ (Fin rs44 H r H')) : RunsTo Try.prog 44 args H r H' := runs_of (A := a44) Try.func44 (by kernel_rfl) (by decide +kernel) ok44 rok44 hn hgo

/-! ### quietus/wire.get[string]: function 45 -/
def a45 : Ann := ⟨[12, 41], [], [(0, [6, 7, 8]), (1, [1, 16, 17, 18, 19, 20, 21, 22]), (2, [23]), (3, [0, 2, 9, 10, 11, 24, 25]), (4, [11, 24]), (5, [9]), (7, [28, 29, 30, 31, 32, 33, 34, 35, 36, 37]), (8, [38]), (9, [0, 2, 10, 12, 13, 14, 15, 26, 27, 39, 40]), (10, [13, 14, 15, 39, 41, 42, 43, 44, 45, 46, 47]), (11, [48]), (12, [0, 2, 10, 12, 26, 27, 28, 49, 50])], []⟩
def i45_0 : List IOper := [⟨(some 6), (.mov (.c (.c (.list 1 1 [])))), none⟩, ⟨(some 7), (.mov (.c (.c (.int .i64 0)))), none⟩, ⟨(some 8), (.mov (.c (.c (.int .i64 0)))), none⟩]
def i45_1 : List IOper := [⟨(some 17), (.mov (.t 0)), none⟩, ⟨(some 18), (.mov (.t 1)), none⟩, ⟨(some 19), (.call (.c (.c (.fn 42 []))) [(.t 17), (.t 18)]), none⟩, ⟨(some 16), (.mov (.t 19)), none⟩, ⟨(some 20), (.extract (.t 16) 0), none⟩, ⟨(some 21), (.extract (.t 16) 1), none⟩, ⟨(some 22), (.extract (.t 16) 2), none⟩, ⟨(some 9), (.mov (.t 20)), none⟩, ⟨(some 10), (.mov (.t 21)), none⟩, ⟨(some 11), (.mov (.t 22)), none⟩]
def i45_2 : List IOper := [⟨(some 23), (.mov (.t 11)), none⟩, ⟨(some 24), (.bin .neq (.t 23) (.c (.c (.int .i64 0)))), none⟩]
def i45_3 : List IOper := [⟨(some 25), (.mov (.t 11)), none⟩, ⟨(some 6), (.mov (.c (.c (.list 1 1 [])))), none⟩, ⟨(some 7), (.mov (.c (.c (.int .i64 0)))), none⟩, ⟨(some 8), (.mov (.t 25)), none⟩]
def i45_4 : List IOper := [⟨(some 12), (.mov (.c (.c (.list 1 1 [])))), none⟩]
def i45_5 : List IOper := [⟨(some 26), (.mov (.t 9)), none⟩, ⟨(some 27), (.mov (.c (.c (.int .i64 0)))), none⟩]
def i45_6 : List IOper := [⟨(some 28), (.bin .lss (.t 27) (.t 26)), none⟩]
def i45_7 : List IOper := [⟨(some 30), (.mov (.t 2)), none⟩, ⟨(some 31), (.mov (.t 0)), none⟩, ⟨(some 32), (.mov (.t 10)), none⟩, ⟨(some 33), (.slst 1 (.t 31) (some (.t 32)) none none), none⟩, ⟨(some 34), (.call (.t 30) [(.t 33)]), none⟩, ⟨(some 29), (.mov (.t 34)), none⟩, ⟨(some 35), (.extract (.t 29) 0), none⟩, ⟨(some 36), (.extract (.t 29) 1), none⟩, ⟨(some 37), (.extract (.t 29) 2), none⟩, ⟨(some 13), (.mov (.t 35)), none⟩, ⟨(some 14), (.mov (.t 36)), none⟩, ⟨(some 15), (.mov (.t 37)), none⟩]
def i45_8 : List IOper := [⟨(some 38), (.mov (.t 15)), none⟩, ⟨(some 39), (.bin .neq (.t 38) (.c (.c (.int .i64 0)))), none⟩]
def i45_9 : List IOper := [⟨(some 40), (.mov (.t 15)), none⟩, ⟨(some 6), (.mov (.c (.c (.list 1 1 [])))), none⟩, ⟨(some 7), (.mov (.c (.c (.int .i64 0)))), none⟩, ⟨(some 8), (.mov (.t 40)), none⟩]
def i45_10 : List IOper := [⟨(some 41), (.movT 12), none⟩, ⟨(some 42), (.mov (.t 13)), none⟩, ⟨(some 43), (.bsl 9 1 1 [(.str ⟨⟨[]⟩⟩)] [(0, (1, (.t 42)))]), none⟩, ⟨(some 44), (.append 9 1 16 (.t 41) (.t 43)), none⟩, ⟨(some 45), (.mov (.t 10)), none⟩, ⟨(some 46), (.mov (.t 14)), none⟩, ⟨(some 47), (.bin .add (.t 45) (.t 46)), none⟩, ⟨(some 12), (.movT 44), none⟩, ⟨(some 10), (.mov (.t 47)), none⟩]
def i45_11 : List IOper := [⟨(some 48), (.bin .add (.t 27) (.c (.c (.int .i64 1)))), none⟩, ⟨(some 27), (.mov (.t 48)), none⟩]
def i45_12 : List IOper := [⟨(some 49), (.mov (.t 12)), none⟩, ⟨(some 50), (.mov (.t 10)), none⟩, ⟨(some 6), (.mov (.t 49)), none⟩, ⟨(some 7), (.mov (.t 50)), none⟩, ⟨(some 8), (.mov (.c (.c (.int .i64 0)))), none⟩]
def i45_L0 : IR := .seq (.region i45_6 []) (.seq (.cond (.t 28) .skip (.exit 0)) (.seq (.block 1 (.seq (.region i45_7 [28, 29, 30, 31, 32, 33, 34, 35, 36, 37]) (.seq (.seq (.region i45_8 [38]) (.cond (.t 39) (.seq (.region i45_9 [0, 2, 10, 12, 13, 14, 15, 26, 27, 39, 40]) .ret) .skip)) (.region i45_10 [13, 14, 15, 39, 41, 42, 43, 44, 45, 46, 47])))) (.region i45_11 [48])))
def i45_K0 : IR := .seq (.region i45_12 [0, 2, 10, 12, 26, 27, 28, 49, 50]) .ret
def i45 : IR := .seq (.region i45_0 [6, 7, 8]) (.seq (.region i45_1 [1, 16, 17, 18, 19, 20, 21, 22]) (.seq (.seq (.region i45_2 [23]) (.cond (.t 24) (.seq (.region i45_3 [0, 2, 9, 10, 11, 24, 25]) .ret) .skip)) (.seq (.region i45_4 [11, 24]) (.seq (.seq (.region i45_5 [9]) (.block 0 (.loop [] i45_L0))) i45_K0))))
def rs45 : List RV := [(.t 6), (.t 7), (.t 8)]
theorem ok45 : cIR Try.prog a45 Try.f45.ntmps 0 (Try.f45.body.getD .skip) = some i45 := by kernel_rfl
theorem rok45 : cRes Try.prog Try.f45.results.toList = some rs45 := by kernel_rfl
theorem R45 {args : List AV} {H H' : List Blk} {r : AV} (hn : args.length ≤ 51) (hgo : i45.go Try.prog ⟨args0 0 args, H⟩ (Fin rs45 H r H')) : RunsTo Try.prog 45 args H r H' := runs_of (A := a45) Try.func45 (by kernel_rfl) (by decide +kernel) ok45 rok45 hn hgo

/-! ### quietus/wire.get[quietus/api.Digest]: function 46 -/
def a46 : Ann := ⟨[12, 41], [], [(0, [6, 7, 8]), (1, [1, 16, 17, 18, 19, 20, 21, 22]), (2, [23]), (3, [0, 2, 9, 10, 11, 24, 25]), (4, [11, 24]), (5, [9]), (7, [28, 29, 30, 31, 32, 33, 34, 35, 36, 37]), (8, [38]), (9, [0, 2, 10, 12, 13, 14, 15, 26, 27, 39, 40]), (10, [13, 14, 15, 39, 41, 42, 43, 44, 45, 46, 47]), (11, [48]), (12, [0, 2, 10, 12, 26, 27, 28, 49, 50])], []⟩
def i46_0 : List IOper := [⟨(some 6), (.mov (.c (.c (.list 1 16 [])))), none⟩, ⟨(some 7), (.mov (.c (.c (.int .i64 0)))), none⟩, ⟨(some 8), (.mov (.c (.c (.int .i64 0)))), none⟩]
def i46_1 : List IOper := [⟨(some 17), (.mov (.t 0)), none⟩, ⟨(some 18), (.mov (.t 1)), none⟩, ⟨(some 19), (.call (.c (.c (.fn 42 []))) [(.t 17), (.t 18)]), none⟩, ⟨(some 16), (.mov (.t 19)), none⟩, ⟨(some 20), (.extract (.t 16) 0), none⟩, ⟨(some 21), (.extract (.t 16) 1), none⟩, ⟨(some 22), (.extract (.t 16) 2), none⟩, ⟨(some 9), (.mov (.t 20)), none⟩, ⟨(some 10), (.mov (.t 21)), none⟩, ⟨(some 11), (.mov (.t 22)), none⟩]
def i46_2 : List IOper := [⟨(some 23), (.mov (.t 11)), none⟩, ⟨(some 24), (.bin .neq (.t 23) (.c (.c (.int .i64 0)))), none⟩]
def i46_3 : List IOper := [⟨(some 25), (.mov (.t 11)), none⟩, ⟨(some 6), (.mov (.c (.c (.list 1 16 [])))), none⟩, ⟨(some 7), (.mov (.c (.c (.int .i64 0)))), none⟩, ⟨(some 8), (.mov (.t 25)), none⟩]
def i46_4 : List IOper := [⟨(some 12), (.mov (.c (.c (.list 1 16 [])))), none⟩]
def i46_5 : List IOper := [⟨(some 26), (.mov (.t 9)), none⟩, ⟨(some 27), (.mov (.c (.c (.int .i64 0)))), none⟩]
def i46_6 : List IOper := [⟨(some 28), (.bin .lss (.t 27) (.t 26)), none⟩]
def i46_7 : List IOper := [⟨(some 30), (.mov (.t 2)), none⟩, ⟨(some 31), (.mov (.t 0)), none⟩, ⟨(some 32), (.mov (.t 10)), none⟩, ⟨(some 33), (.slst 1 (.t 31) (some (.t 32)) none none), none⟩, ⟨(some 34), (.call (.t 30) [(.t 33)]), none⟩, ⟨(some 29), (.mov (.t 34)), none⟩, ⟨(some 35), (.extract (.t 29) 0), none⟩, ⟨(some 36), (.extract (.t 29) 1), none⟩, ⟨(some 37), (.extract (.t 29) 2), none⟩, ⟨(some 13), (.alloc [(.int .u8 0), (.int .u8 0), (.int .u8 0), (.int .u8 0), (.int .u8 0), (.int .u8 0), (.int .u8 0), (.int .u8 0), (.int .u8 0), (.int .u8 0), (.int .u8 0), (.int .u8 0), (.int .u8 0), (.int .u8 0), (.int .u8 0), (.int .u8 0)]), none⟩, ⟨none, (.store 16 (.t 13) (.t 35)), none⟩, ⟨(some 14), (.mov (.t 36)), none⟩, ⟨(some 15), (.mov (.t 37)), none⟩]
def i46_8 : List IOper := [⟨(some 38), (.mov (.t 15)), none⟩, ⟨(some 39), (.bin .neq (.t 38) (.c (.c (.int .i64 0)))), none⟩]
def i46_9 : List IOper := [⟨(some 40), (.mov (.t 15)), none⟩, ⟨(some 6), (.mov (.c (.c (.list 1 16 [])))), none⟩, ⟨(some 7), (.mov (.c (.c (.int .i64 0)))), none⟩, ⟨(some 8), (.mov (.t 40)), none⟩]
def i46_10 : List IOper := [⟨(some 41), (.movT 12), none⟩, ⟨(some 42), (.load (some 16) (.t 13)), none⟩, ⟨(some 43), (.bsl 57 16 1 [(.int .u8 0), (.int .u8 0), (.int .u8 0), (.int .u8 0), (.int .u8 0), (.int .u8 0), (.int .u8 0), (.int .u8 0), (.int .u8 0), (.int .u8 0), (.int .u8 0), (.int .u8 0), (.int .u8 0), (.int .u8 0), (.int .u8 0), (.int .u8 0)] [(0, (16, (.t 42)))]), none⟩, ⟨(some 44), (.append 57 16 16 (.t 41) (.t 43)), none⟩, ⟨(some 45), (.mov (.t 10)), none⟩, ⟨(some 46), (.mov (.t 14)), none⟩, ⟨(some 47), (.bin .add (.t 45) (.t 46)), none⟩, ⟨(some 12), (.movT 44), none⟩, ⟨(some 10), (.mov (.t 47)), none⟩]
def i46_11 : List IOper := [⟨(some 48), (.bin .add (.t 27) (.c (.c (.int .i64 1)))), none⟩, ⟨(some 27), (.mov (.t 48)), none⟩]
def i46_12 : List IOper := [⟨(some 49), (.mov (.t 12)), none⟩, ⟨(some 50), (.mov (.t 10)), none⟩, ⟨(some 6), (.mov (.t 49)), none⟩, ⟨(some 7), (.mov (.t 50)), none⟩, ⟨(some 8), (.mov (.c (.c (.int .i64 0)))), none⟩]
def i46_L0 : IR := .seq (.region i46_6 []) (.seq (.cond (.t 28) .skip (.exit 0)) (.seq (.block 1 (.seq (.region i46_7 [28, 29, 30, 31, 32, 33, 34, 35, 36, 37]) (.seq (.seq (.region i46_8 [38]) (.cond (.t 39) (.seq (.region i46_9 [0, 2, 10, 12, 13, 14, 15, 26, 27, 39, 40]) .ret) .skip)) (.region i46_10 [13, 14, 15, 39, 41, 42, 43, 44, 45, 46, 47])))) (.region i46_11 [48])))
def i46_K0 : IR := .seq (.region i46_12 [0, 2, 10, 12, 26, 27, 28, 49, 50]) .ret
def i46 : IR := .seq (.region i46_0 [6, 7, 8]) (.seq (.region i46_1 [1, 16, 17, 18, 19, 20, 21, 22]) (.seq (.seq (.region i46_2 [23]) (.cond (.t 24) (.seq (.region i46_3 [0, 2, 9, 10, 11, 24, 25]) .ret) .skip)) (.seq (.region i46_4 [11, 24]) (.seq (.seq (.region i46_5 [9]) (.block 0 (.loop [] i46_L0))) i46_K0))))
def rs46 : List RV := [(.t 6), (.t 7), (.t 8)]
theorem ok46 : cIR Try.prog a46 Try.f46.ntmps 0 (Try.f46.body.getD .skip) = some i46 := by kernel_rfl
theorem rok46 : cRes Try.prog Try.f46.results.toList = some rs46 := by kernel_rfl
theorem R46 {args : List AV} {H H' : List Blk} {r : AV} (hn : args.length ≤ 51) (hgo : i46.go Try.prog ⟨args0 0 args, H⟩ (Fin rs46 H r H')) : RunsTo Try.prog 46 args H r H' := runs_of (A := a46) Try.func46 (by kernel_rfl) (by decide +kernel) ok46 rok46 hn hgo

/-! ### quietus/wire.getDigest: function 47 -/
def a47 : Ann := ⟨[], [], [(0, [3, 4]), (1, [0, 5, 6, 7, 8])], []⟩
def i47_0 : List IOper := [⟨(some 2), (.alloc [(.int .u8 0), (.int .u8 0), (.int .u8 0), (.int .u8 0), (.int .u8 0), (.int .u8 0), (.int .u8 0), (.int .u8 0), (.int .u8 0), (.int .u8 0), (.int .u8 0), (.int .u8 0), (.int .u8 0), (.int .u8 0), (.int .u8 0), (.int .u8 0)]), none⟩, ⟨(some 3), (.mov (.c (.c (.int .i64 0)))), none⟩, ⟨(some 4), (.mov (.c (.c (.int .i64 0)))), none⟩]
def i47_1 : List IOper := [⟨(some 5), (.mov (.t 0)), none⟩, ⟨(some 6), (.slst 1 (.t 5) none (some (.c (.c (.int .i64 16)))) none), none⟩, ⟨(some 7), (.s2a 16 (.t 6)), none⟩, ⟨(some 8), (.load (some 16) (.t 7)), none⟩, ⟨none, (.store 16 (.t 2) (.t 8)), none⟩, ⟨(some 3), (.mov (.c (.c (.int .i64 16)))), none⟩, ⟨(some 4), (.mov (.c (.c (.int .i64 0)))), none⟩]
def i47 : IR := .seq (.region i47_0 [3, 4]) (.seq (.region i47_1 [0, 5, 6, 7, 8]) .ret)
def rs47 : List RV := [(.cell (some 16) 2), (.t 3), (.t 4)]
theorem ok47 : cIR Try.prog a47 Try.f47.ntmps 0 (Try.f47.body.getD .skip) = some i47 := by kernel_rfl
theorem rok47 : cRes Try.prog Try.f47.results.toList = some rs47 := by kernel_rfl
theorem R47 {args : List AV} {H H' : List Blk} {r : AV} (hn : args.length ≤ 9) (hgo : i47.go Try.prog ⟨args0 0 args, H⟩ (Fin rs47 H r H')) : RunsTo Try.prog 47 args H r H' := runs_of (A := a47) Try.func47 (by kernel_rfl) (by decide +kernel) ok47 rok47 hn hgo

/-! ### slices.Clone[[]byte,byte]: function 48 -/
def a48 : Ann := ⟨[2], [], [(0, [2]), (1, [3]), (2, [0, 4]), (3, [0, 4, 5, 6, 7])], []⟩
def i48_0 : List IOper := [⟨(some 2), (.mov (.c (.c (.list 1 1 [])))), none⟩]
def i48_1 : List IOper := [⟨(some 3), (.mov (.t 0)), none⟩, ⟨(some 4), (.isnil false (.t 3)), none⟩]
def i48_2 : List IOper := [⟨(some 2), (.mov (.c (.c (.list 1 1 [])))), none⟩]
def i48_3 : List IOper := [⟨(some 5), (.bsl 5 1 0 [] []), none⟩, ⟨(some 6), (.mov (.t 0)), none⟩, ⟨(some 7), (.append 5 1 1 (.t 5) (.t 6)), none⟩, ⟨(some 2), (.movT 7), none⟩]
def i48 : IR := .seq (.region i48_0 [2]) (.seq (.seq (.region i48_1 [3]) (.cond (.t 4) (.seq (.region i48_2 [0, 4]) .ret) .skip)) (.seq (.region i48_3 [0, 4, 5, 6, 7]) .ret))
def rs48 : List RV := [(.t 2)]
theorem ok48 : cIR Try.prog a48 Try.f48.ntmps 0 (Try.f48.body.getD .skip) = some i48 := by kernel_rfl
theorem rok48 : cRes Try.prog Try.f48.results.toList = some rs48 := by kernel_rfl
theorem R48 {args : List AV} {H H' : List Blk} {r : AV} (hn : args.length ≤ 8) (hgo : i48.go Try.prog ⟨args0 0 args, H⟩ (Fin rs48 H r H')) : RunsTo Try.prog 48 args H r H' := runs_of (A := a48) Try.func48 (by kernel_rfl) (by decide +kernel) ok48 rok48 hn hgo
end Go.Proofs.Ytacepnbonngbnaa
