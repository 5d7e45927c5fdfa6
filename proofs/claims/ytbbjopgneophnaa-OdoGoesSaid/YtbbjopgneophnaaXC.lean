/- The program's functions as code of the typed abstract walk (printed by a program). -/
import Derived.Test.YtbbjopgneophnaaT18
set_option linter.unusedVariables false
namespace Go.Proofs.Ytbbjopgneophnaa
namespace T
/-! (*tonneau/road.search).nodes -/
def y32_1 (nE p : Nat) (kvB : List Nat) (xA xB : XC) : XC := (.seq (.reg false [
   ⟨some 13, .bin .lss, [.t 12, .t 11], none, []⟩])
 (.seq (.cond (.t 13)
  .skip
  (.exit 2))
 (.seq (.block 3 (.seq (.reg false [
    ⟨some 14, .mv, [.t 12], none, []⟩,
    ⟨some 15, .iaddr (.st (.cons (.int .i64) (.int .i64))), [.t 10, .t 12], none, []⟩,
    ⟨some 16, .load (.st (.cons (.int .i64) (.int .i64))), [.t 15], none, []⟩,
    ⟨some 6, .alloc 58 (.st (.cons (.int .i64) (.int .i64))), [], none, []⟩,
    ⟨some 5, .mv, [.t 14], none, []⟩,
    ⟨none, .store (.st (.cons (.int .i64) (.int .i64))), [.t 6, .t 16], none, []⟩])
  (.seq (.reg true [
    ⟨some 17, .mv, [.t 0], none, []⟩,
    ⟨some 18, .nilck, [.t 17], none, [0]⟩,
    ⟨some 19, .faddr 1 (.sl .bool), [.t 18], none, [1, 0]⟩,
    ⟨some 20, .load (.sl .bool), [.t 19], none, [2, 1, 0]⟩,
    ⟨some 21, .mv, [.t 5], none, []⟩,
    ⟨some 22, .iaddr .bool, [.t 20, .t 21], none, [3, 2, 1, 0, 4]⟩,
    ⟨some 23, .load .bool, [.t 22], none, [5, 3, 2, 1, 0, 4]⟩,
    ⟨some 24, .not, [.t 23], none, [6, 5, 3, 2, 1, 0, 4]⟩,
    ⟨some 25, .mv, [.t 24], none, [7, 6, 5, 3, 2, 1, 0, 4]⟩,
    ⟨some 26, .faddr 0 (.int .i64), [.t 6], some (8, 25, true), [8, 7, 6, 5, 3, 2, 1, 0, 4]⟩,
    ⟨some 27, .load (.int .i64), [.t 26], some (8, 25, true), [9, 8, 7, 6, 5, 3, 2, 1, 0, 4]⟩,
    ⟨some 28, .bin .geq, [.t 27, .int .i64 0], some (8, 25, true), [10, 9, 8, 7, 6, 5, 3, 2, 1, 0, 4]⟩,
    ⟨some 29, .pick, [.t 25, .t 28, .bool false], none, [8, 7, 6, 5, 3, 2, 1, 0, 4, 11, 10, 9]⟩,
    ⟨some 30, .mv, [.t 29], none, [12, 8, 7, 6, 5, 3, 2, 1, 0, 4, 11, 10, 9]⟩,
    ⟨some 31, .mv, [.t 4], some (13, 30, true), [13, 12, 8, 7, 6, 5, 3, 2, 1, 0, 4, 11, 10, 9]⟩,
    ⟨some 32, .bin .lss, [.t 31, .int .i64 0], some (13, 30, true), [14, 13, 12, 8, 7, 6, 5, 3, 2, 1, 0, 4, 11, 10, 9]⟩,
    ⟨some 33, .mv, [.t 32], some (13, 30, true), [15, 14, 13, 12, 8, 7, 6, 5, 3, 2, 1, 0, 4, 11, 10, 9]⟩,
    ⟨some 34, .mv, [.t 0], some (16, 33, false), [16, 15, 14, 13, 12, 8, 7, 6, 5, 3, 2, 1, 0, 4, 11, 10, 9]⟩,
    ⟨some 35, .faddr 0 (.int .i64), [.t 6], some (16, 33, false), [16, 15, 14, 13, 12, 8, 7, 6, 5, 3, 2, 1, 0, 4, 11, 10, 9]⟩,
    ⟨some 36, .load (.int .i64), [.t 35], some (16, 33, false), [18, 16, 15, 14, 13, 12, 8, 7, 6, 5, 3, 2, 1, 0, 4, 11, 10, 9]⟩,
    ⟨some 37, .mv, [.t 0], some (16, 33, false), [16, 15, 14, 13, 12, 8, 7, 6, 5, 3, 2, 1, 0, 4, 11, 10, 9]⟩,
    ⟨some 38, .nilck, [.t 37], some (16, 33, false), [20, 16, 15, 14, 13, 12, 8, 7, 6, 5, 3, 2, 1, 0, 4, 11, 10, 9]⟩,
    ⟨some 39, .faddr 0 (.sl (.st (.cons (.int .i64) (.int .i64)))), [.t 38], some (16, 33, false), [21, 20, 16, 15, 14, 13, 12, 8, 7, 6, 5, 3, 2, 1, 0, 4, 11, 10, 9]⟩,
    ⟨some 40, .load (.sl (.st (.cons (.int .i64) (.int .i64)))), [.t 39], some (16, 33, false), [22, 21, 20, 16, 15, 14, 13, 12, 8, 7, 6, 5, 3, 2, 1, 0, 4, 11, 10, 9]⟩,
    ⟨some 41, .mv, [.t 4], some (16, 33, false), [16, 15, 14, 13, 12, 8, 7, 6, 5, 3, 2, 1, 0, 4, 11, 10, 9]⟩,
    ⟨some 42, .iaddr (.st (.cons (.int .i64) (.int .i64))), [.t 40, .t 41], some (16, 33, false), [23, 22, 21, 20, 16, 15, 14, 13, 12, 8, 7, 6, 5, 3, 2, 1, 0, 4, 11, 10, 9, 24]⟩,
    ⟨some 43, .faddr 0 (.int .i64), [.t 42], some (16, 33, false), [25, 23, 22, 21, 20, 16, 15, 14, 13, 12, 8, 7, 6, 5, 3, 2, 1, 0, 4, 11, 10, 9, 24]⟩,
    ⟨some 44, .load (.int .i64), [.t 43], some (16, 33, false), [26, 25, 23, 22, 21, 20, 16, 15, 14, 13, 12, 8, 7, 6, 5, 3, 2, 1, 0, 4, 11, 10, 9, 24]⟩,
    ⟨some 45, .call 46, [.t 34, .t 36, .t 44], some (16, 33, false), [17, 16, 15, 14, 13, 12, 8, 7, 6, 5, 3, 2, 1, 0, 4, 11, 10, 9, 19, 18, 27, 26, 25, 23, 22, 21, 20, 24]⟩,
    ⟨some 46, .pick, [.t 33, .bool true, .t 45], some (13, 30, true), [16, 15, 14, 13, 12, 8, 7, 6, 5, 3, 2, 1, 0, 4, 11, 10, 9, 28, 17, 19, 18, 27, 26, 25, 23, 22, 21, 20, 24]⟩,
    ⟨some 47, .pick, [.t 30, .t 46, .bool false], none, [13, 12, 8, 7, 6, 5, 3, 2, 1, 0, 4, 11, 10, 9, 29, 16, 15, 14, 28, 17, 19, 18, 27, 26, 25, 23, 22, 21, 20, 24]⟩])
  (.cond (.t 47)
   (.reg false [
     ⟨some 48, .mv, [.t 5], none, []⟩,
     ⟨some 4, .mv, [.t 48], none, []⟩])
   .skip))))
 (.reg false [
   ⟨some 49, .bin .add, [.t 12, .int .i64 1], none, []⟩,
   ⟨some 12, .mv, [.t 49], none, []⟩]))))
def y32_1d : List Nat := [4, 5, 6, 12]
def y32_0 (nE p : Nat) (kvB : List Nat) (xA xB : XC) : XC := (.block 1 (.seq (.reg false [
    ⟨some 4, .mv, [.int .i64 (-1)], none, []⟩])
  (.seq (.seq (.reg false [
    ⟨some 7, .mv, [.t 0], none, []⟩,
    ⟨some 8, .nilck, [.t 7], none, []⟩,
    ⟨some 9, .faddr 0 (.sl (.st (.cons (.int .i64) (.int .i64)))), [.t 8], none, []⟩,
    ⟨some 10, .load (.sl (.st (.cons (.int .i64) (.int .i64)))), [.t 9], none, []⟩,
    ⟨some 11, .len false, [.t 10], none, []⟩,
    ⟨some 12, .mv, [.int .i64 0], none, []⟩])
  (.clean (.block 2 (.loop (y32_1 nE p kvB xA xB)))))
  (.clean (.seq (.seq (.reg false [
    ⟨some 50, .mv, [.t 4], none, []⟩,
    ⟨some 51, .bin .lss, [.t 50, .int .i64 0], none, []⟩])
  (.cond (.t 51)
   .ret
   .skip))
  (.seq (.reg false [
    ⟨some 52, .mv, [.t 0], none, []⟩,
    ⟨some 53, .nilck, [.t 52], none, []⟩,
    ⟨some 54, .faddr 1 (.sl .bool), [.t 53], none, []⟩,
    ⟨some 55, .load (.sl .bool), [.t 54], none, []⟩,
    ⟨some 56, .mv, [.t 4], none, []⟩,
    ⟨some 57, .iaddr .bool, [.t 55, .t 56], none, []⟩,
    ⟨none, .store .bool, [.t 57, .bool true], none, []⟩])
  (.clean (.seq (.yld [
    ⟨some 58, .mv, [.t 1], none, []⟩,
    ⟨some 59, .mv, [.t 4], none, []⟩] ⟨some 60, .callv, [.t 58, .t 59], none, []⟩ [
    ⟨some 61, .not, [.t 60], none, []⟩] 1 nE p kvB xA xB)
  (.cond (.t 61)
   .ret
   .skip)))))))))
def y32_0d : List Nat := [4, 5, 6, 10, 11, 12]
def y32 (nE p : Nat) (kvB : List Nat) (xA xB : XC) : XC :=
 (.block 0 (.loop (y32_0 nE p kvB xA xB)))
/- 0=s 1=yield 4=best 5=i 6=l 10= 11= 12= -/
/-! tonneau/road.begin -/
def x31 : XF := ⟨28, [.tmp 8], [0, 1, 2, 3, 8, 9],
 (.seq (.reg false [
   ⟨some 8, .mv, [.nilp], none, []⟩])
 (.seq (.reg true [
   ⟨some 10, .build (.st (.cons (.int .i64) (.int .i64))) [(0, (.int .i64)), (1, (.int .i64))], [.int .i64 (-1), .int .i64 (-1)], none, []⟩,
   ⟨some 11, .bslice 58 (.st (.cons (.int .i64) (.int .i64))) 1 [0], [.t 10], none, [0]⟩,
   ⟨some 12, .mv, [.t 0], none, []⟩,
   ⟨some 13, .call 45, [.t 11, .t 12], none, [1, 0, 2]⟩,
   ⟨some 14, .mv, [.t 0], none, []⟩,
   ⟨some 15, .mkslice 4 .bool 1, [.t 14, .t 14], none, [4]⟩,
   ⟨some 16, .mv, [.t 3], none, []⟩,
   ⟨some 17, .build (.st (.cons (.sl (.st (.cons (.int .i64) (.int .i64)))) (.cons (.sl .bool) .bool))) [(0, (.sl (.st (.cons (.int .i64) (.int .i64))))), (1, (.sl .bool)), (2, .bool)], [.t 13, .t 15, .t 16], none, [3, 1, 0, 2, 5, 4, 6]⟩,
   ⟨some 18, .box 69, [.t 17], none, [7, 3, 1, 0, 2, 5, 4, 6]⟩,
   ⟨some 9, .mv, [.t 18], none, [8, 7, 3, 1, 0, 2, 5, 4, 6]⟩])
 (.clean (.seq (.reg false [
   ⟨some 19, .mv, [.t 9], none, []⟩,
   ⟨some 20, .nilck, [.t 19], none, []⟩,
   ⟨some 21, .faddr 0 (.sl (.st (.cons (.int .i64) (.int .i64)))), [.t 20], none, []⟩,
   ⟨some 22, .load (.sl (.st (.cons (.int .i64) (.int .i64)))), [.t 21], none, []⟩,
   ⟨some 23, .mv, [.t 1], none, []⟩,
   ⟨some 24, .mv, [.t 2], none, []⟩,
   ⟨some 25, .iaddr (.st (.cons (.int .i64) (.int .i64))), [.t 22, .t 23], none, []⟩,
   ⟨some 26, .faddr 0 (.int .i64), [.t 25], none, []⟩,
   ⟨none, .store (.int .i64), [.t 26, .t 24], none, []⟩])
 (.seq (.reg false [
   ⟨some 27, .mv, [.t 9], none, []⟩,
   ⟨some 8, .mv, [.t 27], none, []⟩])
 .ret)))))⟩
/- 0=n 1=at 2=time 3=late 8= 9=s -/
/-! (*tonneau/road.search).reach -/
def x33 : XF := ⟨55, [], [0, 1, 2, 3, 8],
 (.seq (.seq (.reg false [
   ⟨some 9, .mv, [.t 0], none, []⟩,
   ⟨some 10, .nilck, [.t 9], none, []⟩,
   ⟨some 11, .faddr 1 (.sl .bool), [.t 10], none, []⟩,
   ⟨some 12, .load (.sl .bool), [.t 11], none, []⟩,
   ⟨some 13, .mv, [.t 1], none, []⟩,
   ⟨some 14, .iaddr .bool, [.t 12, .t 13], none, []⟩,
   ⟨some 15, .load .bool, [.t 14], none, []⟩,
   ⟨some 16, .mv, [.t 15], none, []⟩,
   ⟨some 17, .mv, [.t 2], some (7, 16, false), []⟩,
   ⟨some 18, .call 30, [.t 17], some (7, 16, false), []⟩,
   ⟨some 19, .not, [.t 18], some (7, 16, false), []⟩,
   ⟨some 20, .pick, [.t 16, .bool true, .t 19], none, []⟩])
 (.cond (.t 20)
  .ret
  .skip))
 (.clean (.seq (.reg false [
   ⟨some 21, .mv, [.t 0], none, []⟩,
   ⟨some 22, .nilck, [.t 21], none, []⟩,
   ⟨some 23, .faddr 0 (.sl (.st (.cons (.int .i64) (.int .i64)))), [.t 22], none, []⟩,
   ⟨some 24, .load (.sl (.st (.cons (.int .i64) (.int .i64)))), [.t 23], none, []⟩,
   ⟨some 25, .mv, [.t 1], none, []⟩,
   ⟨some 26, .iaddr (.st (.cons (.int .i64) (.int .i64))), [.t 24, .t 25], none, []⟩,
   ⟨some 8, .mv, [.t 26], none, []⟩])
 (.clean (.seq (.reg false [
   ⟨some 27, .mv, [.t 0], none, []⟩,
   ⟨some 28, .mv, [.t 2], none, []⟩,
   ⟨some 29, .mv, [.t 8], none, []⟩,
   ⟨some 30, .nilck, [.t 29], none, []⟩,
   ⟨some 31, .faddr 0 (.int .i64), [.t 30], none, []⟩,
   ⟨some 32, .load (.int .i64), [.t 31], none, []⟩,
   ⟨some 33, .call 46, [.t 27, .t 28, .t 32], none, []⟩,
   ⟨some 34, .mv, [.t 33], none, []⟩,
   ⟨some 35, .mv, [.t 2], some (7, 34, false), []⟩,
   ⟨some 36, .mv, [.t 8], some (7, 34, false), []⟩,
   ⟨some 37, .nilck, [.t 36], some (7, 34, false), []⟩,
   ⟨some 38, .faddr 0 (.int .i64), [.t 37], some (7, 34, false), []⟩,
   ⟨some 39, .load (.int .i64), [.t 38], some (7, 34, false), []⟩,
   ⟨some 40, .bin .eql, [.t 35, .t 39], some (7, 34, false), []⟩,
   ⟨some 41, .mv, [.t 40], some (7, 34, false), []⟩,
   ⟨some 42, .mv, [.t 3], some (14, 41, true), []⟩,
   ⟨some 43, .mv, [.t 8], some (14, 41, true), []⟩,
   ⟨some 44, .nilck, [.t 43], some (14, 41, true), []⟩,
   ⟨some 45, .faddr 1 (.int .i64), [.t 44], some (14, 41, true), []⟩,
   ⟨some 46, .load (.int .i64), [.t 45], some (14, 41, true), []⟩,
   ⟨some 47, .bin .lss, [.t 42, .t 46], some (14, 41, true), []⟩,
   ⟨some 48, .pick, [.t 41, .t 47, .bool false], some (7, 34, false), []⟩,
   ⟨some 49, .pick, [.t 34, .bool true, .t 48], none, []⟩])
 (.cond (.t 49)
  (.reg false [
    ⟨some 50, .mv, [.t 8], none, []⟩,
    ⟨some 51, .mv, [.t 2], none, []⟩,
    ⟨some 52, .mv, [.t 3], none, []⟩,
    ⟨some 53, .build (.st (.cons (.int .i64) (.int .i64))) [(0, (.int .i64)), (1, (.int .i64))], [.t 51, .t 52], none, []⟩,
    ⟨some 54, .nilck, [.t 50], none, []⟩,
    ⟨none, .store (.st (.cons (.int .i64) (.int .i64))), [.t 54, .t 53], none, []⟩])
  .skip))))))⟩
/- 0=s 1=node 2=time 3=by 8=l -/
/-! slices.Reverse[[]int,int] -/
def x35_0 : XC := (.seq (.seq (.reg false [
   ⟨some 7, .mv, [.t 2], none, []⟩,
   ⟨some 8, .mv, [.t 3], none, []⟩,
   ⟨some 9, .bin .lss, [.t 7, .t 8], none, []⟩])
 (.cond (.t 9)
  .skip
  (.exit 0)))
 (.seq (.block 1 (.reg true [
    ⟨some 14, .mv, [.t 0], none, []⟩,
    ⟨some 15, .mv, [.t 2], none, []⟩,
    ⟨some 16, .mv, [.t 0], none, []⟩,
    ⟨some 17, .mv, [.t 3], none, []⟩,
    ⟨some 18, .mv, [.t 0], none, []⟩,
    ⟨some 19, .mv, [.t 3], none, []⟩,
    ⟨some 20, .iaddr (.int .i64), [.t 18, .t 19], none, [4, 5]⟩,
    ⟨some 21, .load (.int .i64), [.t 20], none, [6, 4, 5]⟩,
    ⟨some 22, .mv, [.t 0], none, []⟩,
    ⟨some 23, .mv, [.t 2], none, []⟩,
    ⟨some 24, .iaddr (.int .i64), [.t 22, .t 23], none, [8, 9]⟩,
    ⟨some 25, .load (.int .i64), [.t 24], none, [10, 8, 9]⟩,
    ⟨some 26, .iaddr (.int .i64), [.t 14, .t 15], none, [0, 1, 4, 5, 6, 7, 11, 10, 8, 9]⟩,
    ⟨none, .store (.int .i64), [.t 26, .t 21], none, [12, 0, 1, 4, 5, 6, 7, 11, 10, 8, 9]⟩,
    ⟨some 27, .iaddr (.int .i64), [.t 16, .t 17], none, [2, 3, 0, 1, 4, 5, 6, 7, 8, 9, 10, 11, 12, 13]⟩,
    ⟨none, .store (.int .i64), [.t 27, .t 25], none, [14, 2, 3, 0, 1, 4, 5, 6, 7, 8, 9, 10, 11, 12, 13]⟩]))
 (.clean (.reg false [
   ⟨some 10, .mv, [.t 2], none, []⟩,
   ⟨some 11, .bin .add, [.t 10, .int .i64 1], none, []⟩,
   ⟨some 12, .mv, [.t 3], none, []⟩,
   ⟨some 13, .bin .sub, [.t 12, .int .i64 1], none, []⟩,
   ⟨some 2, .mv, [.t 11], none, []⟩,
   ⟨some 3, .mv, [.t 13], none, []⟩]))))
def x35_0d : List Nat := [2, 3]
def x35 : XF := ⟨28, [], [0, 2, 3],
 (.seq (.reg false [
   ⟨some 4, .mv, [.t 0], none, []⟩,
   ⟨some 5, .len false, [.t 4], none, []⟩,
   ⟨some 6, .bin .sub, [.t 5, .int .i64 1], none, []⟩,
   ⟨some 2, .mv, [.int .i64 0], none, []⟩,
   ⟨some 3, .mv, [.t 6], none, []⟩])
 (.block 0 (.loop x35_0)))⟩
/- 0=s 2=i 3=j -/
/-! gosem.cut.init -/
def x2 : XF := ⟨1, [], [],
 (.reg false [
   ⟨some 0, .call 1, [], none, []⟩])⟩
/-  -/
/-! tonneau/tonneaulaw45.OdoTells -/
def x3 : XF := ⟨102, [.tmp 12], [0, 1, 2, 3, 4, 5, 9, 11, 12, 13, 14, 15, 16, 17, 18, 19, 20, 21],
 (.seq (.reg false [
   ⟨some 9, .box 25, [.t 3], none, []⟩,
   ⟨some 11, .box 29, [.t 5], none, []⟩,
   ⟨some 12, .mv, [.bool false], none, []⟩])
 (.seq (.reg false [
   ⟨some 22, .call 8, [], none, []⟩,
   ⟨some 13, .mv, [.t 22], none, []⟩])
 (.seq (.seq (.reg false [
   ⟨some 23, .mv, [.t 0], none, []⟩,
   ⟨some 24, .mv, [.t 1], none, []⟩,
   ⟨some 25, .call 9, [.t 23, .t 24], none, []⟩,
   ⟨some 26, .not, [.t 25], none, []⟩,
   ⟨some 27, .mv, [.t 26], none, []⟩,
   ⟨some 28, .mv, [.t 2], some (4, 27, false), []⟩,
   ⟨some 29, .call 10, [.t 28], some (4, 27, false), []⟩,
   ⟨some 30, .not, [.t 29], some (4, 27, false), []⟩,
   ⟨some 31, .pick, [.t 27, .bool true, .t 30], none, []⟩])
 (.cond (.t 31)
  (.seq (.reg false [
    ⟨some 32, .mv, [.t 13], none, []⟩,
    ⟨some 12, .mv, [.t 32], none, []⟩])
  .ret)
  .skip))
 (.clean (.seq (.reg false [
   ⟨some 34, .mv, [.t 0], none, []⟩,
   ⟨some 35, .mv, [.t 1], none, []⟩,
   ⟨some 36, .mv, [.t 2], none, []⟩,
   ⟨some 37, .call 11, [.t 34, .t 35, .t 36], none, []⟩,
   ⟨some 33, .mv, [.t 37], none, []⟩,
   ⟨some 38, .extract 0, [.t 33], none, []⟩,
   ⟨some 39, .extract 1, [.t 33], none, []⟩,
   ⟨some 14, .mv, [.t 38], none, []⟩,
   ⟨some 15, .mv, [.t 39], none, []⟩])
 (.clean (.seq (.reg false [
   ⟨some 41, .mv, [.t 0], none, []⟩,
   ⟨some 42, .mv, [.t 1], none, []⟩,
   ⟨some 43, .mv, [.t 2], none, []⟩,
   ⟨some 44, .call 12, [.t 41, .t 42, .t 43], none, []⟩,
   ⟨some 40, .mv, [.t 44], none, []⟩,
   ⟨some 45, .extract 0, [.t 40], none, []⟩,
   ⟨some 46, .extract 1, [.t 40], none, []⟩,
   ⟨some 16, .mv, [.t 45], none, []⟩,
   ⟨some 17, .mv, [.t 46], none, []⟩])
 (.clean (.seq (.reg false [
   ⟨some 48, .mv, [.t 0], none, []⟩,
   ⟨some 49, .mv, [.t 1], none, []⟩,
   ⟨some 50, .load (.st (.cons (.int .i64) (.cons (.int .i64) (.int .i64)))), [.t 9], none, []⟩,
   ⟨some 51, .mv, [.t 4], none, []⟩,
   ⟨some 52, .call 13, [.t 48, .t 49, .t 50, .t 51], none, []⟩,
   ⟨some 47, .mv, [.t 52], none, []⟩,
   ⟨some 53, .extract 0, [.t 47], none, []⟩,
   ⟨some 54, .extract 1, [.t 47], none, []⟩,
   ⟨some 18, .mv, [.t 53], none, []⟩,
   ⟨some 19, .mv, [.t 54], none, []⟩])
 (.clean (.seq (.reg false [
   ⟨some 56, .mv, [.t 0], none, []⟩,
   ⟨some 57, .mv, [.t 1], none, []⟩,
   ⟨some 58, .load (.st (.cons (.int .i64) (.cons (.int .i64) (.int .i64)))), [.t 9], none, []⟩,
   ⟨some 59, .mv, [.t 4], none, []⟩,
   ⟨some 60, .call 14, [.t 56, .t 57, .t 58, .t 59], none, []⟩,
   ⟨some 55, .mv, [.t 60], none, []⟩,
   ⟨some 61, .extract 0, [.t 55], none, []⟩,
   ⟨some 62, .extract 1, [.t 55], none, []⟩,
   ⟨some 20, .mv, [.t 61], none, []⟩,
   ⟨some 21, .mv, [.t 62], none, []⟩])
 (.clean (.seq (.reg true [
   ⟨some 63, .mv, [.t 13], none, []⟩,
   ⟨some 64, .mv, [.t 63], none, [0]⟩,
   ⟨some 65, .mv, [.t 14], some (1, 64, true), [1, 0]⟩,
   ⟨some 66, .mv, [.t 16], some (1, 64, true), [1, 0]⟩,
   ⟨some 67, .bin .eql, [.t 65, .t 66], some (1, 64, true), [2, 1, 0, 3]⟩,
   ⟨some 68, .pick, [.t 64, .t 67, .bool false], none, [1, 0, 4, 2, 3]⟩,
   ⟨some 69, .mv, [.t 68], none, [5, 1, 0, 4, 2, 3]⟩,
   ⟨some 70, .mv, [.t 15], some (6, 69, true), [6, 5, 1, 0, 4, 2, 3]⟩,
   ⟨some 71, .mv, [.t 17], some (6, 69, true), [6, 5, 1, 0, 4, 2, 3]⟩,
   ⟨some 72, .bin .eql, [.t 70, .t 71], some (6, 69, true), [7, 6, 5, 1, 0, 4, 2, 3, 8]⟩,
   ⟨some 73, .pick, [.t 69, .t 72, .bool false], none, [6, 5, 1, 0, 4, 2, 3, 9, 7, 8]⟩,
   ⟨some 74, .mv, [.t 73], none, [10, 6, 5, 1, 0, 4, 2, 3, 9, 7, 8]⟩,
   ⟨some 75, .mv, [.t 18], some (11, 74, true), [11, 10, 6, 5, 1, 0, 4, 2, 3, 9, 7, 8]⟩,
   ⟨some 76, .mv, [.t 20], some (11, 74, true), [11, 10, 6, 5, 1, 0, 4, 2, 3, 9, 7, 8]⟩,
   ⟨some 77, .bin .eql, [.t 75, .t 76], some (11, 74, true), [12, 11, 10, 6, 5, 1, 0, 4, 2, 3, 9, 7, 8, 13]⟩,
   ⟨some 78, .pick, [.t 74, .t 77, .bool false], none, [11, 10, 6, 5, 1, 0, 4, 2, 3, 9, 7, 8, 14, 12, 13]⟩,
   ⟨some 79, .mv, [.t 78], none, [15, 11, 10, 6, 5, 1, 0, 4, 2, 3, 9, 7, 8, 14, 12, 13]⟩,
   ⟨some 80, .mv, [.t 19], some (16, 79, true), [16, 15, 11, 10, 6, 5, 1, 0, 4, 2, 3, 9, 7, 8, 14, 12, 13]⟩,
   ⟨some 81, .mv, [.t 21], some (16, 79, true), [16, 15, 11, 10, 6, 5, 1, 0, 4, 2, 3, 9, 7, 8, 14, 12, 13]⟩,
   ⟨some 82, .bin .eql, [.t 80, .t 81], some (16, 79, true), [17, 16, 15, 11, 10, 6, 5, 1, 0, 4, 2, 3, 9, 7, 8, 14, 12, 13, 18]⟩,
   ⟨some 83, .pick, [.t 79, .t 82, .bool false], none, [16, 15, 11, 10, 6, 5, 1, 0, 4, 2, 3, 9, 7, 8, 14, 12, 13, 19, 17, 18]⟩,
   ⟨some 84, .mv, [.t 83], none, [20, 16, 15, 11, 10, 6, 5, 1, 0, 4, 2, 3, 9, 7, 8, 14, 12, 13, 19, 17, 18]⟩,
   ⟨some 85, .mv, [.t 0], some (21, 84, true), [21, 20, 16, 15, 11, 10, 6, 5, 1, 0, 4, 2, 3, 9, 7, 8, 14, 12, 13, 19, 17, 18]⟩,
   ⟨some 86, .mv, [.t 2], some (21, 84, true), [21, 20, 16, 15, 11, 10, 6, 5, 1, 0, 4, 2, 3, 9, 7, 8, 14, 12, 13, 19, 17, 18]⟩,
   ⟨some 87, .call 15, [.t 85, .t 86], some (21, 84, true), [22, 21, 20, 16, 15, 11, 10, 6, 5, 1, 0, 4, 2, 3, 9, 7, 8, 14, 12, 13, 19, 17, 18, 23]⟩,
   ⟨some 88, .mv, [.t 0], some (21, 84, true), [21, 20, 16, 15, 11, 10, 6, 5, 1, 0, 4, 2, 3, 9, 7, 8, 14, 12, 13, 19, 17, 18]⟩,
   ⟨some 89, .mv, [.t 2], some (21, 84, true), [21, 20, 16, 15, 11, 10, 6, 5, 1, 0, 4, 2, 3, 9, 7, 8, 14, 12, 13, 19, 17, 18]⟩,
   ⟨some 90, .call 16, [.t 88, .t 89], some (21, 84, true), [25, 21, 20, 16, 15, 11, 10, 6, 5, 1, 0, 4, 2, 3, 9, 7, 8, 14, 12, 13, 19, 17, 18, 26, 24, 22, 23]⟩,
   ⟨some 91, .beq false .bool, [.t 87, .t 90], some (21, 84, true), [24, 22, 21, 20, 16, 15, 11, 10, 6, 5, 1, 0, 4, 2, 3, 9, 7, 8, 14, 12, 13, 19, 17, 18, 23, 27, 25, 26]⟩,
   ⟨some 92, .pick, [.t 84, .t 91, .bool false], none, [21, 20, 16, 15, 11, 10, 6, 5, 1, 0, 4, 2, 3, 9, 7, 8, 14, 12, 13, 19, 17, 18, 28, 24, 22, 23, 27, 25, 26]⟩,
   ⟨some 93, .mv, [.t 92], none, [29, 21, 20, 16, 15, 11, 10, 6, 5, 1, 0, 4, 2, 3, 9, 7, 8, 14, 12, 13, 19, 17, 18, 28, 24, 22, 23, 27, 25, 26]⟩,
   ⟨some 94, .load (.st (.cons (.st (.cons (.int .i64) (.cons (.int .i64) (.cons (.int .i64) (.cons (.int .i64) (.cons (.int .i64) (.cons (.int .i64) (.cons (.int .i64) (.cons (.int .i64) (.cons (.int .i64) (.int .i64))))))))))) (.cons (.int .i64) (.cons (.int .i64) (.cons (.int .i64) (.cons (.int .i64) (.int .i64))))))), [.t 11], some (30, 93, true), [30, 29, 21, 20, 16, 15, 11, 10, 6, 5, 1, 0, 4, 2, 3, 9, 7, 8, 14, 12, 13, 19, 17, 18, 28, 24, 22, 23, 27, 25, 26]⟩,
   ⟨some 95, .mv, [.t 2], some (30, 93, true), [30, 29, 21, 20, 16, 15, 11, 10, 6, 5, 1, 0, 4, 2, 3, 9, 7, 8, 14, 12, 13, 19, 17, 18, 28, 24, 22, 23, 27, 25, 26]⟩,
   ⟨some 96, .call 17, [.t 94, .t 95], some (30, 93, true), [31, 30, 29, 21, 20, 16, 15, 11, 10, 6, 5, 1, 0, 4, 2, 3, 9, 7, 8, 14, 12, 13, 19, 17, 18, 28, 24, 22, 23, 27, 25, 26, 32]⟩,
   ⟨some 97, .load (.st (.cons (.st (.cons (.int .i64) (.cons (.int .i64) (.cons (.int .i64) (.cons (.int .i64) (.cons (.int .i64) (.cons (.int .i64) (.cons (.int .i64) (.cons (.int .i64) (.cons (.int .i64) (.int .i64))))))))))) (.cons (.int .i64) (.cons (.int .i64) (.cons (.int .i64) (.cons (.int .i64) (.int .i64))))))), [.t 11], some (30, 93, true), [30, 29, 21, 20, 16, 15, 11, 10, 6, 5, 1, 0, 4, 2, 3, 9, 7, 8, 14, 12, 13, 19, 17, 18, 28, 24, 22, 23, 27, 25, 26]⟩,
   ⟨some 98, .mv, [.t 2], some (30, 93, true), [30, 29, 21, 20, 16, 15, 11, 10, 6, 5, 1, 0, 4, 2, 3, 9, 7, 8, 14, 12, 13, 19, 17, 18, 28, 24, 22, 23, 27, 25, 26]⟩,
   ⟨some 99, .call 18, [.t 97, .t 98], some (30, 93, true), [34, 30, 29, 21, 20, 16, 15, 11, 10, 6, 5, 1, 0, 4, 2, 3, 9, 7, 8, 14, 12, 13, 19, 17, 18, 28, 24, 22, 23, 27, 25, 26, 35, 33, 31, 32]⟩,
   ⟨some 100, .beq false .bool, [.t 96, .t 99], some (30, 93, true), [33, 31, 30, 29, 21, 20, 16, 15, 11, 10, 6, 5, 1, 0, 4, 2, 3, 9, 7, 8, 14, 12, 13, 19, 17, 18, 28, 24, 22, 23, 27, 25, 26, 32, 36, 34, 35]⟩,
   ⟨some 101, .pick, [.t 93, .t 100, .bool false], none, [30, 29, 21, 20, 16, 15, 11, 10, 6, 5, 1, 0, 4, 2, 3, 9, 7, 8, 14, 12, 13, 19, 17, 18, 28, 24, 22, 23, 27, 25, 26, 37, 33, 31, 32, 36, 34, 35]⟩,
   ⟨some 12, .mv, [.t 101], none, [38, 30, 29, 21, 20, 16, 15, 11, 10, 6, 5, 1, 0, 4, 2, 3, 9, 7, 8, 14, 12, 13, 19, 17, 18, 28, 24, 22, 23, 27, 25, 26, 37, 33, 31, 32, 36, 34, 35]⟩])
 .ret)))))))))))))⟩
/- 0=n 1=arcs 2=drives 3=d 4=to 5=p 9=d 11=p 12= 13=head 14=a 15=e 16=b 17=f 18=s 19=g 20=t 21=h -/
/-! tonneau/tonneaulaw45.OdoLess -/
def x4 : XF := ⟨176, [.tmp 8], [0, 1, 2, 3, 8, 9, 11, 12, 14, 15, 16, 17, 18, 20, 21, 22],
 (.seq (.reg false [
   ⟨some 8, .mv, [.bool false], none, []⟩])
 (.seq (.reg false [
   ⟨some 23, .call 8, [], none, []⟩,
   ⟨some 9, .mv, [.t 23], none, []⟩])
 (.seq (.seq (.reg false [
   ⟨some 24, .mv, [.t 0], none, []⟩,
   ⟨some 25, .mv, [.t 1], none, []⟩,
   ⟨some 26, .call 9, [.t 24, .t 25], none, []⟩,
   ⟨some 27, .not, [.t 26], none, []⟩,
   ⟨some 28, .mv, [.t 27], none, []⟩,
   ⟨some 29, .mv, [.t 2], some (4, 28, false), []⟩,
   ⟨some 30, .call 10, [.t 29], some (4, 28, false), []⟩,
   ⟨some 31, .not, [.t 30], some (4, 28, false), []⟩,
   ⟨some 32, .pick, [.t 28, .bool true, .t 31], none, []⟩,
   ⟨some 33, .mv, [.t 32], none, []⟩,
   ⟨some 34, .mv, [.t 2], some (9, 33, false), []⟩,
   ⟨some 35, .len false, [.t 34], some (9, 33, false), []⟩,
   ⟨some 36, .bin .eql, [.t 35, .int .i64 0], some (9, 33, false), []⟩,
   ⟨some 37, .pick, [.t 33, .bool true, .t 36], none, []⟩])
 (.cond (.t 37)
  (.seq (.reg false [
    ⟨some 38, .mv, [.t 9], none, []⟩,
    ⟨some 8, .mv, [.t 38], none, []⟩])
  .ret)
  .skip))
 (.clean (.seq (.reg false [
   ⟨some 40, .mv, [.t 0], none, []⟩,
   ⟨some 41, .mv, [.t 1], none, []⟩,
   ⟨some 42, .mv, [.t 2], none, []⟩,
   ⟨some 43, .call 11, [.t 40, .t 41, .t 42], none, []⟩,
   ⟨some 39, .mv, [.t 43], none, []⟩,
   ⟨some 44, .extract 0, [.t 39], none, []⟩,
   ⟨some 45, .extract 1, [.t 39], none, []⟩,
   ⟨some 10, .mv, [.t 44], none, []⟩,
   ⟨some 11, .mv, [.t 45], none, []⟩])
 (.clean (.seq (.seq (.reg false [
   ⟨some 46, .mv, [.t 11], none, []⟩,
   ⟨some 47, .bin .neq, [.t 46, .int .i64 0], none, []⟩])
 (.cond (.t 47)
  (.seq (.reg false [
    ⟨some 48, .mv, [.t 9], none, []⟩,
    ⟨some 8, .mv, [.t 48], none, []⟩])
  .ret)
  .skip))
 (.seq (.reg false [
   ⟨some 49, .mv, [.t 3], none, []⟩,
   ⟨some 50, .conv .i64, [.t 49], none, []⟩,
   ⟨some 51, .mv, [.t 2], none, []⟩,
   ⟨some 52, .len false, [.t 51], none, []⟩,
   ⟨some 53, .bin .rem, [.t 50, .t 52], none, []⟩,
   ⟨some 12, .mv, [.t 53], none, []⟩])
 (.clean (.seq (.reg false [
   ⟨some 55, .mv, [.t 0], none, []⟩,
   ⟨some 56, .mv, [.t 1], none, []⟩,
   ⟨some 57, .mv, [.t 2], none, []⟩,
   ⟨some 58, .mv, [.t 12], none, []⟩,
   ⟨some 59, .call 19, [.t 57, .t 58], none, []⟩,
   ⟨some 60, .call 11, [.t 55, .t 56, .t 59], none, []⟩,
   ⟨some 54, .mv, [.t 60], none, []⟩,
   ⟨some 61, .extract 0, [.t 54], none, []⟩,
   ⟨some 62, .extract 1, [.t 54], none, []⟩,
   ⟨some 13, .mv, [.t 61], none, []⟩,
   ⟨some 14, .mv, [.t 62], none, []⟩])
 (.clean (.seq (.seq (.reg false [
   ⟨some 63, .mv, [.t 14], none, []⟩,
   ⟨some 64, .bin .neq, [.t 63, .int .i64 0], none, []⟩])
 (.cond (.t 64)
  (.seq (.reg false [
    ⟨some 8, .mv, [.bool false], none, []⟩])
  .ret)
  .skip))
 (.seq (.reg false [
   ⟨some 65, .mv, [.t 2], none, []⟩,
   ⟨some 66, .len false, [.t 65], none, []⟩,
   ⟨some 67, .bin .sub, [.t 66, .int .i64 1], none, []⟩,
   ⟨some 15, .mv, [.t 67], none, []⟩])
 (.seq (.seq (.reg false [
   ⟨some 68, .mv, [.t 15], none, []⟩,
   ⟨some 69, .bin .eql, [.t 68, .int .i64 0], none, []⟩])
 (.cond (.t 69)
  (.seq (.reg false [
    ⟨some 70, .mv, [.t 9], none, []⟩,
    ⟨some 8, .mv, [.t 70], none, []⟩])
  .ret)
  .skip))
 (.seq (.reg true [
   ⟨some 72, .mv, [.t 0], none, []⟩,
   ⟨some 73, .mv, [.t 1], none, []⟩,
   ⟨some 74, .mv, [.t 2], none, []⟩,
   ⟨some 75, .mv, [.t 15], none, []⟩,
   ⟨some 76, .bin .sub, [.t 75, .int .i64 1], none, [3]⟩,
   ⟨some 77, .iaddr (.st (.cons (.int .i64) (.cons (.int .i64) (.int .i64)))), [.t 74, .t 76], none, [2, 4, 3]⟩,
   ⟨some 78, .load (.st (.cons (.int .i64) (.cons (.int .i64) (.int .i64)))), [.t 77], none, [5, 2, 4, 3]⟩,
   ⟨some 79, .mv, [.t 2], none, []⟩,
   ⟨some 80, .mv, [.t 15], none, []⟩,
   ⟨some 81, .iaddr (.st (.cons (.int .i64) (.cons (.int .i64) (.int .i64)))), [.t 79, .t 80], none, [7, 8]⟩,
   ⟨some 82, .faddr 1 (.int .i64), [.t 81], none, [9, 7, 8]⟩,
   ⟨some 83, .load (.int .i64), [.t 82], none, [10, 9, 7, 8]⟩,
   ⟨some 84, .call 13, [.t 72, .t 73, .t 78, .t 83], none, [0, 1, 6, 5, 2, 4, 3, 11, 10, 9, 7, 8]⟩,
   ⟨some 71, .mv, [.t 84], none, [12, 0, 1, 6, 5, 2, 4, 3, 11, 10, 9, 7, 8]⟩,
   ⟨some 85, .extract 0, [.t 71], none, [13, 12, 0, 1, 6, 5, 2, 4, 3, 11, 10, 9, 7, 8]⟩,
   ⟨some 86, .extract 1, [.t 71], none, [13, 12, 0, 1, 6, 5, 2, 4, 3, 11, 10, 9, 7, 8]⟩,
   ⟨some 16, .mv, [.t 85], none, [14, 13, 12, 0, 1, 6, 5, 2, 4, 3, 11, 10, 9, 7, 8]⟩,
   ⟨some 17, .mv, [.t 86], none, [15, 13, 12, 0, 1, 6, 5, 2, 4, 3, 11, 10, 9, 7, 8, 16, 14]⟩])
 (.clean (.seq (.seq (.reg false [
   ⟨some 87, .mv, [.t 17], none, []⟩,
   ⟨some 88, .bin .neq, [.t 87, .int .i64 0], none, []⟩,
   ⟨some 89, .mv, [.t 88], none, []⟩,
   ⟨some 90, .mv, [.t 16], some (2, 89, false), []⟩,
   ⟨some 91, .mv, [.t 2], some (2, 89, false), []⟩,
   ⟨some 92, .mv, [.t 15], some (2, 89, false), []⟩,
   ⟨some 93, .iaddr (.st (.cons (.int .i64) (.cons (.int .i64) (.int .i64)))), [.t 91, .t 92], some (2, 89, false), []⟩,
   ⟨some 94, .faddr 0 (.int .i64), [.t 93], some (2, 89, false), []⟩,
   ⟨some 95, .load (.int .i64), [.t 94], some (2, 89, false), []⟩,
   ⟨some 96, .bin .gtr, [.t 90, .t 95], some (2, 89, false), []⟩,
   ⟨some 97, .pick, [.t 89, .bool true, .t 96], none, []⟩,
   ⟨some 98, .mv, [.t 97], none, []⟩,
   ⟨some 99, .mv, [.t 16], some (11, 98, false), []⟩,
   ⟨some 100, .mv, [.t 2], some (11, 98, false), []⟩,
   ⟨some 101, .mv, [.t 15], some (11, 98, false), []⟩,
   ⟨some 102, .bin .sub, [.t 101, .int .i64 1], some (11, 98, false), []⟩,
   ⟨some 103, .iaddr (.st (.cons (.int .i64) (.cons (.int .i64) (.int .i64)))), [.t 100, .t 102], some (11, 98, false), []⟩,
   ⟨some 104, .faddr 0 (.int .i64), [.t 103], some (11, 98, false), []⟩,
   ⟨some 105, .load (.int .i64), [.t 104], some (11, 98, false), []⟩,
   ⟨some 106, .bin .lss, [.t 99, .t 105], some (11, 98, false), []⟩,
   ⟨some 107, .pick, [.t 98, .bool true, .t 106], none, []⟩])
 (.cond (.t 107)
  (.seq (.reg false [
    ⟨some 8, .mv, [.bool false], none, []⟩])
  .ret)
  .skip))
 (.clean (.seq (.reg false [
   ⟨some 108, .bslice 25 (.st (.cons (.int .i64) (.cons (.int .i64) (.int .i64)))) 0 [], [], none, []⟩,
   ⟨some 109, .mv, [.t 2], none, []⟩,
   ⟨some 110, .append 25 (.st (.cons (.int .i64) (.cons (.int .i64) (.int .i64)))) 24, [.t 108, .t 109], none, []⟩,
   ⟨some 18, .mv, [.t 110], none, []⟩])
 (.seq (.reg false [
   ⟨some 111, .mv, [.t 18], none, []⟩,
   ⟨some 112, .mv, [.t 15], none, []⟩,
   ⟨some 113, .mv, [.t 16], none, []⟩,
   ⟨some 114, .iaddr (.st (.cons (.int .i64) (.cons (.int .i64) (.int .i64)))), [.t 111, .t 112], none, []⟩,
   ⟨some 115, .faddr 0 (.int .i64), [.t 114], none, []⟩,
   ⟨none, .store (.int .i64), [.t 115, .t 113], none, []⟩])
 (.seq (.reg false [
   ⟨some 117, .mv, [.t 0], none, []⟩,
   ⟨some 118, .mv, [.t 1], none, []⟩,
   ⟨some 119, .mv, [.t 18], none, []⟩,
   ⟨some 120, .call 11, [.t 117, .t 118, .t 119], none, []⟩,
   ⟨some 116, .mv, [.t 120], none, []⟩,
   ⟨some 121, .extract 0, [.t 116], none, []⟩,
   ⟨some 122, .extract 1, [.t 116], none, []⟩,
   ⟨some 19, .mv, [.t 121], none, []⟩,
   ⟨some 20, .mv, [.t 122], none, []⟩])
 (.clean (.seq (.reg false [
   ⟨some 123, .mv, [.t 18], none, []⟩,
   ⟨some 124, .mv, [.t 15], none, []⟩,
   ⟨some 125, .mv, [.t 16], none, []⟩,
   ⟨some 126, .bin .sub, [.t 125, .int .i64 1], none, []⟩,
   ⟨some 127, .iaddr (.st (.cons (.int .i64) (.cons (.int .i64) (.int .i64)))), [.t 123, .t 124], none, []⟩,
   ⟨some 128, .faddr 0 (.int .i64), [.t 127], none, []⟩,
   ⟨none, .store (.int .i64), [.t 128, .t 126], none, []⟩])
 (.clean (.seq (.reg false [
   ⟨some 130, .mv, [.t 0], none, []⟩,
   ⟨some 131, .mv, [.t 1], none, []⟩,
   ⟨some 132, .mv, [.t 18], none, []⟩,
   ⟨some 133, .call 11, [.t 130, .t 131, .t 132], none, []⟩,
   ⟨some 129, .mv, [.t 133], none, []⟩,
   ⟨some 134, .extract 0, [.t 129], none, []⟩,
   ⟨some 135, .extract 1, [.t 129], none, []⟩,
   ⟨some 21, .mv, [.t 134], none, []⟩,
   ⟨some 22, .mv, [.t 135], none, []⟩])
 (.clean (.seq (.reg false [
   ⟨some 136, .mv, [.t 9], none, []⟩,
   ⟨some 137, .mv, [.t 136], none, []⟩,
   ⟨some 138, .mv, [.t 20], some (1, 137, true), []⟩,
   ⟨some 139, .bin .eql, [.t 138, .int .i64 0], some (1, 137, true), []⟩,
   ⟨some 140, .pick, [.t 137, .t 139, .bool false], none, []⟩,
   ⟨some 141, .mv, [.t 140], none, []⟩,
   ⟨some 142, .mv, [.t 16], some (5, 141, true), []⟩,
   ⟨some 143, .bin .sub, [.t 142, .int .i64 1], some (5, 141, true), []⟩,
   ⟨some 144, .mv, [.t 2], some (5, 141, true), []⟩,
   ⟨some 145, .mv, [.t 15], some (5, 141, true), []⟩,
   ⟨some 146, .bin .sub, [.t 145, .int .i64 1], some (5, 141, true), []⟩,
   ⟨some 147, .iaddr (.st (.cons (.int .i64) (.cons (.int .i64) (.int .i64)))), [.t 144, .t 146], some (5, 141, true), []⟩,
   ⟨some 148, .faddr 0 (.int .i64), [.t 147], some (5, 141, true), []⟩,
   ⟨some 149, .load (.int .i64), [.t 148], some (5, 141, true), []⟩,
   ⟨some 150, .bin .lss, [.t 143, .t 149], some (5, 141, true), []⟩,
   ⟨some 151, .mv, [.t 150], some (5, 141, true), []⟩,
   ⟨some 152, .mv, [.t 22], some (15, 151, true), []⟩,
   ⟨some 153, .bin .eql, [.t 152, .int .i64 1], some (15, 151, true), []⟩,
   ⟨some 154, .pick, [.t 151, .t 153, .bool false], some (5, 141, true), []⟩,
   ⟨some 155, .mv, [.t 154], some (5, 141, true), []⟩,
   ⟨some 156, .mv, [.t 16], some (19, 155, false), []⟩,
   ⟨some 157, .bin .sub, [.t 156, .int .i64 1], some (19, 155, false), []⟩,
   ⟨some 158, .mv, [.t 2], some (19, 155, false), []⟩,
   ⟨some 159, .mv, [.t 15], some (19, 155, false), []⟩,
   ⟨some 160, .bin .sub, [.t 159, .int .i64 1], some (19, 155, false), []⟩,
   ⟨some 161, .iaddr (.st (.cons (.int .i64) (.cons (.int .i64) (.int .i64)))), [.t 158, .t 160], some (19, 155, false), []⟩,
   ⟨some 162, .faddr 0 (.int .i64), [.t 161], some (19, 155, false), []⟩,
   ⟨some 163, .load (.int .i64), [.t 162], some (19, 155, false), []⟩,
   ⟨some 164, .bin .geq, [.t 157, .t 163], some (19, 155, false), []⟩,
   ⟨some 165, .mv, [.t 164], some (19, 155, false), []⟩,
   ⟨some 166, .mv, [.t 22], some (29, 165, true), []⟩,
   ⟨some 167, .bin .eql, [.t 166, .int .i64 19], some (29, 165, true), []⟩,
   ⟨some 168, .pick, [.t 165, .t 167, .bool false], some (19, 155, false), []⟩,
   ⟨some 169, .mv, [.t 168], some (19, 155, false), []⟩,
   ⟨some 170, .mv, [.t 21], some (33, 169, true), []⟩,
   ⟨some 171, .mv, [.t 15], some (33, 169, true), []⟩,
   ⟨some 172, .bin .eql, [.t 170, .t 171], some (33, 169, true), []⟩,
   ⟨some 173, .pick, [.t 169, .t 172, .bool false], some (19, 155, false), []⟩,
   ⟨some 174, .pick, [.t 155, .bool true, .t 173], some (5, 141, true), []⟩,
   ⟨some 175, .pick, [.t 141, .t 174, .bool false], none, []⟩,
   ⟨some 8, .mv, [.t 175], none, []⟩])
 .ret)))))))))))))))))))))))))))⟩
/- 0=n 1=arcs 2=drives 3=which 8= 9=head 11=e 12=k 14=f 15=m 16=t 17=g 18=soon 20=h 21=i 22=j -/
/-! tonneau/tonneaulaw45.OdoKept -/
def x5_0 : XC := (.seq (.seq (.reg false [
   ⟨some 124, .mv, [.t 18], none, []⟩,
   ⟨some 125, .mv, [.t 17], none, []⟩,
   ⟨some 126, .len false, [.t 125], none, []⟩,
   ⟨some 127, .bin .lss, [.t 124, .t 126], none, []⟩])
 (.cond (.t 127)
  .skip
  (.exit 0)))
 (.seq (.block 1 (.seq (.reg false [
    ⟨some 130, .mv, [.t 13], none, []⟩,
    ⟨some 131, .mv, [.t 130], none, []⟩,
    ⟨some 132, .mv, [.t 17], some (1, 131, true), []⟩,
    ⟨some 133, .mv, [.t 18], some (1, 131, true), []⟩,
    ⟨some 134, .iaddr (.st (.cons (.int .i64) (.cons (.int .i64) (.cons (.int .i64) (.cons (.int .i64) (.cons (.int .i64) (.cons (.int .i64) (.cons (.int .i64) (.cons (.int .i64) (.cons (.int .i64) (.int .i64))))))))))), [.t 132, .t 133], some (1, 131, true), []⟩,
    ⟨some 135, .load (.st (.cons (.int .i64) (.cons (.int .i64) (.cons (.int .i64) (.cons (.int .i64) (.cons (.int .i64) (.cons (.int .i64) (.cons (.int .i64) (.cons (.int .i64) (.cons (.int .i64) (.int .i64))))))))))), [.t 134], some (1, 131, true), []⟩,
    ⟨some 136, .build (.st (.cons (.st (.cons (.int .i64) (.cons (.int .i64) (.cons (.int .i64) (.cons (.int .i64) (.cons (.int .i64) (.cons (.int .i64) (.cons (.int .i64) (.cons (.int .i64) (.cons (.int .i64) (.int .i64))))))))))) (.cons (.int .i64) (.cons (.int .i64) (.cons (.int .i64) (.cons (.int .i64) (.int .i64))))))) [(0, (.st (.cons (.int .i64) (.cons (.int .i64) (.cons (.int .i64) (.cons (.int .i64) (.cons (.int .i64) (.cons (.int .i64) (.cons (.int .i64) (.cons (.int .i64) (.cons (.int .i64) (.int .i64))))))))))))], [.t 135], some (1, 131, true), []⟩,
    ⟨some 137, .mv, [.t 0], some (1, 131, true), []⟩,
    ⟨some 138, .call 17, [.t 136, .t 137], some (1, 131, true), []⟩,
    ⟨some 139, .not, [.t 138], some (1, 131, true), []⟩,
    ⟨some 140, .pick, [.t 131, .t 139, .bool false], none, []⟩])
  (.cond (.t 140)
   (.seq (.reg false [
     ⟨some 10, .mv, [.bool false], none, []⟩])
   .ret)
   .skip)))
 (.clean (.reg false [
   ⟨some 128, .mv, [.t 18], none, []⟩,
   ⟨some 129, .bin .add, [.t 128, .int .i64 1], none, []⟩,
   ⟨some 18, .mv, [.t 129], none, []⟩]))))
def x5_0d : List Nat := [10, 18]
def x5 : XF := ⟨142, [.tmp 10], [0, 1, 2, 3, 4, 6, 7, 10, 11, 12, 13, 14, 15, 16, 17, 18],
 (.seq (.reg false [
   ⟨some 6, .box 25, [.t 1], none, []⟩,
   ⟨some 7, .box 29, [.t 2], none, []⟩,
   ⟨some 10, .mv, [.bool false], none, []⟩])
 (.seq (.reg false [
   ⟨some 19, .call 8, [], none, []⟩,
   ⟨some 11, .mv, [.t 19], none, []⟩])
 (.seq (.seq (.reg false [
   ⟨some 20, .mv, [.t 0], none, []⟩,
   ⟨some 21, .call 10, [.t 20], none, []⟩,
   ⟨some 22, .not, [.t 21], none, []⟩,
   ⟨some 23, .mv, [.t 22], none, []⟩,
   ⟨some 24, .load (.st (.cons (.int .i64) (.cons (.int .i64) (.int .i64)))), [.t 6], some (3, 23, false), []⟩,
   ⟨some 25, .bslice 25 (.st (.cons (.int .i64) (.cons (.int .i64) (.int .i64)))) 1 [0], [.t 24], some (3, 23, false), []⟩,
   ⟨some 26, .call 10, [.t 25], some (3, 23, false), []⟩,
   ⟨some 27, .not, [.t 26], some (3, 23, false), []⟩,
   ⟨some 28, .pick, [.t 23, .bool true, .t 27], none, []⟩,
   ⟨some 29, .mv, [.t 28], none, []⟩,
   ⟨some 30, .mv, [.t 0], some (9, 29, false), []⟩,
   ⟨some 31, .len false, [.t 30], some (9, 29, false), []⟩,
   ⟨some 32, .bin .gtr, [.t 31, .int .i64 9], some (9, 29, false), []⟩,
   ⟨some 33, .pick, [.t 29, .bool true, .t 32], none, []⟩])
 (.cond (.t 33)
  (.seq (.reg false [
    ⟨some 34, .mv, [.t 11], none, []⟩,
    ⟨some 10, .mv, [.t 34], none, []⟩])
  .ret)
  .skip))
 (.clean (.seq (.reg false [
   ⟨some 35, .faddr 0 (.st (.cons (.int .i64) (.cons (.int .i64) (.cons (.int .i64) (.cons (.int .i64) (.cons (.int .i64) (.cons (.int .i64) (.cons (.int .i64) (.cons (.int .i64) (.cons (.int .i64) (.int .i64))))))))))), [.t 7], none, []⟩,
   ⟨some 36, .load (.st (.cons (.int .i64) (.cons (.int .i64) (.cons (.int .i64) (.cons (.int .i64) (.cons (.int .i64) (.cons (.int .i64) (.cons (.int .i64) (.cons (.int .i64) (.cons (.int .i64) (.int .i64))))))))))), [.t 35], none, []⟩,
   ⟨some 12, .alloc 27 (.st (.cons (.int .i64) (.cons (.int .i64) (.cons (.int .i64) (.cons (.int .i64) (.cons (.int .i64) (.cons (.int .i64) (.cons (.int .i64) (.cons (.int .i64) (.cons (.int .i64) (.int .i64))))))))))), [], none, []⟩,
   ⟨none, .store (.st (.cons (.int .i64) (.cons (.int .i64) (.cons (.int .i64) (.cons (.int .i64) (.cons (.int .i64) (.cons (.int .i64) (.cons (.int .i64) (.cons (.int .i64) (.cons (.int .i64) (.int .i64))))))))))), [.t 12, .t 36], none, []⟩])
 (.seq (.seq (.reg false [
   ⟨some 37, .faddr 3 (.int .i64), [.t 12], none, []⟩,
   ⟨some 38, .load (.int .i64), [.t 37], none, []⟩,
   ⟨some 39, .bin .lss, [.t 38, .int .i64 (-1099511627776)], none, []⟩,
   ⟨some 40, .mv, [.t 39], none, []⟩,
   ⟨some 41, .faddr 4 (.int .i64), [.t 12], some (3, 40, false), []⟩,
   ⟨some 42, .load (.int .i64), [.t 41], some (3, 40, false), []⟩,
   ⟨some 43, .bin .gtr, [.t 42, .int .i64 1099511627776], some (3, 40, false), []⟩,
   ⟨some 44, .pick, [.t 40, .bool true, .t 43], none, []⟩,
   ⟨some 45, .mv, [.t 44], none, []⟩,
   ⟨some 46, .faddr 5 (.int .i64), [.t 12], some (8, 45, false), []⟩,
   ⟨some 47, .load (.int .i64), [.t 46], some (8, 45, false), []⟩,
   ⟨some 48, .bin .gtr, [.t 47, .int .i64 1099511627776], some (8, 45, false), []⟩,
   ⟨some 49, .pick, [.t 45, .bool true, .t 48], none, []⟩,
   ⟨some 50, .mv, [.t 49], none, []⟩,
   ⟨some 51, .faddr 6 (.int .i64), [.t 12], some (13, 50, false), []⟩,
   ⟨some 52, .load (.int .i64), [.t 51], some (13, 50, false), []⟩,
   ⟨some 53, .bin .gtr, [.t 52, .int .i64 1099511627776], some (13, 50, false), []⟩,
   ⟨some 54, .pick, [.t 50, .bool true, .t 53], none, []⟩])
 (.cond (.t 54)
  (.seq (.reg false [
    ⟨some 55, .mv, [.t 11], none, []⟩,
    ⟨some 10, .mv, [.t 55], none, []⟩])
  .ret)
  .skip))
 (.clean (.seq (.reg false [
   ⟨some 56, .load (.st (.cons (.st (.cons (.int .i64) (.cons (.int .i64) (.cons (.int .i64) (.cons (.int .i64) (.cons (.int .i64) (.cons (.int .i64) (.cons (.int .i64) (.cons (.int .i64) (.cons (.int .i64) (.int .i64))))))))))) (.cons (.int .i64) (.cons (.int .i64) (.cons (.int .i64) (.cons (.int .i64) (.int .i64))))))), [.t 7], none, []⟩,
   ⟨some 57, .mv, [.t 0], none, []⟩,
   ⟨some 58, .call 17, [.t 56, .t 57], none, []⟩,
   ⟨some 13, .mv, [.t 58], none, []⟩])
 (.seq (.reg false [
   ⟨some 59, .mv, [.t 3], none, []⟩,
   ⟨some 60, .conv .i64, [.t 59], none, []⟩,
   ⟨some 61, .mv, [.t 0], none, []⟩,
   ⟨some 62, .len false, [.t 61], none, []⟩,
   ⟨some 63, .bin .add, [.t 62, .int .i64 1], none, []⟩,
   ⟨some 64, .bin .rem, [.t 60, .t 63], none, []⟩,
   ⟨some 14, .mv, [.t 64], none, []⟩])
 (.clean (.seq (.reg true [
   ⟨some 65, .bslice 25 (.st (.cons (.int .i64) (.cons (.int .i64) (.int .i64)))) 0 [], [], none, []⟩,
   ⟨some 66, .mv, [.t 0], none, []⟩,
   ⟨some 67, .mv, [.t 14], none, []⟩,
   ⟨some 68, .slice (.st (.cons (.int .i64) (.cons (.int .i64) (.int .i64)))) false true false, [.t 66, .t 67], none, [1, 2]⟩,
   ⟨some 69, .append 25 (.st (.cons (.int .i64) (.cons (.int .i64) (.int .i64)))) 24, [.t 65, .t 68], none, [0, 3, 1, 2]⟩,
   ⟨some 70, .load (.st (.cons (.int .i64) (.cons (.int .i64) (.int .i64)))), [.t 6], none, []⟩,
   ⟨some 71, .bslice 25 (.st (.cons (.int .i64) (.cons (.int .i64) (.int .i64)))) 1 [0], [.t 70], none, [5]⟩,
   ⟨some 72, .append 25 (.st (.cons (.int .i64) (.cons (.int .i64) (.int .i64)))) 24, [.t 69, .t 71], none, [4, 0, 3, 1, 2, 6, 5]⟩,
   ⟨some 73, .mv, [.t 0], none, []⟩,
   ⟨some 74, .mv, [.t 14], none, []⟩,
   ⟨some 75, .slice (.st (.cons (.int .i64) (.cons (.int .i64) (.int .i64)))) true false false, [.t 73, .t 74], none, [8, 9]⟩,
   ⟨some 76, .append 25 (.st (.cons (.int .i64) (.cons (.int .i64) (.int .i64)))) 24, [.t 72, .t 75], none, [7, 4, 0, 3, 1, 2, 6, 5, 10, 8, 9]⟩,
   ⟨some 15, .mv, [.t 76], none, [11, 7, 4, 0, 3, 1, 2, 6, 5, 10, 8, 9]⟩])
 (.clean (.seq (.seq (.reg false [
   ⟨some 77, .mv, [.t 13], none, []⟩,
   ⟨some 78, .mv, [.t 77], none, []⟩,
   ⟨some 79, .load (.st (.cons (.st (.cons (.int .i64) (.cons (.int .i64) (.cons (.int .i64) (.cons (.int .i64) (.cons (.int .i64) (.cons (.int .i64) (.cons (.int .i64) (.cons (.int .i64) (.cons (.int .i64) (.int .i64))))))))))) (.cons (.int .i64) (.cons (.int .i64) (.cons (.int .i64) (.cons (.int .i64) (.int .i64))))))), [.t 7], some (1, 78, true), []⟩,
   ⟨some 80, .mv, [.t 15], some (1, 78, true), []⟩,
   ⟨some 81, .call 17, [.t 79, .t 80], some (1, 78, true), []⟩,
   ⟨some 82, .not, [.t 81], some (1, 78, true), []⟩,
   ⟨some 83, .pick, [.t 78, .t 82, .bool false], none, []⟩,
   ⟨some 84, .mv, [.t 83], none, []⟩,
   ⟨some 85, .load (.st (.cons (.st (.cons (.int .i64) (.cons (.int .i64) (.cons (.int .i64) (.cons (.int .i64) (.cons (.int .i64) (.cons (.int .i64) (.cons (.int .i64) (.cons (.int .i64) (.cons (.int .i64) (.int .i64))))))))))) (.cons (.int .i64) (.cons (.int .i64) (.cons (.int .i64) (.cons (.int .i64) (.int .i64))))))), [.t 7], some (7, 84, false), []⟩,
   ⟨some 86, .call 17, [.t 85, .nil], some (7, 84, false), []⟩,
   ⟨some 87, .pick, [.t 84, .bool true, .t 86], none, []⟩])
 (.cond (.t 87)
  (.seq (.reg false [
    ⟨some 10, .mv, [.bool false], none, []⟩])
  .ret)
  .skip))
 (.clean (.seq (.reg false [
   ⟨some 88, .mv, [.t 4], none, []⟩,
   ⟨some 89, .conv .i64, [.t 88], none, []⟩,
   ⟨some 90, .bin .rem, [.t 89, .int .i64 200], none, []⟩,
   ⟨some 16, .mv, [.t 90], none, []⟩])
 (.seq (.reg false [
   ⟨some 91, .load (.st (.cons (.int .i64) (.cons (.int .i64) (.cons (.int .i64) (.cons (.int .i64) (.cons (.int .i64) (.cons (.int .i64) (.cons (.int .i64) (.cons (.int .i64) (.cons (.int .i64) (.int .i64))))))))))), [.t 12], none, []⟩,
   ⟨some 92, .load (.st (.cons (.int .i64) (.cons (.int .i64) (.cons (.int .i64) (.cons (.int .i64) (.cons (.int .i64) (.cons (.int .i64) (.cons (.int .i64) (.cons (.int .i64) (.cons (.int .i64) (.int .i64))))))))))), [.t 12], none, []⟩,
   ⟨some 93, .load (.st (.cons (.int .i64) (.cons (.int .i64) (.cons (.int .i64) (.cons (.int .i64) (.cons (.int .i64) (.cons (.int .i64) (.cons (.int .i64) (.cons (.int .i64) (.cons (.int .i64) (.int .i64))))))))))), [.t 12], none, []⟩,
   ⟨some 94, .load (.st (.cons (.int .i64) (.cons (.int .i64) (.cons (.int .i64) (.cons (.int .i64) (.cons (.int .i64) (.cons (.int .i64) (.cons (.int .i64) (.cons (.int .i64) (.cons (.int .i64) (.int .i64))))))))))), [.t 12], none, []⟩,
   ⟨some 95, .bslice 27 (.st (.cons (.int .i64) (.cons (.int .i64) (.cons (.int .i64) (.cons (.int .i64) (.cons (.int .i64) (.cons (.int .i64) (.cons (.int .i64) (.cons (.int .i64) (.cons (.int .i64) (.int .i64))))))))))) 4 [0, 1, 2, 3], [.t 91, .t 92, .t 93, .t 94], none, []⟩,
   ⟨some 17, .mv, [.t 95], none, []⟩])
 (.clean (.seq (.reg false [
   ⟨some 96, .mv, [.t 17], none, []⟩,
   ⟨some 97, .faddr 3 (.int .i64), [.t 12], none, []⟩,
   ⟨some 98, .load (.int .i64), [.t 97], none, []⟩,
   ⟨some 99, .mv, [.t 16], none, []⟩,
   ⟨some 100, .bin .sub, [.t 98, .t 99], none, []⟩,
   ⟨some 101, .iaddr (.st (.cons (.int .i64) (.cons (.int .i64) (.cons (.int .i64) (.cons (.int .i64) (.cons (.int .i64) (.cons (.int .i64) (.cons (.int .i64) (.cons (.int .i64) (.cons (.int .i64) (.int .i64))))))))))), [.t 96, .int .i64 0], none, []⟩,
   ⟨some 102, .faddr 3 (.int .i64), [.t 101], none, []⟩,
   ⟨none, .store (.int .i64), [.t 102, .t 100], none, []⟩])
 (.clean (.seq (.reg false [
   ⟨some 103, .mv, [.t 17], none, []⟩,
   ⟨some 104, .faddr 4 (.int .i64), [.t 12], none, []⟩,
   ⟨some 105, .load (.int .i64), [.t 104], none, []⟩,
   ⟨some 106, .mv, [.t 16], none, []⟩,
   ⟨some 107, .bin .add, [.t 105, .t 106], none, []⟩,
   ⟨some 108, .iaddr (.st (.cons (.int .i64) (.cons (.int .i64) (.cons (.int .i64) (.cons (.int .i64) (.cons (.int .i64) (.cons (.int .i64) (.cons (.int .i64) (.cons (.int .i64) (.cons (.int .i64) (.int .i64))))))))))), [.t 103, .int .i64 1], none, []⟩,
   ⟨some 109, .faddr 4 (.int .i64), [.t 108], none, []⟩,
   ⟨none, .store (.int .i64), [.t 109, .t 107], none, []⟩])
 (.clean (.seq (.reg false [
   ⟨some 110, .mv, [.t 17], none, []⟩,
   ⟨some 111, .faddr 5 (.int .i64), [.t 12], none, []⟩,
   ⟨some 112, .load (.int .i64), [.t 111], none, []⟩,
   ⟨some 113, .mv, [.t 16], none, []⟩,
   ⟨some 114, .bin .add, [.t 112, .t 113], none, []⟩,
   ⟨some 115, .iaddr (.st (.cons (.int .i64) (.cons (.int .i64) (.cons (.int .i64) (.cons (.int .i64) (.cons (.int .i64) (.cons (.int .i64) (.cons (.int .i64) (.cons (.int .i64) (.cons (.int .i64) (.int .i64))))))))))), [.t 110, .int .i64 2], none, []⟩,
   ⟨some 116, .faddr 5 (.int .i64), [.t 115], none, []⟩,
   ⟨none, .store (.int .i64), [.t 116, .t 114], none, []⟩])
 (.clean (.seq (.reg false [
   ⟨some 117, .mv, [.t 17], none, []⟩,
   ⟨some 118, .faddr 6 (.int .i64), [.t 12], none, []⟩,
   ⟨some 119, .load (.int .i64), [.t 118], none, []⟩,
   ⟨some 120, .mv, [.t 16], none, []⟩,
   ⟨some 121, .bin .add, [.t 119, .t 120], none, []⟩,
   ⟨some 122, .iaddr (.st (.cons (.int .i64) (.cons (.int .i64) (.cons (.int .i64) (.cons (.int .i64) (.cons (.int .i64) (.cons (.int .i64) (.cons (.int .i64) (.cons (.int .i64) (.cons (.int .i64) (.int .i64))))))))))), [.t 117, .int .i64 3], none, []⟩,
   ⟨some 123, .faddr 6 (.int .i64), [.t 122], none, []⟩,
   ⟨none, .store (.int .i64), [.t 123, .t 121], none, []⟩])
 (.clean (.seq (.seq (.reg false [
   ⟨some 18, .mv, [.int .i64 0], none, []⟩])
 (.block 0 (.loop x5_0)))
 (.seq (.reg false [
   ⟨some 141, .mv, [.t 11], none, []⟩,
   ⟨some 10, .mv, [.t 141], none, []⟩])
 .ret)))))))))))))))))))))))))))⟩
/- 0=drives 1=more 2=p 3=where 4=by 6=more 7=p 10= 11=head 12=q 13=kept 14=k 15=all 16=n 17=wide 18=i -/
/-! tonneau/tonneaulaw45.OdoLater -/
def x6 : XF := ⟨92, [.tmp 10], [0, 1, 2, 3, 4, 7, 10, 11, 12, 13, 14, 15, 16],
 (.seq (.reg false [
   ⟨some 7, .box 25, [.t 2], none, []⟩,
   ⟨some 10, .mv, [.bool false], none, []⟩])
 (.seq (.reg false [
   ⟨some 17, .call 8, [], none, []⟩,
   ⟨some 11, .mv, [.t 17], none, []⟩])
 (.seq (.seq (.reg false [
   ⟨some 18, .mv, [.t 0], none, []⟩,
   ⟨some 19, .mv, [.t 1], none, []⟩,
   ⟨some 20, .call 9, [.t 18, .t 19], none, []⟩,
   ⟨some 21, .not, [.t 20], none, []⟩,
   ⟨some 22, .mv, [.t 21], none, []⟩,
   ⟨some 23, .faddr 0 (.int .i64), [.t 7], some (4, 22, false), []⟩,
   ⟨some 24, .load (.int .i64), [.t 23], some (4, 22, false), []⟩,
   ⟨some 25, .bin .lss, [.t 24, .int .i64 0], some (4, 22, false), []⟩,
   ⟨some 26, .pick, [.t 22, .bool true, .t 25], none, []⟩,
   ⟨some 27, .mv, [.t 26], none, []⟩,
   ⟨some 28, .faddr 0 (.int .i64), [.t 7], some (9, 27, false), []⟩,
   ⟨some 29, .load (.int .i64), [.t 28], some (9, 27, false), []⟩,
   ⟨some 30, .bin .gtr, [.t 29, .int .i64 100000], some (9, 27, false), []⟩,
   ⟨some 31, .pick, [.t 27, .bool true, .t 30], none, []⟩])
 (.cond (.t 31)
  (.seq (.reg false [
    ⟨some 32, .mv, [.t 11], none, []⟩,
    ⟨some 10, .mv, [.t 32], none, []⟩])
  .ret)
  .skip))
 (.clean (.seq (.reg false [
   ⟨some 34, .mv, [.t 0], none, []⟩,
   ⟨some 35, .mv, [.t 1], none, []⟩,
   ⟨some 36, .load (.st (.cons (.int .i64) (.cons (.int .i64) (.int .i64)))), [.t 7], none, []⟩,
   ⟨some 37, .mv, [.t 3], none, []⟩,
   ⟨some 38, .call 13, [.t 34, .t 35, .t 36, .t 37], none, []⟩,
   ⟨some 33, .mv, [.t 38], none, []⟩,
   ⟨some 39, .extract 0, [.t 33], none, []⟩,
   ⟨some 40, .extract 1, [.t 33], none, []⟩,
   ⟨some 12, .mv, [.t 39], none, []⟩,
   ⟨some 13, .mv, [.t 40], none, []⟩])
 (.clean (.seq (.reg false [
   ⟨some 41, .load (.st (.cons (.int .i64) (.cons (.int .i64) (.int .i64)))), [.t 7], none, []⟩,
   ⟨some 14, .alloc 25 (.st (.cons (.int .i64) (.cons (.int .i64) (.int .i64)))), [], none, []⟩,
   ⟨none, .store (.st (.cons (.int .i64) (.cons (.int .i64) (.int .i64)))), [.t 14, .t 41], none, []⟩])
 (.seq (.reg false [
   ⟨some 42, .faddr 0 (.int .i64), [.t 7], none, []⟩,
   ⟨some 43, .load (.int .i64), [.t 42], none, []⟩,
   ⟨some 44, .mv, [.t 4], none, []⟩,
   ⟨some 45, .conv .i64, [.t 44], none, []⟩,
   ⟨some 46, .bin .add, [.t 43, .t 45], none, []⟩,
   ⟨some 47, .faddr 0 (.int .i64), [.t 14], none, []⟩,
   ⟨none, .store (.int .i64), [.t 47, .t 46], none, []⟩])
 (.clean (.seq (.reg false [
   ⟨some 49, .mv, [.t 0], none, []⟩,
   ⟨some 50, .mv, [.t 1], none, []⟩,
   ⟨some 51, .load (.st (.cons (.int .i64) (.cons (.int .i64) (.int .i64)))), [.t 14], none, []⟩,
   ⟨some 52, .mv, [.t 3], none, []⟩,
   ⟨some 53, .call 13, [.t 49, .t 50, .t 51, .t 52], none, []⟩,
   ⟨some 48, .mv, [.t 53], none, []⟩,
   ⟨some 54, .extract 0, [.t 48], none, []⟩,
   ⟨some 55, .extract 1, [.t 48], none, []⟩,
   ⟨some 15, .mv, [.t 54], none, []⟩,
   ⟨some 16, .mv, [.t 55], none, []⟩])
 (.clean (.seq (.seq (.reg false [
   ⟨some 56, .mv, [.t 13], none, []⟩,
   ⟨some 57, .mv, [.t 16], none, []⟩,
   ⟨some 58, .bin .neq, [.t 56, .t 57], none, []⟩])
 (.cond (.t 58)
  (.seq (.reg false [
    ⟨some 10, .mv, [.bool false], none, []⟩])
  .ret)
  .skip))
 (.seq (.seq (.reg false [
   ⟨some 59, .mv, [.t 13], none, []⟩,
   ⟨some 60, .bin .neq, [.t 59, .int .i64 0], none, []⟩])
 (.cond (.t 60)
  (.seq (.reg false [
    ⟨some 61, .mv, [.t 11], none, []⟩,
    ⟨some 10, .mv, [.t 61], none, []⟩])
  .ret)
  .skip))
 (.seq (.reg false [
   ⟨some 62, .mv, [.t 11], none, []⟩,
   ⟨some 63, .mv, [.t 62], none, []⟩,
   ⟨some 64, .mv, [.t 12], some (1, 63, true), []⟩,
   ⟨some 65, .faddr 0 (.int .i64), [.t 7], some (1, 63, true), []⟩,
   ⟨some 66, .load (.int .i64), [.t 65], some (1, 63, true), []⟩,
   ⟨some 67, .bin .geq, [.t 64, .t 66], some (1, 63, true), []⟩,
   ⟨some 68, .pick, [.t 63, .t 67, .bool false], none, []⟩,
   ⟨some 69, .mv, [.t 68], none, []⟩,
   ⟨some 70, .mv, [.t 15], some (7, 69, true), []⟩,
   ⟨some 71, .mv, [.t 12], some (7, 69, true), []⟩,
   ⟨some 72, .bin .geq, [.t 70, .t 71], some (7, 69, true), []⟩,
   ⟨some 73, .pick, [.t 69, .t 72, .bool false], none, []⟩,
   ⟨some 74, .mv, [.t 73], none, []⟩,
   ⟨some 75, .mv, [.t 15], some (12, 74, true), []⟩,
   ⟨some 76, .faddr 0 (.int .i64), [.t 14], some (12, 74, true), []⟩,
   ⟨some 77, .load (.int .i64), [.t 76], some (12, 74, true), []⟩,
   ⟨some 78, .bin .geq, [.t 75, .t 77], some (12, 74, true), []⟩,
   ⟨some 79, .pick, [.t 74, .t 78, .bool false], none, []⟩,
   ⟨some 80, .mv, [.t 79], none, []⟩,
   ⟨some 81, .mv, [.t 3], some (18, 80, true), []⟩,
   ⟨some 82, .faddr 1 (.int .i64), [.t 7], some (18, 80, true), []⟩,
   ⟨some 83, .load (.int .i64), [.t 82], some (18, 80, true), []⟩,
   ⟨some 84, .bin .neq, [.t 81, .t 83], some (18, 80, true), []⟩,
   ⟨some 85, .mv, [.t 84], some (18, 80, true), []⟩,
   ⟨some 86, .mv, [.t 12], some (23, 85, false), []⟩,
   ⟨some 87, .faddr 0 (.int .i64), [.t 7], some (23, 85, false), []⟩,
   ⟨some 88, .load (.int .i64), [.t 87], some (23, 85, false), []⟩,
   ⟨some 89, .bin .eql, [.t 86, .t 88], some (23, 85, false), []⟩,
   ⟨some 90, .pick, [.t 85, .bool true, .t 89], some (18, 80, true), []⟩,
   ⟨some 91, .pick, [.t 80, .t 90, .bool false], none, []⟩,
   ⟨some 10, .mv, [.t 91], none, []⟩])
 .ret))))))))))))))⟩
/- 0=n 1=arcs 2=d 3=to 4=by 7=d 10= 11=head 12=s 13=e 14=late 15=t 16=f -/
/-! tonneau/tonneaulaw45.OdoGoes -/
def x7_0 : XC := (.seq (.seq (.reg false [
   ⟨some 55, .mv, [.t 19], none, []⟩,
   ⟨some 56, .mv, [.t 16], none, []⟩,
   ⟨some 57, .len false, [.t 56], none, []⟩,
   ⟨some 58, .bin .lss, [.t 55, .t 57], none, []⟩,
   ⟨some 59, .mv, [.t 58], none, []⟩,
   ⟨some 60, .mv, [.t 19], some (4, 59, true), []⟩,
   ⟨some 61, .bin .lss, [.t 60, .int .i64 10], some (4, 59, true), []⟩,
   ⟨some 62, .pick, [.t 59, .t 61, .bool false], none, []⟩])
 (.cond (.t 62)
  .skip
  (.exit 0)))
 (.clean (.seq (.block 1 (.seq (.seq (.reg false [
    ⟨some 65, .mv, [.t 16], none, []⟩,
    ⟨some 66, .mv, [.t 19], none, []⟩,
    ⟨some 67, .iaddr (.int .i64), [.t 65, .t 66], none, []⟩,
    ⟨some 68, .load (.int .i64), [.t 67], none, []⟩,
    ⟨some 69, .bin .lss, [.t 68, .int .i64 0], none, []⟩,
    ⟨some 70, .mv, [.t 69], none, []⟩,
    ⟨some 71, .mv, [.t 16], some (5, 70, false), []⟩,
    ⟨some 72, .mv, [.t 19], some (5, 70, false), []⟩,
    ⟨some 73, .iaddr (.int .i64), [.t 71, .t 72], some (5, 70, false), []⟩,
    ⟨some 74, .load (.int .i64), [.t 73], some (5, 70, false), []⟩,
    ⟨some 75, .mv, [.t 1], some (5, 70, false), []⟩,
    ⟨some 76, .len false, [.t 75], some (5, 70, false), []⟩,
    ⟨some 77, .bin .geq, [.t 74, .t 76], some (5, 70, false), []⟩,
    ⟨some 78, .pick, [.t 70, .bool true, .t 77], none, []⟩])
  (.cond (.t 78)
   (.seq (.reg false [
     ⟨some 12, .mv, [.bool false], none, []⟩])
   .ret)
   .skip))
  (.clean (.seq (.seq (.reg false [
    ⟨some 79, .mv, [.t 19], none, []⟩,
    ⟨some 80, .mv, [.t 5], none, []⟩,
    ⟨some 81, .len false, [.t 80], none, []⟩,
    ⟨some 82, .bin .lss, [.t 79, .t 81], none, []⟩])
  (.cond (.t 82)
   (.reg false [
     ⟨some 83, .mv, [.t 18], none, []⟩,
     ⟨some 84, .mv, [.t 5], none, []⟩,
     ⟨some 85, .mv, [.t 19], none, []⟩,
     ⟨some 86, .iaddr (.int .u8), [.t 84, .t 85], none, []⟩,
     ⟨some 87, .load (.int .u8), [.t 86], none, []⟩,
     ⟨some 88, .bin .rem, [.t 87, .int .u8 50], none, []⟩,
     ⟨some 89, .conv .i64, [.t 88], none, []⟩,
     ⟨some 90, .bin .add, [.t 83, .t 89], none, []⟩,
     ⟨some 18, .mv, [.t 90], none, []⟩])
   .skip))
  (.clean (.seq (.reg false [
    ⟨some 91, .mv, [.t 1], none, []⟩,
    ⟨some 92, .mv, [.t 16], none, []⟩,
    ⟨some 93, .mv, [.t 19], none, []⟩,
    ⟨some 94, .iaddr (.int .i64), [.t 92, .t 93], none, []⟩,
    ⟨some 95, .load (.int .i64), [.t 94], none, []⟩,
    ⟨some 96, .iaddr (.st (.cons (.int .i64) (.cons (.int .i64) (.cons (.sl (.int .i64)) (.sl (.int .i64)))))), [.t 91, .t 95], none, []⟩,
    ⟨some 97, .load (.st (.cons (.int .i64) (.cons (.int .i64) (.cons (.sl (.int .i64)) (.sl (.int .i64)))))), [.t 96], none, []⟩,
    ⟨some 98, .mv, [.t 18], none, []⟩,
    ⟨some 99, .call 23, [.t 97, .t 98, .bool false], none, []⟩,
    ⟨some 20, .mv, [.t 99], none, []⟩])
  (.clean (.seq (.seq (.reg false [
    ⟨some 100, .mv, [.t 20], none, []⟩,
    ⟨some 101, .bin .lss, [.t 100, .int .i64 0], none, []⟩])
  (.cond (.t 101)
   (.seq (.reg false [
     ⟨some 12, .mv, [.bool false], none, []⟩])
   .ret)
   .skip))
  (.seq (.reg false [
    ⟨some 102, .mv, [.t 18], none, []⟩,
    ⟨some 103, .mv, [.t 20], none, []⟩,
    ⟨some 104, .bin .add, [.t 102, .t 103], none, []⟩,
    ⟨some 18, .mv, [.t 104], none, []⟩])
  (.seq (.seq (.reg false [
    ⟨some 105, .mv, [.t 19], none, []⟩,
    ⟨some 106, .mv, [.t 5], none, []⟩,
    ⟨some 107, .len false, [.t 106], none, []⟩,
    ⟨some 108, .bin .lss, [.t 105, .t 107], none, []⟩])
  (.cond (.t 108)
   (.reg false [
     ⟨some 109, .mv, [.t 18], none, []⟩,
     ⟨some 110, .mv, [.t 5], none, []⟩,
     ⟨some 111, .mv, [.t 19], none, []⟩,
     ⟨some 112, .iaddr (.int .u8), [.t 110, .t 111], none, []⟩,
     ⟨some 113, .load (.int .u8), [.t 112], none, []⟩,
     ⟨some 114, .bin .quo, [.t 113, .int .u8 50], none, []⟩,
     ⟨some 115, .conv .i64, [.t 114], none, []⟩,
     ⟨some 116, .bin .add, [.t 109, .t 115], none, []⟩,
     ⟨some 18, .mv, [.t 116], none, []⟩])
   .skip))
  (.clean (.seq (.reg false [
    ⟨some 117, .mv, [.t 17], none, []⟩,
    ⟨some 118, .mv, [.t 18], none, []⟩,
    ⟨some 119, .mv, [.t 1], none, []⟩,
    ⟨some 120, .mv, [.t 16], none, []⟩,
    ⟨some 121, .mv, [.t 19], none, []⟩,
    ⟨some 122, .iaddr (.int .i64), [.t 120, .t 121], none, []⟩,
    ⟨some 123, .load (.int .i64), [.t 122], none, []⟩,
    ⟨some 124, .iaddr (.st (.cons (.int .i64) (.cons (.int .i64) (.cons (.sl (.int .i64)) (.sl (.int .i64)))))), [.t 119, .t 123], none, []⟩,
    ⟨some 125, .faddr 1 (.int .i64), [.t 124], none, []⟩,
    ⟨some 126, .load (.int .i64), [.t 125], none, []⟩,
    ⟨some 127, .mv, [.t 19], none, []⟩,
    ⟨some 128, .bin .add, [.t 127, .int .i64 1], none, []⟩,
    ⟨some 129, .call 22, [.t 118, .t 126, .t 128], none, []⟩,
    ⟨some 130, .bslice 25 (.st (.cons (.int .i64) (.cons (.int .i64) (.int .i64)))) 1 [0], [.t 129], none, []⟩,
    ⟨some 131, .append 25 (.st (.cons (.int .i64) (.cons (.int .i64) (.int .i64)))) 24, [.t 117, .t 130], none, []⟩,
    ⟨some 17, .mv, [.t 131], none, []⟩])
  (.clean (.seq (.reg true [
    ⟨some 133, .mv, [.t 0], none, []⟩,
    ⟨some 134, .mv, [.t 1], none, []⟩,
    ⟨some 135, .mv, [.t 17], none, []⟩,
    ⟨some 136, .iaddr (.st (.cons (.int .i64) (.cons (.int .i64) (.int .i64)))), [.t 135, .int .i64 0], none, [2]⟩,
    ⟨some 137, .load (.st (.cons (.int .i64) (.cons (.int .i64) (.int .i64)))), [.t 136], none, [3, 2]⟩,
    ⟨some 138, .mv, [.t 1], none, []⟩,
    ⟨some 139, .mv, [.t 16], none, []⟩,
    ⟨some 140, .mv, [.t 19], none, []⟩,
    ⟨some 141, .iaddr (.int .i64), [.t 139, .t 140], none, [6, 7]⟩,
    ⟨some 142, .load (.int .i64), [.t 141], none, [8, 6, 7]⟩,
    ⟨some 143, .iaddr (.st (.cons (.int .i64) (.cons (.int .i64) (.cons (.sl (.int .i64)) (.sl (.int .i64)))))), [.t 138, .t 142], none, [5, 9, 8, 6, 7]⟩,
    ⟨some 144, .faddr 1 (.int .i64), [.t 143], none, [10, 5, 9, 8, 6, 7]⟩,
    ⟨some 145, .load (.int .i64), [.t 144], none, [11, 10, 5, 9, 8, 6, 7]⟩,
    ⟨some 146, .call 13, [.t 133, .t 134, .t 137, .t 145], none, [0, 1, 4, 3, 2, 12, 11, 10, 5, 9, 8, 6, 7]⟩,
    ⟨some 132, .mv, [.t 146], none, [13, 0, 1, 4, 3, 2, 12, 11, 10, 5, 9, 8, 6, 7]⟩,
    ⟨some 147, .extract 0, [.t 132], none, [14, 13, 0, 1, 4, 3, 2, 12, 11, 10, 5, 9, 8, 6, 7]⟩,
    ⟨some 148, .extract 1, [.t 132], none, [14, 13, 0, 1, 4, 3, 2, 12, 11, 10, 5, 9, 8, 6, 7]⟩,
    ⟨some 21, .mv, [.t 147], none, [15, 14, 13, 0, 1, 4, 3, 2, 12, 11, 10, 5, 9, 8, 6, 7]⟩,
    ⟨some 22, .mv, [.t 148], none, [16, 14, 13, 0, 1, 4, 3, 2, 12, 11, 10, 5, 9, 8, 6, 7, 17, 15]⟩])
  (.clean (.seq (.reg false [
    ⟨some 149, .mv, [.t 22], none, []⟩,
    ⟨some 150, .bin .neq, [.t 149, .int .i64 0], none, []⟩,
    ⟨some 151, .mv, [.t 150], none, []⟩,
    ⟨some 152, .mv, [.t 21], some (2, 151, false), []⟩,
    ⟨some 153, .mv, [.t 18], some (2, 151, false), []⟩,
    ⟨some 154, .bin .gtr, [.t 152, .t 153], some (2, 151, false), []⟩,
    ⟨some 155, .pick, [.t 151, .bool true, .t 154], none, []⟩])
  (.cond (.t 155)
   (.seq (.reg false [
     ⟨some 12, .mv, [.bool false], none, []⟩])
   .ret)
   .skip)))))))))))))))))
 (.clean (.reg false [
   ⟨some 63, .mv, [.t 19], none, []⟩,
   ⟨some 64, .bin .add, [.t 63, .int .i64 1], none, []⟩,
   ⟨some 19, .mv, [.t 64], none, []⟩])))))
def x7_0d : List Nat := [12, 17, 18, 19, 20, 21, 22]
def x7 : XF := ⟨168, [.tmp 12], [0, 1, 2, 3, 4, 5, 12, 13, 14, 15, 16, 17, 18, 19, 20, 21, 22, 24],
 (.seq (.reg false [
   ⟨some 12, .mv, [.bool false], none, []⟩])
 (.seq (.reg false [
   ⟨some 25, .call 8, [], none, []⟩,
   ⟨some 13, .mv, [.t 25], none, []⟩])
 (.seq (.seq (.reg false [
   ⟨some 26, .mv, [.t 0], none, []⟩,
   ⟨some 27, .mv, [.t 1], none, []⟩,
   ⟨some 28, .call 9, [.t 26, .t 27], none, []⟩,
   ⟨some 29, .not, [.t 28], none, []⟩])
 (.cond (.t 29)
  (.seq (.reg false [
    ⟨some 30, .mv, [.t 13], none, []⟩,
    ⟨some 12, .mv, [.t 30], none, []⟩])
  .ret)
  .skip))
 (.clean (.seq (.reg false [
   ⟨some 32, .mv, [.t 0], none, []⟩,
   ⟨some 33, .mv, [.t 1], none, []⟩,
   ⟨some 34, .mv, [.t 2], none, []⟩,
   ⟨some 35, .mv, [.t 3], none, []⟩,
   ⟨some 36, .call 20, [.t 32, .t 33, .t 34, .t 35, .bool false], none, []⟩,
   ⟨some 31, .mv, [.t 36], none, []⟩,
   ⟨some 37, .extract 0, [.t 31], none, []⟩,
   ⟨some 38, .extract 1, [.t 31], none, []⟩,
   ⟨some 14, .mv, [.t 37], none, []⟩,
   ⟨some 15, .mv, [.t 38], none, []⟩])
 (.clean (.seq (.seq (.reg false [
   ⟨some 39, .mv, [.t 15], none, []⟩,
   ⟨some 40, .bin .neq, [.t 39, .int .i64 0], none, []⟩,
   ⟨some 41, .mv, [.t 40], none, []⟩,
   ⟨some 42, .mv, [.t 3], some (2, 41, false), []⟩,
   ⟨some 43, .bin .gtr, [.t 42, .int .i64 100000], some (2, 41, false), []⟩,
   ⟨some 44, .pick, [.t 41, .bool true, .t 43], none, []⟩])
 (.cond (.t 44)
  (.seq (.reg false [
    ⟨some 45, .mv, [.t 13], none, []⟩,
    ⟨some 12, .mv, [.t 45], none, []⟩])
  .ret)
  .skip))
 (.clean (.seq (.reg false [
   ⟨some 46, .mv, [.t 14], none, []⟩,
   ⟨some 47, .mv, [.t 1], none, []⟩,
   ⟨some 48, .mv, [.t 4], none, []⟩,
   ⟨some 49, .call 21, [.t 46, .t 47, .t 48], none, []⟩,
   ⟨some 16, .mv, [.t 49], none, []⟩])
 (.seq (.reg false [
   ⟨some 50, .mv, [.t 3], none, []⟩,
   ⟨some 51, .mv, [.t 2], none, []⟩,
   ⟨some 52, .call 22, [.t 50, .t 51, .int .i64 0], none, []⟩,
   ⟨some 53, .bslice 25 (.st (.cons (.int .i64) (.cons (.int .i64) (.int .i64)))) 1 [0], [.t 52], none, []⟩,
   ⟨some 17, .mv, [.t 53], none, []⟩])
 (.seq (.reg false [
   ⟨some 54, .mv, [.t 3], none, []⟩,
   ⟨some 18, .mv, [.t 54], none, []⟩])
 (.seq (.seq (.reg false [
   ⟨some 19, .mv, [.int .i64 0], none, []⟩])
 (.block 0 (.loop x7_0)))
 (.clean (.seq (.reg false [
   ⟨some 157, .mv, [.t 0], none, []⟩,
   ⟨some 158, .mv, [.t 1], none, []⟩,
   ⟨some 159, .mv, [.t 17], none, []⟩,
   ⟨some 160, .call 11, [.t 157, .t 158, .t 159], none, []⟩,
   ⟨some 156, .mv, [.t 160], none, []⟩,
   ⟨some 161, .extract 0, [.t 156], none, []⟩,
   ⟨some 162, .extract 1, [.t 156], none, []⟩,
   ⟨some 23, .mv, [.t 161], none, []⟩,
   ⟨some 24, .mv, [.t 162], none, []⟩])
 (.clean (.seq (.reg false [
   ⟨some 163, .mv, [.t 13], none, []⟩,
   ⟨some 164, .mv, [.t 163], none, []⟩,
   ⟨some 165, .mv, [.t 24], some (1, 164, true), []⟩,
   ⟨some 166, .bin .eql, [.t 165, .int .i64 0], some (1, 164, true), []⟩,
   ⟨some 167, .pick, [.t 164, .t 166, .bool false], none, []⟩,
   ⟨some 12, .mv, [.t 167], none, []⟩])
 .ret))))))))))))))))⟩
/- 0=n 1=arcs 2=from 3=start 4=to 5=waits 12= 13=head 14=labels 15=e 16=way 17=drives 18=now 19=i 20=took 21=least 22=f 24=g -/
/-! tonneau/tonneaulaw45.small -/
def x8 : XF := ⟨95, [.tmp 0], [0, 1, 2, 4, 5, 6, 7, 8, 9, 10, 11, 12],
 (.seq (.reg false [
   ⟨some 0, .mv, [.bool false], none, []⟩])
 (.seq (.reg false [
   ⟨some 13, .call 24, [.int .i64 0, .int .i64 1], none, []⟩,
   ⟨some 14, .call 24, [.int .i64 1, .int .i64 2], none, []⟩,
   ⟨some 15, .bslice 54 (.st (.cons (.int .i64) (.cons (.int .i64) (.cons (.sl (.int .i64)) (.sl (.int .i64)))))) 2 [0, 1], [.t 13, .t 14], none, []⟩,
   ⟨some 1, .mv, [.t 15], none, []⟩])
 (.seq (.reg false [
   ⟨some 16, .call 22, [.int .i64 0, .int .i64 0, .int .i64 5], none, []⟩,
   ⟨some 17, .call 22, [.int .i64 10, .int .i64 1, .int .i64 6], none, []⟩,
   ⟨some 18, .call 22, [.int .i64 30, .int .i64 2, .int .i64 9], none, []⟩,
   ⟨some 19, .bslice 25 (.st (.cons (.int .i64) (.cons (.int .i64) (.int .i64)))) 3 [0, 1, 2], [.t 16, .t 17, .t 18], none, []⟩,
   ⟨some 2, .mv, [.t 19], none, []⟩])
 (.seq (.reg false [
   ⟨some 21, .mv, [.t 1], none, []⟩,
   ⟨some 22, .mv, [.t 2], none, []⟩,
   ⟨some 23, .call 11, [.int .i64 3, .t 21, .t 22], none, []⟩,
   ⟨some 20, .mv, [.t 23], none, []⟩,
   ⟨some 24, .extract 0, [.t 20], none, []⟩,
   ⟨some 25, .extract 1, [.t 20], none, []⟩,
   ⟨some 3, .mv, [.t 24], none, []⟩,
   ⟨some 4, .mv, [.t 25], none, []⟩])
 (.clean (.seq (.reg false [
   ⟨some 27, .mv, [.t 1], none, []⟩,
   ⟨some 28, .call 22, [.int .i64 0, .int .i64 0, .int .i64 5], none, []⟩,
   ⟨some 29, .call 22, [.int .i64 19, .int .i64 2, .int .i64 9], none, []⟩,
   ⟨some 30, .bslice 25 (.st (.cons (.int .i64) (.cons (.int .i64) (.int .i64)))) 2 [0, 1], [.t 28, .t 29], none, []⟩,
   ⟨some 31, .call 11, [.int .i64 3, .t 27, .t 30], none, []⟩,
   ⟨some 26, .mv, [.t 31], none, []⟩,
   ⟨some 32, .extract 0, [.t 26], none, []⟩,
   ⟨some 33, .extract 1, [.t 26], none, []⟩,
   ⟨some 5, .mv, [.t 32], none, []⟩,
   ⟨some 6, .mv, [.t 33], none, []⟩])
 (.clean (.seq (.reg false [
   ⟨some 35, .mv, [.t 1], none, []⟩,
   ⟨some 36, .call 22, [.int .i64 0, .int .i64 0, .int .i64 5], none, []⟩,
   ⟨some 37, .call 22, [.int .i64 30, .int .i64 2, .int .i64 9], none, []⟩,
   ⟨some 38, .call 22, [.int .i64 90, .int .i64 0, .int .i64 20], none, []⟩,
   ⟨some 39, .bslice 25 (.st (.cons (.int .i64) (.cons (.int .i64) (.int .i64)))) 3 [0, 1, 2], [.t 36, .t 37, .t 38], none, []⟩,
   ⟨some 40, .call 11, [.int .i64 3, .t 35, .t 39], none, []⟩,
   ⟨some 34, .mv, [.t 40], none, []⟩,
   ⟨some 41, .extract 0, [.t 34], none, []⟩,
   ⟨some 42, .extract 1, [.t 34], none, []⟩,
   ⟨some 7, .mv, [.t 41], none, []⟩,
   ⟨some 8, .mv, [.t 42], none, []⟩])
 (.clean (.seq (.reg false [
   ⟨some 44, .mv, [.t 1], none, []⟩,
   ⟨some 45, .call 22, [.int .i64 0, .int .i64 0, .int .i64 5], none, []⟩,
   ⟨some 46, .call 13, [.int .i64 3, .t 44, .t 45, .int .i64 2], none, []⟩,
   ⟨some 43, .mv, [.t 46], none, []⟩,
   ⟨some 47, .extract 0, [.t 43], none, []⟩,
   ⟨some 48, .extract 1, [.t 43], none, []⟩,
   ⟨some 9, .mv, [.t 47], none, []⟩,
   ⟨some 10, .mv, [.t 48], none, []⟩])
 (.clean (.seq (.reg false [
   ⟨some 49, .build (.st (.cons (.int .i64) (.cons (.int .i64) (.cons (.int .i64) (.cons (.int .i64) (.cons (.int .i64) (.cons (.int .i64) (.cons (.int .i64) (.cons (.int .i64) (.cons (.int .i64) (.int .i64))))))))))) [(1, (.int .i64)), (2, (.int .i64)), (4, (.int .i64)), (5, (.int .i64)), (6, (.int .i64))], [.int .i64 0, .int .i64 2, .int .i64 5, .int .i64 30, .int .i64 30], none, []⟩,
   ⟨some 50, .build (.st (.cons (.st (.cons (.int .i64) (.cons (.int .i64) (.cons (.int .i64) (.cons (.int .i64) (.cons (.int .i64) (.cons (.int .i64) (.cons (.int .i64) (.cons (.int .i64) (.cons (.int .i64) (.int .i64))))))))))) (.cons (.int .i64) (.cons (.int .i64) (.cons (.int .i64) (.cons (.int .i64) (.int .i64))))))) [(0, (.st (.cons (.int .i64) (.cons (.int .i64) (.cons (.int .i64) (.cons (.int .i64) (.cons (.int .i64) (.cons (.int .i64) (.cons (.int .i64) (.cons (.int .i64) (.cons (.int .i64) (.int .i64))))))))))))], [.t 49], none, []⟩,
   ⟨some 11, .alloc 29 (.st (.cons (.st (.cons (.int .i64) (.cons (.int .i64) (.cons (.int .i64) (.cons (.int .i64) (.cons (.int .i64) (.cons (.int .i64) (.cons (.int .i64) (.cons (.int .i64) (.cons (.int .i64) (.int .i64))))))))))) (.cons (.int .i64) (.cons (.int .i64) (.cons (.int .i64) (.cons (.int .i64) (.int .i64))))))), [], none, []⟩,
   ⟨none, .store (.st (.cons (.st (.cons (.int .i64) (.cons (.int .i64) (.cons (.int .i64) (.cons (.int .i64) (.cons (.int .i64) (.cons (.int .i64) (.cons (.int .i64) (.cons (.int .i64) (.cons (.int .i64) (.int .i64))))))))))) (.cons (.int .i64) (.cons (.int .i64) (.cons (.int .i64) (.cons (.int .i64) (.int .i64))))))), [.t 11, .t 50], none, []⟩])
 (.seq (.reg false [
   ⟨some 51, .load (.st (.cons (.st (.cons (.int .i64) (.cons (.int .i64) (.cons (.int .i64) (.cons (.int .i64) (.cons (.int .i64) (.cons (.int .i64) (.cons (.int .i64) (.cons (.int .i64) (.cons (.int .i64) (.int .i64))))))))))) (.cons (.int .i64) (.cons (.int .i64) (.cons (.int .i64) (.cons (.int .i64) (.int .i64))))))), [.t 11], none, []⟩,
   ⟨some 12, .alloc 29 (.st (.cons (.st (.cons (.int .i64) (.cons (.int .i64) (.cons (.int .i64) (.cons (.int .i64) (.cons (.int .i64) (.cons (.int .i64) (.cons (.int .i64) (.cons (.int .i64) (.cons (.int .i64) (.int .i64))))))))))) (.cons (.int .i64) (.cons (.int .i64) (.cons (.int .i64) (.cons (.int .i64) (.int .i64))))))), [], none, []⟩,
   ⟨none, .store (.st (.cons (.st (.cons (.int .i64) (.cons (.int .i64) (.cons (.int .i64) (.cons (.int .i64) (.cons (.int .i64) (.cons (.int .i64) (.cons (.int .i64) (.cons (.int .i64) (.cons (.int .i64) (.int .i64))))))))))) (.cons (.int .i64) (.cons (.int .i64) (.cons (.int .i64) (.cons (.int .i64) (.int .i64))))))), [.t 12, .t 51], none, []⟩])
 (.seq (.reg false [
   ⟨some 52, .faddr 0 (.st (.cons (.int .i64) (.cons (.int .i64) (.cons (.int .i64) (.cons (.int .i64) (.cons (.int .i64) (.cons (.int .i64) (.cons (.int .i64) (.cons (.int .i64) (.cons (.int .i64) (.int .i64))))))))))), [.t 12], none, []⟩,
   ⟨some 53, .faddr 6 (.int .i64), [.t 52], none, []⟩,
   ⟨none, .store (.int .i64), [.t 53, .int .i64 29], none, []⟩])
 (.seq (.reg false [
   ⟨some 54, .mv, [.t 4], none, []⟩,
   ⟨some 55, .bin .eql, [.t 54, .int .i64 0], none, []⟩,
   ⟨some 56, .mv, [.t 55], none, []⟩,
   ⟨some 57, .mv, [.t 5], some (2, 56, true), []⟩,
   ⟨some 58, .bin .eql, [.t 57, .int .i64 1], some (2, 56, true), []⟩,
   ⟨some 59, .pick, [.t 56, .t 58, .bool false], none, []⟩,
   ⟨some 60, .mv, [.t 59], none, []⟩,
   ⟨some 61, .mv, [.t 6], some (6, 60, true), []⟩,
   ⟨some 62, .bin .eql, [.t 61, .int .i64 19], some (6, 60, true), []⟩,
   ⟨some 63, .pick, [.t 60, .t 62, .bool false], none, []⟩,
   ⟨some 64, .mv, [.t 63], none, []⟩,
   ⟨some 65, .mv, [.t 7], some (10, 64, true), []⟩,
   ⟨some 66, .bin .eql, [.t 65, .int .i64 2], some (10, 64, true), []⟩,
   ⟨some 67, .pick, [.t 64, .t 66, .bool false], none, []⟩,
   ⟨some 68, .mv, [.t 67], none, []⟩,
   ⟨some 69, .mv, [.t 8], some (14, 68, true), []⟩,
   ⟨some 70, .bin .eql, [.t 69, .int .i64 19], some (14, 68, true), []⟩,
   ⟨some 71, .pick, [.t 68, .t 70, .bool false], none, []⟩,
   ⟨some 72, .mv, [.t 71], none, []⟩,
   ⟨some 73, .mv, [.t 9], some (18, 72, true), []⟩,
   ⟨some 74, .bin .eql, [.t 73, .int .i64 20], some (18, 72, true), []⟩,
   ⟨some 75, .pick, [.t 72, .t 74, .bool false], none, []⟩,
   ⟨some 76, .mv, [.t 75], none, []⟩,
   ⟨some 77, .mv, [.t 10], some (22, 76, true), []⟩,
   ⟨some 78, .bin .eql, [.t 77, .int .i64 0], some (22, 76, true), []⟩,
   ⟨some 79, .pick, [.t 76, .t 78, .bool false], none, []⟩,
   ⟨some 80, .mv, [.t 79], none, []⟩,
   ⟨some 81, .load (.st (.cons (.st (.cons (.int .i64) (.cons (.int .i64) (.cons (.int .i64) (.cons (.int .i64) (.cons (.int .i64) (.cons (.int .i64) (.cons (.int .i64) (.cons (.int .i64) (.cons (.int .i64) (.int .i64))))))))))) (.cons (.int .i64) (.cons (.int .i64) (.cons (.int .i64) (.cons (.int .i64) (.int .i64))))))), [.t 11], some (26, 80, true), []⟩,
   ⟨some 82, .mv, [.t 2], some (26, 80, true), []⟩,
   ⟨some 83, .call 17, [.t 81, .t 82], some (26, 80, true), []⟩,
   ⟨some 84, .pick, [.t 80, .t 83, .bool false], none, []⟩,
   ⟨some 85, .mv, [.t 84], none, []⟩,
   ⟨some 86, .load (.st (.cons (.st (.cons (.int .i64) (.cons (.int .i64) (.cons (.int .i64) (.cons (.int .i64) (.cons (.int .i64) (.cons (.int .i64) (.cons (.int .i64) (.cons (.int .i64) (.cons (.int .i64) (.int .i64))))))))))) (.cons (.int .i64) (.cons (.int .i64) (.cons (.int .i64) (.cons (.int .i64) (.int .i64))))))), [.t 12], some (31, 85, true), []⟩,
   ⟨some 87, .mv, [.t 2], some (31, 85, true), []⟩,
   ⟨some 88, .call 17, [.t 86, .t 87], some (31, 85, true), []⟩,
   ⟨some 89, .not, [.t 88], some (31, 85, true), []⟩,
   ⟨some 90, .pick, [.t 85, .t 89, .bool false], none, []⟩,
   ⟨some 91, .mv, [.t 90], none, []⟩,
   ⟨some 92, .mv, [.t 2], some (37, 91, true), []⟩,
   ⟨some 93, .call 15, [.int .i64 3, .t 92], some (37, 91, true), []⟩,
   ⟨some 94, .pick, [.t 91, .t 93, .bool false], none, []⟩,
   ⟨some 0, .mv, [.t 94], none, []⟩])
 .ret)))))))))))))))⟩
/- 0= 1=arcs 2=l 4=e 5=i 6=f 7=k 8=g 9=t 10=h 11=p 12=q -/
/-! tonneau/tonneauref11.Few -/
def x9_0 : XC := (.seq (.seq (.reg false [
   ⟨some 6, .mv, [.t 5], none, []⟩,
   ⟨some 7, .mv, [.t 1], none, []⟩,
   ⟨some 8, .len false, [.t 7], none, []⟩,
   ⟨some 9, .bin .lss, [.t 6, .t 8], none, []⟩,
   ⟨some 10, .mv, [.t 9], none, []⟩,
   ⟨some 11, .mv, [.t 5], some (4, 10, true), []⟩,
   ⟨some 12, .bin .leq, [.t 11, .int .i64 30], some (4, 10, true), []⟩,
   ⟨some 13, .pick, [.t 10, .t 12, .bool false], none, []⟩])
 (.cond (.t 13)
  .skip
  (.exit 0)))
 (.clean (.seq (.block 1 (.seq (.reg false [
    ⟨some 16, .mv, [.t 1], none, []⟩,
    ⟨some 17, .mv, [.t 5], none, []⟩,
    ⟨some 18, .iaddr (.st (.cons (.int .i64) (.cons (.int .i64) (.cons (.sl (.int .i64)) (.sl (.int .i64)))))), [.t 16, .t 17], none, []⟩,
    ⟨some 19, .faddr 2 (.sl (.int .i64)), [.t 18], none, []⟩,
    ⟨some 20, .load (.sl (.int .i64)), [.t 19], none, []⟩,
    ⟨some 21, .len false, [.t 20], none, []⟩,
    ⟨some 22, .bin .gtr, [.t 21, .int .i64 30], none, []⟩,
    ⟨some 23, .mv, [.t 22], none, []⟩,
    ⟨some 24, .mv, [.t 1], some (7, 23, false), []⟩,
    ⟨some 25, .mv, [.t 5], some (7, 23, false), []⟩,
    ⟨some 26, .iaddr (.st (.cons (.int .i64) (.cons (.int .i64) (.cons (.sl (.int .i64)) (.sl (.int .i64)))))), [.t 24, .t 25], some (7, 23, false), []⟩,
    ⟨some 27, .faddr 3 (.sl (.int .i64)), [.t 26], some (7, 23, false), []⟩,
    ⟨some 28, .load (.sl (.int .i64)), [.t 27], some (7, 23, false), []⟩,
    ⟨some 29, .len false, [.t 28], some (7, 23, false), []⟩,
    ⟨some 30, .bin .gtr, [.t 29, .int .i64 30], some (7, 23, false), []⟩,
    ⟨some 31, .pick, [.t 23, .bool true, .t 30], none, []⟩])
  (.cond (.t 31)
   (.seq (.reg false [
     ⟨some 4, .mv, [.bool false], none, []⟩])
   .ret)
   .skip)))
 (.clean (.reg false [
   ⟨some 14, .mv, [.t 5], none, []⟩,
   ⟨some 15, .bin .add, [.t 14, .int .i64 1], none, []⟩,
   ⟨some 5, .mv, [.t 15], none, []⟩])))))
def x9_0d : List Nat := [4, 5]
def x9 : XF := ⟨43, [.tmp 4], [0, 1, 4, 5],
 (.seq (.reg false [
   ⟨some 4, .mv, [.bool false], none, []⟩])
 (.seq (.seq (.reg false [
   ⟨some 5, .mv, [.int .i64 0], none, []⟩])
 (.block 0 (.loop x9_0)))
 (.clean (.seq (.reg false [
   ⟨some 32, .mv, [.t 1], none, []⟩,
   ⟨some 33, .len false, [.t 32], none, []⟩,
   ⟨some 34, .bin .leq, [.t 33, .int .i64 30], none, []⟩,
   ⟨some 35, .mv, [.t 34], none, []⟩,
   ⟨some 36, .mv, [.t 0], some (3, 35, true), []⟩,
   ⟨some 37, .bin .leq, [.t 36, .int .i64 12], some (3, 35, true), []⟩,
   ⟨some 38, .mv, [.t 37], some (3, 35, true), []⟩,
   ⟨some 39, .mv, [.t 0], some (6, 38, false), []⟩,
   ⟨some 40, .bin .gtr, [.t 39, .int .i64 2000], some (6, 38, false), []⟩,
   ⟨some 41, .pick, [.t 38, .bool true, .t 40], some (3, 35, true), []⟩,
   ⟨some 42, .pick, [.t 35, .t 41, .bool false], none, []⟩,
   ⟨some 4, .mv, [.t 42], none, []⟩])
 .ret))))⟩
/- 0=n 1=arcs 4= 5=i -/
/-! tonneau/tonneauref45.Few -/
def x10_0 : XC := (.seq (.seq (.reg false [
   ⟨some 4, .mv, [.t 3], none, []⟩,
   ⟨some 5, .mv, [.t 0], none, []⟩,
   ⟨some 6, .len false, [.t 5], none, []⟩,
   ⟨some 7, .bin .lss, [.t 4, .t 6], none, []⟩,
   ⟨some 8, .mv, [.t 7], none, []⟩,
   ⟨some 9, .mv, [.t 3], some (4, 8, true), []⟩,
   ⟨some 10, .bin .leq, [.t 9, .int .i64 10], some (4, 8, true), []⟩,
   ⟨some 11, .pick, [.t 8, .t 10, .bool false], none, []⟩])
 (.cond (.t 11)
  .skip
  (.exit 0)))
 (.clean (.seq (.block 1 (.seq (.reg false [
    ⟨some 14, .mv, [.t 0], none, []⟩,
    ⟨some 15, .mv, [.t 3], none, []⟩,
    ⟨some 16, .iaddr (.st (.cons (.int .i64) (.cons (.int .i64) (.int .i64)))), [.t 14, .t 15], none, []⟩,
    ⟨some 17, .faddr 0 (.int .i64), [.t 16], none, []⟩,
    ⟨some 18, .load (.int .i64), [.t 17], none, []⟩,
    ⟨some 19, .bin .gtr, [.t 18, .int .i64 1099511627776], none, []⟩,
    ⟨some 20, .mv, [.t 19], none, []⟩,
    ⟨some 21, .mv, [.t 0], some (6, 20, false), []⟩,
    ⟨some 22, .mv, [.t 3], some (6, 20, false), []⟩,
    ⟨some 23, .iaddr (.st (.cons (.int .i64) (.cons (.int .i64) (.int .i64)))), [.t 21, .t 22], some (6, 20, false), []⟩,
    ⟨some 24, .faddr 0 (.int .i64), [.t 23], some (6, 20, false), []⟩,
    ⟨some 25, .load (.int .i64), [.t 24], some (6, 20, false), []⟩,
    ⟨some 26, .bin .lss, [.t 25, .int .i64 (-1099511627776)], some (6, 20, false), []⟩,
    ⟨some 27, .pick, [.t 20, .bool true, .t 26], none, []⟩])
  (.cond (.t 27)
   (.seq (.reg false [
     ⟨some 2, .mv, [.bool false], none, []⟩])
   .ret)
   .skip)))
 (.clean (.reg false [
   ⟨some 12, .mv, [.t 3], none, []⟩,
   ⟨some 13, .bin .add, [.t 12, .int .i64 1], none, []⟩,
   ⟨some 3, .mv, [.t 13], none, []⟩])))))
def x10_0d : List Nat := [2, 3]
def x10 : XF := ⟨31, [.tmp 2], [0, 2, 3],
 (.seq (.reg false [
   ⟨some 2, .mv, [.bool false], none, []⟩])
 (.seq (.seq (.reg false [
   ⟨some 3, .mv, [.int .i64 0], none, []⟩])
 (.block 0 (.loop x10_0)))
 (.clean (.seq (.reg false [
   ⟨some 28, .mv, [.t 0], none, []⟩,
   ⟨some 29, .len false, [.t 28], none, []⟩,
   ⟨some 30, .bin .leq, [.t 29, .int .i64 10], none, []⟩,
   ⟨some 2, .mv, [.t 30], none, []⟩])
 .ret))))⟩
/- 0=drives 2= 3=i -/
/-! tonneau/odo.Possible -/
def x11_0 : XC := (.seq (.seq (.reg false [
   ⟨some 21, .mv, [.t 8], none, []⟩,
   ⟨some 22, .mv, [.t 2], none, []⟩,
   ⟨some 23, .len false, [.t 22], none, []⟩,
   ⟨some 24, .bin .lss, [.t 21, .t 23], none, []⟩])
 (.cond (.t 24)
  .skip
  (.exit 0)))
 (.seq (.block 1 (.seq (.reg true [
    ⟨some 28, .mv, [.t 0], none, []⟩,
    ⟨some 29, .mv, [.t 1], none, []⟩,
    ⟨some 30, .mv, [.t 2], none, []⟩,
    ⟨some 31, .mv, [.t 8], none, []⟩,
    ⟨some 32, .bin .sub, [.t 31, .int .i64 1], none, [3]⟩,
    ⟨some 33, .iaddr (.st (.cons (.int .i64) (.cons (.int .i64) (.int .i64)))), [.t 30, .t 32], none, [2, 4, 3]⟩,
    ⟨some 34, .load (.st (.cons (.int .i64) (.cons (.int .i64) (.int .i64)))), [.t 33], none, [5, 2, 4, 3]⟩,
    ⟨some 35, .mv, [.t 2], none, []⟩,
    ⟨some 36, .mv, [.t 8], none, []⟩,
    ⟨some 37, .iaddr (.st (.cons (.int .i64) (.cons (.int .i64) (.int .i64)))), [.t 35, .t 36], none, [7, 8]⟩,
    ⟨some 38, .faddr 1 (.int .i64), [.t 37], none, [9, 7, 8]⟩,
    ⟨some 39, .load (.int .i64), [.t 38], none, [10, 9, 7, 8]⟩,
    ⟨some 40, .call 13, [.t 28, .t 29, .t 34, .t 39], none, [0, 1, 6, 5, 2, 4, 3, 11, 10, 9, 7, 8]⟩,
    ⟨some 27, .mv, [.t 40], none, [12, 0, 1, 6, 5, 2, 4, 3, 11, 10, 9, 7, 8]⟩,
    ⟨some 41, .extract 0, [.t 27], none, [13, 12, 0, 1, 6, 5, 2, 4, 3, 11, 10, 9, 7, 8]⟩,
    ⟨some 42, .extract 1, [.t 27], none, [13, 12, 0, 1, 6, 5, 2, 4, 3, 11, 10, 9, 7, 8]⟩,
    ⟨some 9, .mv, [.t 41], none, [14, 13, 12, 0, 1, 6, 5, 2, 4, 3, 11, 10, 9, 7, 8]⟩,
    ⟨some 10, .mv, [.t 42], none, [15, 13, 12, 0, 1, 6, 5, 2, 4, 3, 11, 10, 9, 7, 8, 16, 14]⟩])
  (.clean (.seq (.reg false [
    ⟨some 43, .mv, [.t 10], none, []⟩,
    ⟨some 44, .bin .neq, [.t 43, .int .i64 0], none, []⟩,
    ⟨some 45, .mv, [.t 44], none, []⟩,
    ⟨some 46, .mv, [.t 2], some (2, 45, false), []⟩,
    ⟨some 47, .mv, [.t 8], some (2, 45, false), []⟩,
    ⟨some 48, .iaddr (.st (.cons (.int .i64) (.cons (.int .i64) (.int .i64)))), [.t 46, .t 47], some (2, 45, false), []⟩,
    ⟨some 49, .faddr 0 (.int .i64), [.t 48], some (2, 45, false), []⟩,
    ⟨some 50, .load (.int .i64), [.t 49], some (2, 45, false), []⟩,
    ⟨some 51, .mv, [.t 9], some (2, 45, false), []⟩,
    ⟨some 52, .bin .lss, [.t 50, .t 51], some (2, 45, false), []⟩,
    ⟨some 53, .pick, [.t 45, .bool true, .t 52], none, []⟩])
  (.cond (.t 53)
   (.seq (.reg false [
     ⟨some 54, .mv, [.t 8], none, []⟩,
     ⟨some 6, .mv, [.t 54], none, []⟩,
     ⟨some 7, .mv, [.int .i64 19], none, []⟩])
   .ret)
   .skip)))))
 (.clean (.reg false [
   ⟨some 25, .mv, [.t 8], none, []⟩,
   ⟨some 26, .bin .add, [.t 25, .int .i64 1], none, []⟩,
   ⟨some 8, .mv, [.t 26], none, []⟩]))))
def x11_0d : List Nat := [6, 7, 8, 9, 10]
def x11 : XF := ⟨55, [.tmp 6, .tmp 7], [0, 1, 2, 6, 7, 8, 9, 10],
 (.seq (.reg false [
   ⟨some 6, .mv, [.int .i64 0], none, []⟩,
   ⟨some 7, .mv, [.int .i64 0], none, []⟩])
 (.seq (.seq (.reg false [
   ⟨some 11, .mv, [.t 0], none, []⟩,
   ⟨some 12, .mv, [.t 1], none, []⟩,
   ⟨some 13, .call 25, [.t 11, .t 12], none, []⟩,
   ⟨some 14, .not, [.t 13], none, []⟩,
   ⟨some 15, .mv, [.t 14], none, []⟩,
   ⟨some 16, .mv, [.t 0], some (4, 15, false), []⟩,
   ⟨some 17, .mv, [.t 2], some (4, 15, false), []⟩,
   ⟨some 18, .call 15, [.t 16, .t 17], some (4, 15, false), []⟩,
   ⟨some 19, .not, [.t 18], some (4, 15, false), []⟩,
   ⟨some 20, .pick, [.t 15, .bool true, .t 19], none, []⟩])
 (.cond (.t 20)
  (.seq (.reg false [
    ⟨some 6, .mv, [.int .i64 0], none, []⟩,
    ⟨some 7, .mv, [.int .i64 1], none, []⟩])
  .ret)
  .skip))
 (.clean (.seq (.seq (.reg false [
   ⟨some 8, .mv, [.int .i64 1], none, []⟩])
 (.block 0 (.loop x11_0)))
 (.seq (.reg false [
   ⟨some 6, .mv, [.int .i64 0], none, []⟩,
   ⟨some 7, .mv, [.int .i64 0], none, []⟩])
 .ret)))))⟩
/- 0=n 1=arcs 2=drives 6= 7= 8=i 9=least 10=e -/
/-! tonneau/tonneauref45.Possible -/
def x12_0 : XC := (.seq (.seq (.reg false [
   ⟨some 21, .mv, [.t 8], none, []⟩,
   ⟨some 22, .mv, [.t 2], none, []⟩,
   ⟨some 23, .len false, [.t 22], none, []⟩,
   ⟨some 24, .bin .lss, [.t 21, .t 23], none, []⟩])
 (.cond (.t 24)
  .skip
  (.exit 0)))
 (.seq (.block 1 (.seq (.reg true [
    ⟨some 28, .mv, [.t 0], none, []⟩,
    ⟨some 29, .mv, [.t 1], none, []⟩,
    ⟨some 30, .mv, [.t 2], none, []⟩,
    ⟨some 31, .mv, [.t 8], none, []⟩,
    ⟨some 32, .bin .sub, [.t 31, .int .i64 1], none, [3]⟩,
    ⟨some 33, .iaddr (.st (.cons (.int .i64) (.cons (.int .i64) (.int .i64)))), [.t 30, .t 32], none, [2, 4, 3]⟩,
    ⟨some 34, .load (.st (.cons (.int .i64) (.cons (.int .i64) (.int .i64)))), [.t 33], none, [5, 2, 4, 3]⟩,
    ⟨some 35, .mv, [.t 2], none, []⟩,
    ⟨some 36, .mv, [.t 8], none, []⟩,
    ⟨some 37, .iaddr (.st (.cons (.int .i64) (.cons (.int .i64) (.int .i64)))), [.t 35, .t 36], none, [7, 8]⟩,
    ⟨some 38, .faddr 1 (.int .i64), [.t 37], none, [9, 7, 8]⟩,
    ⟨some 39, .load (.int .i64), [.t 38], none, [10, 9, 7, 8]⟩,
    ⟨some 40, .call 14, [.t 28, .t 29, .t 34, .t 39], none, [0, 1, 6, 5, 2, 4, 3, 11, 10, 9, 7, 8]⟩,
    ⟨some 27, .mv, [.t 40], none, [12, 0, 1, 6, 5, 2, 4, 3, 11, 10, 9, 7, 8]⟩,
    ⟨some 41, .extract 0, [.t 27], none, [13, 12, 0, 1, 6, 5, 2, 4, 3, 11, 10, 9, 7, 8]⟩,
    ⟨some 42, .extract 1, [.t 27], none, [13, 12, 0, 1, 6, 5, 2, 4, 3, 11, 10, 9, 7, 8]⟩,
    ⟨some 9, .mv, [.t 41], none, [14, 13, 12, 0, 1, 6, 5, 2, 4, 3, 11, 10, 9, 7, 8]⟩,
    ⟨some 10, .mv, [.t 42], none, [15, 13, 12, 0, 1, 6, 5, 2, 4, 3, 11, 10, 9, 7, 8, 16, 14]⟩])
  (.clean (.seq (.reg false [
    ⟨some 43, .mv, [.t 10], none, []⟩,
    ⟨some 44, .bin .neq, [.t 43, .int .i64 0], none, []⟩,
    ⟨some 45, .mv, [.t 44], none, []⟩,
    ⟨some 46, .mv, [.t 9], some (2, 45, false), []⟩,
    ⟨some 47, .mv, [.t 2], some (2, 45, false), []⟩,
    ⟨some 48, .mv, [.t 8], some (2, 45, false), []⟩,
    ⟨some 49, .iaddr (.st (.cons (.int .i64) (.cons (.int .i64) (.int .i64)))), [.t 47, .t 48], some (2, 45, false), []⟩,
    ⟨some 50, .faddr 0 (.int .i64), [.t 49], some (2, 45, false), []⟩,
    ⟨some 51, .load (.int .i64), [.t 50], some (2, 45, false), []⟩,
    ⟨some 52, .bin .gtr, [.t 46, .t 51], some (2, 45, false), []⟩,
    ⟨some 53, .pick, [.t 45, .bool true, .t 52], none, []⟩])
  (.cond (.t 53)
   (.seq (.reg false [
     ⟨some 54, .mv, [.t 8], none, []⟩,
     ⟨some 6, .mv, [.t 54], none, []⟩,
     ⟨some 7, .mv, [.int .i64 19], none, []⟩])
   .ret)
   .skip)))))
 (.clean (.reg false [
   ⟨some 25, .mv, [.t 8], none, []⟩,
   ⟨some 26, .bin .add, [.t 25, .int .i64 1], none, []⟩,
   ⟨some 8, .mv, [.t 26], none, []⟩]))))
def x12_0d : List Nat := [6, 7, 8, 9, 10]
def x12 : XF := ⟨55, [.tmp 6, .tmp 7], [0, 1, 2, 6, 7, 8, 9, 10],
 (.seq (.reg false [
   ⟨some 6, .mv, [.int .i64 0], none, []⟩,
   ⟨some 7, .mv, [.int .i64 0], none, []⟩])
 (.seq (.seq (.reg false [
   ⟨some 11, .mv, [.t 0], none, []⟩,
   ⟨some 12, .mv, [.t 1], none, []⟩,
   ⟨some 13, .call 26, [.t 11, .t 12], none, []⟩,
   ⟨some 14, .not, [.t 13], none, []⟩,
   ⟨some 15, .mv, [.t 14], none, []⟩,
   ⟨some 16, .mv, [.t 0], some (4, 15, false), []⟩,
   ⟨some 17, .mv, [.t 2], some (4, 15, false), []⟩,
   ⟨some 18, .call 16, [.t 16, .t 17], some (4, 15, false), []⟩,
   ⟨some 19, .not, [.t 18], some (4, 15, false), []⟩,
   ⟨some 20, .pick, [.t 15, .bool true, .t 19], none, []⟩])
 (.cond (.t 20)
  (.seq (.reg false [
    ⟨some 6, .mv, [.int .i64 0], none, []⟩,
    ⟨some 7, .mv, [.int .i64 1], none, []⟩])
  .ret)
  .skip))
 (.clean (.seq (.seq (.reg false [
   ⟨some 8, .mv, [.int .i64 1], none, []⟩])
 (.block 0 (.loop x12_0)))
 (.seq (.reg false [
   ⟨some 6, .mv, [.int .i64 0], none, []⟩,
   ⟨some 7, .mv, [.int .i64 0], none, []⟩])
 .ret)))))⟩
/- 0=n 1=arcs 2=drives 6= 7= 8=i 9=t 10=e -/
/-! tonneau/odo.Earliest -/
def x13 : XF := ⟨45, [.tmp 8, .tmp 9], [0, 1, 2, 3, 6, 8, 9, 10, 11],
 (.seq (.reg false [
   ⟨some 6, .box 25, [.t 2], none, []⟩,
   ⟨some 8, .mv, [.int .i64 0], none, []⟩,
   ⟨some 9, .mv, [.int .i64 0], none, []⟩])
 (.seq (.reg false [
   ⟨some 13, .mv, [.t 0], none, []⟩,
   ⟨some 14, .mv, [.t 1], none, []⟩,
   ⟨some 15, .faddr 1 (.int .i64), [.t 6], none, []⟩,
   ⟨some 16, .load (.int .i64), [.t 15], none, []⟩,
   ⟨some 17, .faddr 0 (.int .i64), [.t 6], none, []⟩,
   ⟨some 18, .load (.int .i64), [.t 17], none, []⟩,
   ⟨some 19, .call 20, [.t 13, .t 14, .t 16, .t 18, .bool false], none, []⟩,
   ⟨some 12, .mv, [.t 19], none, []⟩,
   ⟨some 20, .extract 0, [.t 12], none, []⟩,
   ⟨some 21, .extract 1, [.t 12], none, []⟩,
   ⟨some 10, .mv, [.t 20], none, []⟩,
   ⟨some 11, .mv, [.t 21], none, []⟩])
 (.clean (.seq (.seq (.reg false [
   ⟨some 22, .mv, [.t 11], none, []⟩,
   ⟨some 23, .bin .neq, [.t 22, .int .i64 0], none, []⟩,
   ⟨some 24, .mv, [.t 23], none, []⟩,
   ⟨some 25, .mv, [.t 3], some (2, 24, false), []⟩,
   ⟨some 26, .bin .lss, [.t 25, .int .i64 0], some (2, 24, false), []⟩,
   ⟨some 27, .pick, [.t 24, .bool true, .t 26], none, []⟩,
   ⟨some 28, .mv, [.t 27], none, []⟩,
   ⟨some 29, .mv, [.t 3], some (6, 28, false), []⟩,
   ⟨some 30, .mv, [.t 10], some (6, 28, false), []⟩,
   ⟨some 31, .len false, [.t 30], some (6, 28, false), []⟩,
   ⟨some 32, .bin .geq, [.t 29, .t 31], some (6, 28, false), []⟩,
   ⟨some 33, .pick, [.t 28, .bool true, .t 32], none, []⟩])
 (.cond (.t 33)
  (.seq (.reg false [
    ⟨some 8, .mv, [.int .i64 0], none, []⟩,
    ⟨some 9, .mv, [.int .i64 1], none, []⟩])
  .ret)
  .skip))
 (.clean (.seq (.seq (.reg false [
   ⟨some 34, .mv, [.t 10], none, []⟩,
   ⟨some 35, .mv, [.t 3], none, []⟩,
   ⟨some 36, .iaddr (.st (.cons (.int .i64) (.int .i64))), [.t 34, .t 35], none, []⟩,
   ⟨some 37, .faddr 0 (.int .i64), [.t 36], none, []⟩,
   ⟨some 38, .load (.int .i64), [.t 37], none, []⟩,
   ⟨some 39, .bin .lss, [.t 38, .int .i64 0], none, []⟩])
 (.cond (.t 39)
  (.seq (.reg false [
    ⟨some 8, .mv, [.int .i64 0], none, []⟩,
    ⟨some 9, .mv, [.int .i64 4], none, []⟩])
  .ret)
  .skip))
 (.clean (.seq (.reg false [
   ⟨some 40, .mv, [.t 10], none, []⟩,
   ⟨some 41, .mv, [.t 3], none, []⟩,
   ⟨some 42, .iaddr (.st (.cons (.int .i64) (.int .i64))), [.t 40, .t 41], none, []⟩,
   ⟨some 43, .faddr 0 (.int .i64), [.t 42], none, []⟩,
   ⟨some 44, .load (.int .i64), [.t 43], none, []⟩,
   ⟨some 8, .mv, [.t 44], none, []⟩,
   ⟨some 9, .mv, [.int .i64 0], none, []⟩])
 .ret))))))))⟩
/- 0=n 1=arcs 2=d 3=to 6=d 8= 9= 10=labels 11=e -/
/-! tonneau/tonneauref45.Earliest -/
def x14 : XF := ⟨44, [.tmp 8, .tmp 9], [0, 1, 2, 3, 6, 8, 9, 10, 11],
 (.seq (.reg false [
   ⟨some 6, .box 25, [.t 2], none, []⟩,
   ⟨some 8, .mv, [.int .i64 0], none, []⟩,
   ⟨some 9, .mv, [.int .i64 0], none, []⟩])
 (.seq (.reg false [
   ⟨some 13, .mv, [.t 0], none, []⟩,
   ⟨some 14, .mv, [.t 1], none, []⟩,
   ⟨some 15, .faddr 1 (.int .i64), [.t 6], none, []⟩,
   ⟨some 16, .load (.int .i64), [.t 15], none, []⟩,
   ⟨some 17, .faddr 0 (.int .i64), [.t 6], none, []⟩,
   ⟨some 18, .load (.int .i64), [.t 17], none, []⟩,
   ⟨some 19, .call 27, [.t 13, .t 14, .t 16, .t 18, .bool false], none, []⟩,
   ⟨some 12, .mv, [.t 19], none, []⟩,
   ⟨some 20, .extract 0, [.t 12], none, []⟩,
   ⟨some 21, .extract 1, [.t 12], none, []⟩,
   ⟨some 10, .mv, [.t 20], none, []⟩,
   ⟨some 11, .mv, [.t 21], none, []⟩])
 (.clean (.seq (.seq (.reg false [
   ⟨some 22, .mv, [.t 11], none, []⟩,
   ⟨some 23, .bin .neq, [.t 22, .int .i64 0], none, []⟩,
   ⟨some 24, .mv, [.t 23], none, []⟩,
   ⟨some 25, .mv, [.t 3], some (2, 24, false), []⟩,
   ⟨some 26, .bin .lss, [.t 25, .int .i64 0], some (2, 24, false), []⟩,
   ⟨some 27, .pick, [.t 24, .bool true, .t 26], none, []⟩,
   ⟨some 28, .mv, [.t 27], none, []⟩,
   ⟨some 29, .mv, [.t 3], some (6, 28, false), []⟩,
   ⟨some 30, .mv, [.t 0], some (6, 28, false), []⟩,
   ⟨some 31, .bin .geq, [.t 29, .t 30], some (6, 28, false), []⟩,
   ⟨some 32, .pick, [.t 28, .bool true, .t 31], none, []⟩])
 (.cond (.t 32)
  (.seq (.reg false [
    ⟨some 8, .mv, [.int .i64 0], none, []⟩,
    ⟨some 9, .mv, [.int .i64 1], none, []⟩])
  .ret)
  .skip))
 (.clean (.seq (.seq (.reg false [
   ⟨some 33, .mv, [.t 10], none, []⟩,
   ⟨some 34, .mv, [.t 3], none, []⟩,
   ⟨some 35, .iaddr (.st (.cons (.int .i64) (.int .i64))), [.t 33, .t 34], none, []⟩,
   ⟨some 36, .faddr 0 (.int .i64), [.t 35], none, []⟩,
   ⟨some 37, .load (.int .i64), [.t 36], none, []⟩,
   ⟨some 38, .bin .eql, [.t 37, .int .i64 (-1)], none, []⟩])
 (.cond (.t 38)
  (.seq (.reg false [
    ⟨some 8, .mv, [.int .i64 0], none, []⟩,
    ⟨some 9, .mv, [.int .i64 4], none, []⟩])
  .ret)
  .skip))
 (.clean (.seq (.reg false [
   ⟨some 39, .mv, [.t 10], none, []⟩,
   ⟨some 40, .mv, [.t 3], none, []⟩,
   ⟨some 41, .iaddr (.st (.cons (.int .i64) (.int .i64))), [.t 39, .t 40], none, []⟩,
   ⟨some 42, .faddr 0 (.int .i64), [.t 41], none, []⟩,
   ⟨some 43, .load (.int .i64), [.t 42], none, []⟩,
   ⟨some 8, .mv, [.t 43], none, []⟩,
   ⟨some 9, .mv, [.int .i64 0], none, []⟩])
 .ret))))))))⟩
/- 0=n 1=arcs 2=d 3=to 6=d 8= 9= 10=l 11=e -/
/-! tonneau/odo.Right -/
def x15_0 : XC := (.seq (.reg false [
   ⟨some 11, .bin .lss, [.t 10, .t 9], none, []⟩])
 (.seq (.cond (.t 11)
  .skip
  (.exit 0))
 (.seq (.block 1 (.seq (.reg false [
    ⟨some 12, .mv, [.t 10], none, []⟩,
    ⟨some 13, .iaddr (.st (.cons (.int .i64) (.cons (.int .i64) (.int .i64)))), [.t 8, .t 10], none, []⟩,
    ⟨some 14, .load (.st (.cons (.int .i64) (.cons (.int .i64) (.int .i64)))), [.t 13], none, []⟩,
    ⟨some 6, .alloc 25 (.st (.cons (.int .i64) (.cons (.int .i64) (.int .i64)))), [], none, []⟩,
    ⟨some 5, .mv, [.t 12], none, []⟩,
    ⟨none, .store (.st (.cons (.int .i64) (.cons (.int .i64) (.int .i64)))), [.t 6, .t 14], none, []⟩])
  (.seq (.seq (.reg false [
    ⟨some 15, .mv, [.t 0], none, []⟩,
    ⟨some 16, .load (.st (.cons (.int .i64) (.cons (.int .i64) (.int .i64)))), [.t 6], none, []⟩,
    ⟨some 17, .call 28, [.t 15, .t 16], none, []⟩,
    ⟨some 18, .not, [.t 17], none, []⟩])
  (.cond (.t 18)
   (.seq (.reg false [
     ⟨some 4, .mv, [.bool false], none, []⟩])
   .ret)
   .skip))
  (.clean (.seq (.seq (.reg false [
    ⟨some 19, .mv, [.t 5], none, []⟩,
    ⟨some 20, .bin .eql, [.t 19, .int .i64 0], none, []⟩])
  (.cond (.t 20)
   (.exit 1)
   .skip))
  (.seq (.reg false [
    ⟨some 21, .mv, [.t 1], none, []⟩,
    ⟨some 22, .mv, [.t 5], none, []⟩,
    ⟨some 23, .bin .sub, [.t 22, .int .i64 1], none, []⟩,
    ⟨some 24, .iaddr (.st (.cons (.int .i64) (.cons (.int .i64) (.int .i64)))), [.t 21, .t 23], none, []⟩,
    ⟨some 25, .load (.st (.cons (.int .i64) (.cons (.int .i64) (.int .i64)))), [.t 24], none, []⟩,
    ⟨some 7, .alloc 25 (.st (.cons (.int .i64) (.cons (.int .i64) (.int .i64)))), [], none, []⟩,
    ⟨none, .store (.st (.cons (.int .i64) (.cons (.int .i64) (.int .i64)))), [.t 7, .t 25], none, []⟩])
  (.clean (.seq (.reg false [
    ⟨some 26, .faddr 0 (.int .i64), [.t 6], none, []⟩,
    ⟨some 27, .load (.int .i64), [.t 26], none, []⟩,
    ⟨some 28, .faddr 0 (.int .i64), [.t 7], none, []⟩,
    ⟨some 29, .load (.int .i64), [.t 28], none, []⟩,
    ⟨some 30, .bin .lss, [.t 27, .t 29], none, []⟩,
    ⟨some 31, .mv, [.t 30], none, []⟩,
    ⟨some 32, .faddr 2 (.int .i64), [.t 6], some (5, 31, false), []⟩,
    ⟨some 33, .load (.int .i64), [.t 32], some (5, 31, false), []⟩,
    ⟨some 34, .faddr 2 (.int .i64), [.t 7], some (5, 31, false), []⟩,
    ⟨some 35, .load (.int .i64), [.t 34], some (5, 31, false), []⟩,
    ⟨some 36, .bin .lss, [.t 33, .t 35], some (5, 31, false), []⟩,
    ⟨some 37, .pick, [.t 31, .bool true, .t 36], none, []⟩,
    ⟨some 38, .mv, [.t 37], none, []⟩,
    ⟨some 39, .faddr 1 (.int .i64), [.t 6], some (12, 38, false), []⟩,
    ⟨some 40, .load (.int .i64), [.t 39], some (12, 38, false), []⟩,
    ⟨some 41, .faddr 1 (.int .i64), [.t 7], some (12, 38, false), []⟩,
    ⟨some 42, .load (.int .i64), [.t 41], some (12, 38, false), []⟩,
    ⟨some 43, .bin .neq, [.t 40, .t 42], some (12, 38, false), []⟩,
    ⟨some 44, .mv, [.t 43], some (12, 38, false), []⟩,
    ⟨some 45, .faddr 2 (.int .i64), [.t 6], some (18, 44, true), []⟩,
    ⟨some 46, .load (.int .i64), [.t 45], some (18, 44, true), []⟩,
    ⟨some 47, .faddr 2 (.int .i64), [.t 7], some (18, 44, true), []⟩,
    ⟨some 48, .load (.int .i64), [.t 47], some (18, 44, true), []⟩,
    ⟨some 49, .bin .eql, [.t 46, .t 48], some (18, 44, true), []⟩,
    ⟨some 50, .pick, [.t 44, .t 49, .bool false], some (12, 38, false), []⟩,
    ⟨some 51, .pick, [.t 38, .bool true, .t 50], none, []⟩])
  (.cond (.t 51)
   (.seq (.reg false [
     ⟨some 4, .mv, [.bool false], none, []⟩])
   .ret)
   .skip)))))))))
 (.reg false [
   ⟨some 52, .bin .add, [.t 10, .int .i64 1], none, []⟩,
   ⟨some 10, .mv, [.t 52], none, []⟩]))))
def x15_0d : List Nat := [4, 5, 6, 7, 10]
def x15 : XF := ⟨56, [.tmp 4], [0, 1, 4, 5, 6, 7, 8, 9, 10],
 (.seq (.reg false [
   ⟨some 4, .mv, [.bool false], none, []⟩])
 (.seq (.seq (.reg false [
   ⟨some 8, .mv, [.t 1], none, []⟩,
   ⟨some 9, .len false, [.t 8], none, []⟩,
   ⟨some 10, .mv, [.int .i64 0], none, []⟩])
 (.block 0 (.loop x15_0)))
 (.clean (.seq (.reg false [
   ⟨some 53, .mv, [.t 1], none, []⟩,
   ⟨some 54, .len false, [.t 53], none, []⟩,
   ⟨some 55, .bin .leq, [.t 54, .int .i64 20000], none, []⟩,
   ⟨some 4, .mv, [.t 55], none, []⟩])
 .ret))))⟩
/- 0=n 1=drives 4= 5=i 6=d 7=last 8= 9= 10= -/
/-! tonneau/tonneauref45.Right -/
def x16_0 : XC := (.seq (.seq (.reg false [
   ⟨some 11, .mv, [.t 5], none, []⟩,
   ⟨some 12, .mv, [.t 1], none, []⟩,
   ⟨some 13, .len false, [.t 12], none, []⟩,
   ⟨some 14, .bin .lss, [.t 11, .t 13], none, []⟩])
 (.cond (.t 14)
  .skip
  (.exit 0)))
 (.seq (.block 1 (.seq (.reg false [
    ⟨some 17, .mv, [.t 1], none, []⟩,
    ⟨some 18, .mv, [.t 5], none, []⟩,
    ⟨some 19, .iaddr (.st (.cons (.int .i64) (.cons (.int .i64) (.int .i64)))), [.t 17, .t 18], none, []⟩,
    ⟨some 20, .load (.st (.cons (.int .i64) (.cons (.int .i64) (.int .i64)))), [.t 19], none, []⟩,
    ⟨some 6, .alloc 25 (.st (.cons (.int .i64) (.cons (.int .i64) (.int .i64)))), [], none, []⟩,
    ⟨none, .store (.st (.cons (.int .i64) (.cons (.int .i64) (.int .i64)))), [.t 6, .t 20], none, []⟩])
  (.seq (.reg false [
    ⟨some 21, .mv, [.t 1], none, []⟩,
    ⟨some 22, .mv, [.t 5], none, []⟩,
    ⟨some 23, .bin .sub, [.t 22, .int .i64 1], none, []⟩,
    ⟨some 24, .max, [.t 23, .int .i64 0], none, []⟩,
    ⟨some 25, .iaddr (.st (.cons (.int .i64) (.cons (.int .i64) (.int .i64)))), [.t 21, .t 24], none, []⟩,
    ⟨some 26, .load (.st (.cons (.int .i64) (.cons (.int .i64) (.int .i64)))), [.t 25], none, []⟩,
    ⟨some 7, .alloc 25 (.st (.cons (.int .i64) (.cons (.int .i64) (.int .i64)))), [], none, []⟩,
    ⟨none, .store (.st (.cons (.int .i64) (.cons (.int .i64) (.int .i64)))), [.t 7, .t 26], none, []⟩])
  (.clean (.seq (.seq (.reg false [
    ⟨some 27, .faddr 0 (.int .i64), [.t 6], none, []⟩,
    ⟨some 28, .load (.int .i64), [.t 27], none, []⟩,
    ⟨some 29, .bin .lss, [.t 28, .int .i64 0], none, []⟩,
    ⟨some 30, .mv, [.t 29], none, []⟩,
    ⟨some 31, .faddr 0 (.int .i64), [.t 6], some (3, 30, false), []⟩,
    ⟨some 32, .load (.int .i64), [.t 31], some (3, 30, false), []⟩,
    ⟨some 33, .bin .gtr, [.t 32, .int .i64 1048576], some (3, 30, false), []⟩,
    ⟨some 34, .pick, [.t 30, .bool true, .t 33], none, []⟩,
    ⟨some 35, .mv, [.t 34], none, []⟩,
    ⟨some 36, .faddr 1 (.int .i64), [.t 6], some (8, 35, false), []⟩,
    ⟨some 37, .load (.int .i64), [.t 36], some (8, 35, false), []⟩,
    ⟨some 38, .bin .lss, [.t 37, .int .i64 0], some (8, 35, false), []⟩,
    ⟨some 39, .pick, [.t 35, .bool true, .t 38], none, []⟩,
    ⟨some 40, .mv, [.t 39], none, []⟩,
    ⟨some 41, .faddr 1 (.int .i64), [.t 6], some (13, 40, false), []⟩,
    ⟨some 42, .load (.int .i64), [.t 41], some (13, 40, false), []⟩,
    ⟨some 43, .mv, [.t 0], some (13, 40, false), []⟩,
    ⟨some 44, .bin .geq, [.t 42, .t 43], some (13, 40, false), []⟩,
    ⟨some 45, .pick, [.t 40, .bool true, .t 44], none, []⟩,
    ⟨some 46, .mv, [.t 45], none, []⟩,
    ⟨some 47, .faddr 2 (.int .i64), [.t 6], some (19, 46, false), []⟩,
    ⟨some 48, .load (.int .i64), [.t 47], some (19, 46, false), []⟩,
    ⟨some 49, .bin .lss, [.t 48, .int .i64 0], some (19, 46, false), []⟩,
    ⟨some 50, .pick, [.t 46, .bool true, .t 49], none, []⟩,
    ⟨some 51, .mv, [.t 50], none, []⟩,
    ⟨some 52, .faddr 2 (.int .i64), [.t 6], some (24, 51, false), []⟩,
    ⟨some 53, .load (.int .i64), [.t 52], some (24, 51, false), []⟩,
    ⟨some 54, .bin .gtr, [.t 53, .int .i64 1000000000000000], some (24, 51, false), []⟩,
    ⟨some 55, .pick, [.t 51, .bool true, .t 54], none, []⟩])
  (.cond (.t 55)
   (.seq (.reg false [
     ⟨some 4, .mv, [.bool false], none, []⟩])
   .ret)
   .skip))
  (.clean (.seq (.reg false [
    ⟨some 56, .faddr 0 (.int .i64), [.t 6], none, []⟩,
    ⟨some 57, .load (.int .i64), [.t 56], none, []⟩,
    ⟨some 58, .faddr 0 (.int .i64), [.t 7], none, []⟩,
    ⟨some 59, .load (.int .i64), [.t 58], none, []⟩,
    ⟨some 60, .bin .lss, [.t 57, .t 59], none, []⟩,
    ⟨some 61, .mv, [.t 60], none, []⟩,
    ⟨some 62, .faddr 2 (.int .i64), [.t 6], some (5, 61, false), []⟩,
    ⟨some 63, .load (.int .i64), [.t 62], some (5, 61, false), []⟩,
    ⟨some 64, .faddr 2 (.int .i64), [.t 7], some (5, 61, false), []⟩,
    ⟨some 65, .load (.int .i64), [.t 64], some (5, 61, false), []⟩,
    ⟨some 66, .bin .lss, [.t 63, .t 65], some (5, 61, false), []⟩,
    ⟨some 67, .pick, [.t 61, .bool true, .t 66], none, []⟩,
    ⟨some 68, .mv, [.t 67], none, []⟩,
    ⟨some 69, .faddr 1 (.int .i64), [.t 6], some (12, 68, false), []⟩,
    ⟨some 70, .load (.int .i64), [.t 69], some (12, 68, false), []⟩,
    ⟨some 71, .faddr 1 (.int .i64), [.t 7], some (12, 68, false), []⟩,
    ⟨some 72, .load (.int .i64), [.t 71], some (12, 68, false), []⟩,
    ⟨some 73, .bin .neq, [.t 70, .t 72], some (12, 68, false), []⟩,
    ⟨some 74, .mv, [.t 73], some (12, 68, false), []⟩,
    ⟨some 75, .faddr 2 (.int .i64), [.t 6], some (18, 74, true), []⟩,
    ⟨some 76, .load (.int .i64), [.t 75], some (18, 74, true), []⟩,
    ⟨some 77, .faddr 2 (.int .i64), [.t 7], some (18, 74, true), []⟩,
    ⟨some 78, .load (.int .i64), [.t 77], some (18, 74, true), []⟩,
    ⟨some 79, .bin .leq, [.t 76, .t 78], some (18, 74, true), []⟩,
    ⟨some 80, .pick, [.t 74, .t 79, .bool false], some (12, 68, false), []⟩,
    ⟨some 81, .pick, [.t 68, .bool true, .t 80], none, []⟩])
  (.cond (.t 81)
   (.seq (.reg false [
     ⟨some 4, .mv, [.bool false], none, []⟩])
   .ret)
   .skip))))))))
 (.clean (.reg false [
   ⟨some 15, .mv, [.t 5], none, []⟩,
   ⟨some 16, .bin .add, [.t 15, .int .i64 1], none, []⟩,
   ⟨some 5, .mv, [.t 16], none, []⟩]))))
def x16_0d : List Nat := [4, 5, 6, 7]
def x16 : XF := ⟨82, [.tmp 4], [0, 1, 4, 5, 6, 7],
 (.seq (.reg false [
   ⟨some 4, .mv, [.bool false], none, []⟩])
 (.seq (.seq (.reg false [
   ⟨some 8, .mv, [.t 1], none, []⟩,
   ⟨some 9, .len false, [.t 8], none, []⟩,
   ⟨some 10, .bin .gtr, [.t 9, .int .i64 20000], none, []⟩])
 (.cond (.t 10)
  (.seq (.reg false [
    ⟨some 4, .mv, [.bool false], none, []⟩])
  .ret)
  .skip))
 (.seq (.seq (.reg false [
   ⟨some 5, .mv, [.int .i64 0], none, []⟩])
 (.block 0 (.loop x16_0)))
 (.seq (.reg false [
   ⟨some 4, .mv, [.bool true], none, []⟩])
 .ret))))⟩
/- 0=n 1=drives 4= 5=i 6=d 7=last -/
/-! tonneau/odo.Kept -/
def x17_1 : XC := (.seq (.reg false [
   ⟨some 43, .bin .lss, [.t 42, .t 41], none, []⟩])
 (.seq (.cond (.t 43)
  .skip
  (.exit 2))
 (.seq (.block 3 (.seq (.reg false [
    ⟨some 44, .iaddr (.st (.cons (.int .i64) (.cons (.int .i64) (.int .i64)))), [.t 40, .t 42], none, []⟩,
    ⟨some 45, .load (.st (.cons (.int .i64) (.cons (.int .i64) (.int .i64)))), [.t 44], none, []⟩,
    ⟨some 9, .alloc 25 (.st (.cons (.int .i64) (.cons (.int .i64) (.int .i64)))), [], none, []⟩,
    ⟨none, .store (.st (.cons (.int .i64) (.cons (.int .i64) (.int .i64)))), [.t 9, .t 45], none, []⟩])
  (.seq (.reg true [
    ⟨some 46, .faddr 1 (.int .i64), [.t 9], none, []⟩,
    ⟨some 47, .load (.int .i64), [.t 46], none, [0]⟩,
    ⟨some 48, .faddr 2 (.int .i64), [.t 5], none, []⟩,
    ⟨some 49, .load (.int .i64), [.t 48], none, [2]⟩,
    ⟨some 50, .bin .eql, [.t 47, .t 49], none, [1, 0, 3, 2]⟩,
    ⟨some 51, .mv, [.t 50], none, [4, 1, 0, 3, 2]⟩,
    ⟨some 52, .faddr 0 (.int .i64), [.t 9], some (5, 51, true), [5, 4, 1, 0, 3, 2]⟩,
    ⟨some 53, .load (.int .i64), [.t 52], some (5, 51, true), [6, 5, 4, 1, 0, 3, 2]⟩,
    ⟨some 54, .faddr 5 (.int .i64), [.t 5], some (5, 51, true), [5, 4, 1, 0, 3, 2]⟩,
    ⟨some 55, .load (.int .i64), [.t 54], some (5, 51, true), [8, 5, 4, 1, 0, 3, 2]⟩,
    ⟨some 56, .bin .leq, [.t 53, .t 55], some (5, 51, true), [7, 6, 5, 4, 1, 0, 3, 2, 9, 8]⟩,
    ⟨some 57, .pick, [.t 51, .t 56, .bool false], none, [5, 4, 1, 0, 3, 2, 10, 7, 6, 9, 8]⟩,
    ⟨some 58, .mv, [.t 57], none, [11, 5, 4, 1, 0, 3, 2, 10, 7, 6, 9, 8]⟩,
    ⟨some 59, .faddr 0 (.int .i64), [.t 7], some (12, 58, true), [12, 11, 5, 4, 1, 0, 3, 2, 10, 7, 6, 9, 8]⟩,
    ⟨some 60, .load (.int .i64), [.t 59], some (12, 58, true), [13, 12, 11, 5, 4, 1, 0, 3, 2, 10, 7, 6, 9, 8]⟩,
    ⟨some 61, .faddr 0 (.int .i64), [.t 9], some (12, 58, true), [12, 11, 5, 4, 1, 0, 3, 2, 10, 7, 6, 9, 8]⟩,
    ⟨some 62, .load (.int .i64), [.t 61], some (12, 58, true), [15, 12, 11, 5, 4, 1, 0, 3, 2, 10, 7, 6, 9, 8]⟩,
    ⟨some 63, .call 29, [.t 60, .t 62], some (12, 58, true), [14, 13, 12, 11, 5, 4, 1, 0, 3, 2, 10, 7, 6, 9, 8, 16, 15]⟩,
    ⟨some 64, .faddr 6 (.int .i64), [.t 5], some (12, 58, true), [12, 11, 5, 4, 1, 0, 3, 2, 10, 7, 6, 9, 8]⟩,
    ⟨some 65, .load (.int .i64), [.t 64], some (12, 58, true), [18, 12, 11, 5, 4, 1, 0, 3, 2, 10, 7, 6, 9, 8]⟩,
    ⟨some 66, .bin .leq, [.t 63, .t 65], some (12, 58, true), [17, 14, 13, 12, 11, 5, 4, 1, 0, 3, 2, 10, 7, 6, 9, 8, 16, 15, 19, 18]⟩,
    ⟨some 67, .pick, [.t 58, .t 66, .bool false], none, [12, 11, 5, 4, 1, 0, 3, 2, 10, 7, 6, 9, 8, 20, 17, 14, 13, 16, 15, 19, 18]⟩])
  (.cond (.t 67)
   (.seq (.reg false [
     ⟨some 4, .mv, [.bool true], none, []⟩])
   .ret)
   .skip))))
 (.reg false [
   ⟨some 68, .bin .add, [.t 42, .int .i64 1], none, []⟩,
   ⟨some 42, .mv, [.t 68], none, []⟩]))))
def x17_1d : List Nat := [4, 9, 42]
def x17_0 : XC := (.seq (.reg false [
   ⟨some 15, .bin .lss, [.t 14, .t 13], none, []⟩])
 (.seq (.cond (.t 15)
  .skip
  (.exit 0))
 (.seq (.block 1 (.seq (.reg false [
    ⟨some 16, .mv, [.t 14], none, []⟩,
    ⟨some 17, .iaddr (.st (.cons (.int .i64) (.cons (.int .i64) (.int .i64)))), [.t 12, .t 14], none, []⟩,
    ⟨some 18, .load (.st (.cons (.int .i64) (.cons (.int .i64) (.int .i64)))), [.t 17], none, []⟩,
    ⟨some 7, .alloc 25 (.st (.cons (.int .i64) (.cons (.int .i64) (.int .i64)))), [], none, []⟩,
    ⟨some 6, .mv, [.t 16], none, []⟩,
    ⟨none, .store (.st (.cons (.int .i64) (.cons (.int .i64) (.int .i64)))), [.t 7, .t 18], none, []⟩])
  (.seq (.seq (.reg false [
    ⟨some 19, .faddr 1 (.int .i64), [.t 7], none, []⟩,
    ⟨some 20, .load (.int .i64), [.t 19], none, []⟩,
    ⟨some 21, .faddr 1 (.int .i64), [.t 5], none, []⟩,
    ⟨some 22, .load (.int .i64), [.t 21], none, []⟩,
    ⟨some 23, .bin .neq, [.t 20, .t 22], none, []⟩,
    ⟨some 24, .mv, [.t 23], none, []⟩,
    ⟨some 25, .faddr 0 (.int .i64), [.t 7], some (5, 24, false), []⟩,
    ⟨some 26, .load (.int .i64), [.t 25], some (5, 24, false), []⟩,
    ⟨some 27, .faddr 3 (.int .i64), [.t 5], some (5, 24, false), []⟩,
    ⟨some 28, .load (.int .i64), [.t 27], some (5, 24, false), []⟩,
    ⟨some 29, .bin .lss, [.t 26, .t 28], some (5, 24, false), []⟩,
    ⟨some 30, .pick, [.t 24, .bool true, .t 29], none, []⟩,
    ⟨some 31, .mv, [.t 30], none, []⟩,
    ⟨some 32, .faddr 0 (.int .i64), [.t 7], some (12, 31, false), []⟩,
    ⟨some 33, .load (.int .i64), [.t 32], some (12, 31, false), []⟩,
    ⟨some 34, .faddr 4 (.int .i64), [.t 5], some (12, 31, false), []⟩,
    ⟨some 35, .load (.int .i64), [.t 34], some (12, 31, false), []⟩,
    ⟨some 36, .bin .gtr, [.t 33, .t 35], some (12, 31, false), []⟩,
    ⟨some 37, .pick, [.t 31, .bool true, .t 36], none, []⟩])
  (.cond (.t 37)
   (.exit 1)
   .skip))
  (.clean (.seq (.reg false [
    ⟨some 38, .mv, [.t 1], none, []⟩,
    ⟨some 39, .mv, [.t 6], none, []⟩,
    ⟨some 40, .slice (.st (.cons (.int .i64) (.cons (.int .i64) (.int .i64)))) true false false, [.t 38, .t 39], none, []⟩,
    ⟨some 41, .len false, [.t 40], none, []⟩,
    ⟨some 42, .mv, [.int .i64 0], none, []⟩])
  (.block 2 (.loop x17_1)))))))
 (.reg false [
   ⟨some 69, .bin .add, [.t 14, .int .i64 1], none, []⟩,
   ⟨some 14, .mv, [.t 69], none, []⟩]))))
def x17_0d : List Nat := [4, 6, 7, 9, 14, 40, 41, 42]
def x17 : XF := ⟨70, [.tmp 4], [0, 1, 2, 4, 5, 6, 7, 9, 12, 13, 14, 40, 41, 42],
 (.seq (.reg false [
   ⟨some 2, .box 29, [.t 0], none, []⟩,
   ⟨some 4, .mv, [.bool false], none, []⟩])
 (.seq (.reg false [
   ⟨some 10, .faddr 0 (.st (.cons (.int .i64) (.cons (.int .i64) (.cons (.int .i64) (.cons (.int .i64) (.cons (.int .i64) (.cons (.int .i64) (.cons (.int .i64) (.cons (.int .i64) (.cons (.int .i64) (.int .i64))))))))))), [.t 2], none, []⟩,
   ⟨some 11, .load (.st (.cons (.int .i64) (.cons (.int .i64) (.cons (.int .i64) (.cons (.int .i64) (.cons (.int .i64) (.cons (.int .i64) (.cons (.int .i64) (.cons (.int .i64) (.cons (.int .i64) (.int .i64))))))))))), [.t 10], none, []⟩,
   ⟨some 5, .alloc 27 (.st (.cons (.int .i64) (.cons (.int .i64) (.cons (.int .i64) (.cons (.int .i64) (.cons (.int .i64) (.cons (.int .i64) (.cons (.int .i64) (.cons (.int .i64) (.cons (.int .i64) (.int .i64))))))))))), [], none, []⟩,
   ⟨none, .store (.st (.cons (.int .i64) (.cons (.int .i64) (.cons (.int .i64) (.cons (.int .i64) (.cons (.int .i64) (.cons (.int .i64) (.cons (.int .i64) (.cons (.int .i64) (.cons (.int .i64) (.int .i64))))))))))), [.t 5, .t 11], none, []⟩])
 (.seq (.seq (.reg false [
   ⟨some 12, .mv, [.t 1], none, []⟩,
   ⟨some 13, .len false, [.t 12], none, []⟩,
   ⟨some 14, .mv, [.int .i64 0], none, []⟩])
 (.block 0 (.loop x17_0)))
 (.seq (.reg false [
   ⟨some 4, .mv, [.bool false], none, []⟩])
 .ret))))⟩
/- 0=p 1=drives 2=p 4= 5=q 6=i 7=a 9=b 12= 13= 14= 40= 41= 42= -/
/-! tonneau/tonneauref45.Kept -/
def x18_1 : XC := (.seq (.seq (.reg false [
   ⟨some 17, .mv, [.t 6], none, []⟩,
   ⟨some 18, .mv, [.t 1], none, []⟩,
   ⟨some 19, .len false, [.t 18], none, []⟩,
   ⟨some 20, .bin .lss, [.t 17, .t 19], none, []⟩])
 (.cond (.t 20)
  .skip
  (.exit 2)))
 (.seq (.block 3 (.seq (.reg false [
    ⟨some 23, .mv, [.t 1], none, []⟩,
    ⟨some 24, .mv, [.t 5], none, []⟩,
    ⟨some 25, .iaddr (.st (.cons (.int .i64) (.cons (.int .i64) (.int .i64)))), [.t 23, .t 24], none, []⟩,
    ⟨some 26, .load (.st (.cons (.int .i64) (.cons (.int .i64) (.int .i64)))), [.t 25], none, []⟩,
    ⟨some 7, .alloc 25 (.st (.cons (.int .i64) (.cons (.int .i64) (.int .i64)))), [], none, []⟩,
    ⟨none, .store (.st (.cons (.int .i64) (.cons (.int .i64) (.int .i64)))), [.t 7, .t 26], none, []⟩])
  (.seq (.reg false [
    ⟨some 27, .mv, [.t 1], none, []⟩,
    ⟨some 28, .mv, [.t 6], none, []⟩,
    ⟨some 29, .iaddr (.st (.cons (.int .i64) (.cons (.int .i64) (.int .i64)))), [.t 27, .t 28], none, []⟩,
    ⟨some 30, .load (.st (.cons (.int .i64) (.cons (.int .i64) (.int .i64)))), [.t 29], none, []⟩,
    ⟨some 8, .alloc 25 (.st (.cons (.int .i64) (.cons (.int .i64) (.int .i64)))), [], none, []⟩,
    ⟨none, .store (.st (.cons (.int .i64) (.cons (.int .i64) (.int .i64)))), [.t 8, .t 30], none, []⟩])
  (.seq (.reg false [
    ⟨some 31, .faddr 0 (.int .i64), [.t 8], none, []⟩,
    ⟨some 32, .load (.int .i64), [.t 31], none, []⟩,
    ⟨some 33, .faddr 0 (.int .i64), [.t 7], none, []⟩,
    ⟨some 34, .load (.int .i64), [.t 33], none, []⟩,
    ⟨some 35, .bin .sub, [.t 32, .t 34], none, []⟩,
    ⟨some 36, .faddr 0 (.int .i64), [.t 7], none, []⟩,
    ⟨some 37, .load (.int .i64), [.t 36], none, []⟩,
    ⟨some 38, .faddr 0 (.int .i64), [.t 8], none, []⟩,
    ⟨some 39, .load (.int .i64), [.t 38], none, []⟩,
    ⟨some 40, .bin .sub, [.t 37, .t 39], none, []⟩,
    ⟨some 41, .max, [.t 35, .t 40], none, []⟩,
    ⟨some 9, .mv, [.t 41], none, []⟩])
  (.clean (.seq (.reg false [
    ⟨some 42, .faddr 1 (.int .i64), [.t 7], none, []⟩,
    ⟨some 43, .load (.int .i64), [.t 42], none, []⟩,
    ⟨some 44, .faddr 0 (.st (.cons (.int .i64) (.cons (.int .i64) (.cons (.int .i64) (.cons (.int .i64) (.cons (.int .i64) (.cons (.int .i64) (.cons (.int .i64) (.cons (.int .i64) (.cons (.int .i64) (.int .i64))))))))))), [.t 2], none, []⟩,
    ⟨some 45, .faddr 1 (.int .i64), [.t 44], none, []⟩,
    ⟨some 46, .load (.int .i64), [.t 45], none, []⟩,
    ⟨some 47, .bin .eql, [.t 43, .t 46], none, []⟩,
    ⟨some 48, .mv, [.t 47], none, []⟩,
    ⟨some 49, .faddr 0 (.int .i64), [.t 7], some (6, 48, true), []⟩,
    ⟨some 50, .load (.int .i64), [.t 49], some (6, 48, true), []⟩,
    ⟨some 51, .faddr 0 (.st (.cons (.int .i64) (.cons (.int .i64) (.cons (.int .i64) (.cons (.int .i64) (.cons (.int .i64) (.cons (.int .i64) (.cons (.int .i64) (.cons (.int .i64) (.cons (.int .i64) (.int .i64))))))))))), [.t 2], some (6, 48, true), []⟩,
    ⟨some 52, .faddr 3 (.int .i64), [.t 51], some (6, 48, true), []⟩,
    ⟨some 53, .load (.int .i64), [.t 52], some (6, 48, true), []⟩,
    ⟨some 54, .bin .geq, [.t 50, .t 53], some (6, 48, true), []⟩,
    ⟨some 55, .pick, [.t 48, .t 54, .bool false], none, []⟩,
    ⟨some 56, .mv, [.t 55], none, []⟩,
    ⟨some 57, .faddr 0 (.int .i64), [.t 7], some (14, 56, true), []⟩,
    ⟨some 58, .load (.int .i64), [.t 57], some (14, 56, true), []⟩,
    ⟨some 59, .faddr 0 (.st (.cons (.int .i64) (.cons (.int .i64) (.cons (.int .i64) (.cons (.int .i64) (.cons (.int .i64) (.cons (.int .i64) (.cons (.int .i64) (.cons (.int .i64) (.cons (.int .i64) (.int .i64))))))))))), [.t 2], some (14, 56, true), []⟩,
    ⟨some 60, .faddr 4 (.int .i64), [.t 59], some (14, 56, true), []⟩,
    ⟨some 61, .load (.int .i64), [.t 60], some (14, 56, true), []⟩,
    ⟨some 62, .bin .leq, [.t 58, .t 61], some (14, 56, true), []⟩,
    ⟨some 63, .pick, [.t 56, .t 62, .bool false], none, []⟩,
    ⟨some 64, .mv, [.t 63], none, []⟩,
    ⟨some 65, .faddr 1 (.int .i64), [.t 8], some (22, 64, true), []⟩,
    ⟨some 66, .load (.int .i64), [.t 65], some (22, 64, true), []⟩,
    ⟨some 67, .faddr 0 (.st (.cons (.int .i64) (.cons (.int .i64) (.cons (.int .i64) (.cons (.int .i64) (.cons (.int .i64) (.cons (.int .i64) (.cons (.int .i64) (.cons (.int .i64) (.cons (.int .i64) (.int .i64))))))))))), [.t 2], some (22, 64, true), []⟩,
    ⟨some 68, .faddr 2 (.int .i64), [.t 67], some (22, 64, true), []⟩,
    ⟨some 69, .load (.int .i64), [.t 68], some (22, 64, true), []⟩,
    ⟨some 70, .bin .eql, [.t 66, .t 69], some (22, 64, true), []⟩,
    ⟨some 71, .pick, [.t 64, .t 70, .bool false], none, []⟩,
    ⟨some 72, .mv, [.t 71], none, []⟩,
    ⟨some 73, .faddr 0 (.int .i64), [.t 8], some (30, 72, true), []⟩,
    ⟨some 74, .load (.int .i64), [.t 73], some (30, 72, true), []⟩,
    ⟨some 75, .faddr 0 (.st (.cons (.int .i64) (.cons (.int .i64) (.cons (.int .i64) (.cons (.int .i64) (.cons (.int .i64) (.cons (.int .i64) (.cons (.int .i64) (.cons (.int .i64) (.cons (.int .i64) (.int .i64))))))))))), [.t 2], some (30, 72, true), []⟩,
    ⟨some 76, .faddr 5 (.int .i64), [.t 75], some (30, 72, true), []⟩,
    ⟨some 77, .load (.int .i64), [.t 76], some (30, 72, true), []⟩,
    ⟨some 78, .bin .leq, [.t 74, .t 77], some (30, 72, true), []⟩,
    ⟨some 79, .pick, [.t 72, .t 78, .bool false], none, []⟩,
    ⟨some 80, .mv, [.t 79], none, []⟩,
    ⟨some 81, .mv, [.t 9], some (38, 80, true), []⟩,
    ⟨some 82, .faddr 0 (.st (.cons (.int .i64) (.cons (.int .i64) (.cons (.int .i64) (.cons (.int .i64) (.cons (.int .i64) (.cons (.int .i64) (.cons (.int .i64) (.cons (.int .i64) (.cons (.int .i64) (.int .i64))))))))))), [.t 2], some (38, 80, true), []⟩,
    ⟨some 83, .faddr 6 (.int .i64), [.t 82], some (38, 80, true), []⟩,
    ⟨some 84, .load (.int .i64), [.t 83], some (38, 80, true), []⟩,
    ⟨some 85, .bin .leq, [.t 81, .t 84], some (38, 80, true), []⟩,
    ⟨some 86, .pick, [.t 80, .t 85, .bool false], none, []⟩])
  (.cond (.t 86)
   (.seq (.reg false [
     ⟨some 4, .mv, [.bool true], none, []⟩])
   .ret)
   .skip)))))))
 (.clean (.reg false [
   ⟨some 21, .mv, [.t 6], none, []⟩,
   ⟨some 22, .bin .add, [.t 21, .int .i64 1], none, []⟩,
   ⟨some 6, .mv, [.t 22], none, []⟩]))))
def x18_1d : List Nat := [4, 6, 7, 8, 9]
def x18_0 : XC := (.seq (.seq (.reg false [
   ⟨some 10, .mv, [.t 5], none, []⟩,
   ⟨some 11, .mv, [.t 1], none, []⟩,
   ⟨some 12, .len false, [.t 11], none, []⟩,
   ⟨some 13, .bin .lss, [.t 10, .t 12], none, []⟩])
 (.cond (.t 13)
  .skip
  (.exit 0)))
 (.seq (.block 1 (.seq (.reg false [
    ⟨some 16, .mv, [.t 5], none, []⟩,
    ⟨some 6, .mv, [.t 16], none, []⟩])
  (.block 2 (.loop x18_1))))
 (.clean (.reg false [
   ⟨some 14, .mv, [.t 5], none, []⟩,
   ⟨some 15, .bin .add, [.t 14, .int .i64 1], none, []⟩,
   ⟨some 5, .mv, [.t 15], none, []⟩]))))
def x18_0d : List Nat := [4, 5, 6, 7, 8, 9]
def x18 : XF := ⟨87, [.tmp 4], [0, 1, 2, 4, 5, 6, 7, 8, 9],
 (.seq (.reg false [
   ⟨some 2, .box 29, [.t 0], none, []⟩,
   ⟨some 4, .mv, [.bool false], none, []⟩])
 (.seq (.seq (.reg false [
   ⟨some 5, .mv, [.int .i64 0], none, []⟩])
 (.block 0 (.loop x18_0)))
 (.seq (.reg false [
   ⟨some 4, .mv, [.bool false], none, []⟩])
 .ret)))⟩
/- 0=p 1=drives 2=p 4= 5=i 6=k 7=a 8=b 9=ride -/
/-! tonneau/tonneaulaw45.without -/
def x19 : XF := ⟨15, [.tmp 4], [0, 1, 4],
 (.seq (.reg false [
   ⟨some 4, .nilrow 25 (.st (.cons (.int .i64) (.cons (.int .i64) (.int .i64)))), [], none, []⟩])
 (.seq (.reg true [
   ⟨some 5, .bslice 25 (.st (.cons (.int .i64) (.cons (.int .i64) (.int .i64)))) 0 [], [], none, []⟩,
   ⟨some 6, .mv, [.t 0], none, []⟩,
   ⟨some 7, .mv, [.t 1], none, []⟩,
   ⟨some 8, .slice (.st (.cons (.int .i64) (.cons (.int .i64) (.int .i64)))) false true false, [.t 6, .t 7], none, [1, 2]⟩,
   ⟨some 9, .append 25 (.st (.cons (.int .i64) (.cons (.int .i64) (.int .i64)))) 24, [.t 5, .t 8], none, [0, 3, 1, 2]⟩,
   ⟨some 10, .mv, [.t 0], none, []⟩,
   ⟨some 11, .mv, [.t 1], none, []⟩,
   ⟨some 12, .bin .add, [.t 11, .int .i64 1], none, [6]⟩,
   ⟨some 13, .slice (.st (.cons (.int .i64) (.cons (.int .i64) (.int .i64)))) true false false, [.t 10, .t 12], none, [5, 7, 6]⟩,
   ⟨some 14, .append 25 (.st (.cons (.int .i64) (.cons (.int .i64) (.int .i64)))) 24, [.t 9, .t 13], none, [4, 0, 3, 1, 2, 8, 5, 7, 6]⟩,
   ⟨some 4, .mv, [.t 14], none, [9, 4, 0, 3, 1, 2, 8, 5, 7, 6]⟩])
 .ret))⟩
/- 0=l 1=k 4= -/
/-! tonneau/road.Early -/
def x20_0 : XC := (.seq (.reg false [
   ⟨some 42, .bin .lss, [.t 41, .t 40], none, []⟩])
 (.seq (.cond (.t 42)
  .skip
  (.exit 0))
 (.seq (.block 1 (.seq (.reg false [
    ⟨some 43, .mv, [.t 41], none, []⟩,
    ⟨some 44, .iaddr (.st (.cons (.int .i64) (.cons (.int .i64) (.cons (.sl (.int .i64)) (.sl (.int .i64)))))), [.t 39, .t 41], none, []⟩,
    ⟨some 45, .load (.st (.cons (.int .i64) (.cons (.int .i64) (.cons (.sl (.int .i64)) (.sl (.int .i64)))))), [.t 44], none, []⟩,
    ⟨some 14, .alloc 54 (.st (.cons (.int .i64) (.cons (.int .i64) (.cons (.sl (.int .i64)) (.sl (.int .i64)))))), [], none, []⟩,
    ⟨some 13, .mv, [.t 43], none, []⟩,
    ⟨none, .store (.st (.cons (.int .i64) (.cons (.int .i64) (.cons (.sl (.int .i64)) (.sl (.int .i64)))))), [.t 14, .t 45], none, []⟩])
  (.reg true [
    ⟨some 46, .load (.sl (.sl (.int .i64))), [.t 12], none, []⟩,
    ⟨some 47, .faddr 0 (.int .i64), [.t 14], none, []⟩,
    ⟨some 48, .load (.int .i64), [.t 47], none, [1]⟩,
    ⟨some 49, .load (.sl (.sl (.int .i64))), [.t 12], none, []⟩,
    ⟨some 50, .faddr 0 (.int .i64), [.t 14], none, []⟩,
    ⟨some 51, .load (.int .i64), [.t 50], none, [4]⟩,
    ⟨some 52, .iaddr (.sl (.int .i64)), [.t 49, .t 51], none, [3, 5, 4]⟩,
    ⟨some 53, .load (.sl (.int .i64)), [.t 52], none, [6, 3, 5, 4]⟩,
    ⟨some 54, .mv, [.t 13], none, []⟩,
    ⟨some 55, .bslice 3 (.int .i64) 1 [0], [.t 54], none, [8]⟩,
    ⟨some 56, .append 3 (.int .i64) 8, [.t 53, .t 55], none, [7, 6, 3, 5, 4, 9, 8]⟩,
    ⟨some 57, .iaddr (.sl (.int .i64)), [.t 46, .t 48], none, [0, 2, 1, 3, 4, 5, 6, 7, 8, 9, 10]⟩,
    ⟨none, .store (.sl (.int .i64)), [.t 57, .t 56], none, [11, 0, 2, 1, 3, 4, 5, 6, 7, 8, 9, 10]⟩])))
 (.reg false [
   ⟨some 58, .bin .add, [.t 41, .int .i64 1], none, []⟩,
   ⟨some 41, .mv, [.t 58], none, []⟩]))))
def x20_0d : List Nat := [13, 14, 41]
def x20_1 : XC := (.seq (.reg false [
   ⟨some 72, .bin .lss, [.t 71, .t 70], none, []⟩])
 (.seq (.cond (.t 72)
  .skip
  (.exit 4))
 (.seq (.block 5 (.seq (.reg false [
    ⟨some 73, .iaddr (.int .i64), [.t 69, .t 71], none, []⟩,
    ⟨some 74, .load (.int .i64), [.t 73], none, []⟩,
    ⟨some 18, .mv, [.t 74], none, []⟩])
  (.icall true [
    ⟨some 75, .load (.ptr (.st (.cons (.sl (.st (.cons (.int .i64) (.int .i64)))) (.cons (.sl .bool) .bool)))), [.t 15], none, []⟩,
    ⟨some 76, .load (.sl (.st (.cons (.int .i64) (.cons (.int .i64) (.cons (.sl (.int .i64)) (.sl (.int .i64))))))), [.t 6], none, []⟩,
    ⟨some 77, .mv, [.t 18], none, []⟩,
    ⟨some 78, .iaddr (.st (.cons (.int .i64) (.cons (.int .i64) (.cons (.sl (.int .i64)) (.sl (.int .i64)))))), [.t 76, .t 77], none, [1, 2]⟩,
    ⟨some 79, .faddr 1 (.int .i64), [.t 78], none, [3, 1, 2]⟩,
    ⟨some 80, .load (.int .i64), [.t 79], none, [4, 3, 1, 2]⟩,
    ⟨some 81, .load (.sl (.st (.cons (.int .i64) (.cons (.int .i64) (.cons (.sl (.int .i64)) (.sl (.int .i64))))))), [.t 6], none, []⟩,
    ⟨some 82, .mv, [.t 18], none, []⟩,
    ⟨some 83, .iaddr (.st (.cons (.int .i64) (.cons (.int .i64) (.cons (.sl (.int .i64)) (.sl (.int .i64)))))), [.t 81, .t 82], none, [6, 7]⟩,
    ⟨some 84, .load (.st (.cons (.int .i64) (.cons (.int .i64) (.cons (.sl (.int .i64)) (.sl (.int .i64)))))), [.t 83], none, [8, 6, 7]⟩,
    ⟨some 85, .load (.ptr (.st (.cons (.sl (.st (.cons (.int .i64) (.int .i64)))) (.cons (.sl .bool) .bool)))), [.t 15], none, []⟩,
    ⟨some 86, .nilck, [.t 85], none, [10]⟩,
    ⟨some 87, .faddr 0 (.sl (.st (.cons (.int .i64) (.int .i64)))), [.t 86], none, [11, 10]⟩,
    ⟨some 88, .load (.sl (.st (.cons (.int .i64) (.int .i64)))), [.t 87], none, [12, 11, 10]⟩,
    ⟨some 89, .mv, [.t 16], none, []⟩,
    ⟨some 90, .iaddr (.st (.cons (.int .i64) (.int .i64))), [.t 88, .t 89], none, [13, 12, 11, 10, 14]⟩,
    ⟨some 91, .faddr 0 (.int .i64), [.t 90], none, [15, 13, 12, 11, 10, 14]⟩,
    ⟨some 92, .load (.int .i64), [.t 91], none, [16, 15, 13, 12, 11, 10, 14]⟩,
    ⟨some 93, .load .bool, [.t 9], none, []⟩,
    ⟨some 94, .call 34, [.t 84, .t 92, .t 93], none, [9, 8, 6, 7, 17, 16, 15, 13, 12, 11, 10, 14, 18]⟩,
    ⟨some 95, .mv, [.t 18], none, []⟩] ⟨some 96, .callv, [.fn 33, .t 75, .t 80, .t 94, .t 95], none, [0, 5, 4, 3, 1, 2, 19, 9, 8, 6, 7, 17, 16, 15, 13, 12, 11, 10, 14, 18, 20]⟩ [] 33 x33.n x33.res x33.kv x33.code)))
 (.reg false [
   ⟨some 97, .bin .add, [.t 71, .int .i64 1], none, []⟩,
   ⟨some 71, .mv, [.t 97], none, []⟩]))))
def x20_1d : List Nat := [18, 71]
def x20_A : XC := (.reg false [
   ⟨some 16, .mv, [.t 65], none, []⟩])
def x20_B : XC := (.block 3 (.seq (.reg false [
    ⟨some 66, .load (.sl (.sl (.int .i64))), [.t 12], none, []⟩,
    ⟨some 67, .mv, [.t 16], none, []⟩,
    ⟨some 68, .iaddr (.sl (.int .i64)), [.t 66, .t 67], none, []⟩,
    ⟨some 69, .load (.sl (.int .i64)), [.t 68], none, []⟩,
    ⟨some 70, .len false, [.t 69], none, []⟩,
    ⟨some 71, .mv, [.int .i64 0], none, []⟩])
  (.clean (.block 4 (.loop x20_1)))))
def x20 : XF := ⟨102, [.tmp 10, .tmp 11], [0, 1, 2, 3, 4, 6, 9, 10, 11, 12, 13, 14, 15, 16, 18, 39, 40, 41, 64, 69, 70, 71],
 (.seq (.reg false [
   ⟨some 6, .box 22, [.t 1], none, []⟩,
   ⟨some 9, .box 4, [.t 4], none, []⟩,
   ⟨some 10, .nilrow 58 (.st (.cons (.int .i64) (.int .i64))), [], none, []⟩,
   ⟨some 11, .mv, [.int .i64 0], none, []⟩])
 (.seq (.seq (.reg false [
   ⟨some 19, .mv, [.t 0], none, []⟩,
   ⟨some 20, .load (.sl (.st (.cons (.int .i64) (.cons (.int .i64) (.cons (.sl (.int .i64)) (.sl (.int .i64))))))), [.t 6], none, []⟩,
   ⟨some 21, .call 25, [.t 19, .t 20], none, []⟩,
   ⟨some 22, .not, [.t 21], none, []⟩,
   ⟨some 23, .mv, [.t 22], none, []⟩,
   ⟨some 24, .mv, [.t 2], some (4, 23, false), []⟩,
   ⟨some 25, .bin .lss, [.t 24, .int .i64 0], some (4, 23, false), []⟩,
   ⟨some 26, .pick, [.t 23, .bool true, .t 25], none, []⟩,
   ⟨some 27, .mv, [.t 26], none, []⟩,
   ⟨some 28, .mv, [.t 2], some (8, 27, false), []⟩,
   ⟨some 29, .mv, [.t 0], some (8, 27, false), []⟩,
   ⟨some 30, .bin .geq, [.t 28, .t 29], some (8, 27, false), []⟩,
   ⟨some 31, .pick, [.t 27, .bool true, .t 30], none, []⟩,
   ⟨some 32, .mv, [.t 31], none, []⟩,
   ⟨some 33, .mv, [.t 3], some (13, 32, false), []⟩,
   ⟨some 34, .call 30, [.t 33], some (13, 32, false), []⟩,
   ⟨some 35, .not, [.t 34], some (13, 32, false), []⟩,
   ⟨some 36, .pick, [.t 32, .bool true, .t 35], none, []⟩])
 (.cond (.t 36)
  (.seq (.reg false [
    ⟨some 10, .nilrow 58 (.st (.cons (.int .i64) (.int .i64))), [], none, []⟩,
    ⟨some 11, .mv, [.int .i64 1], none, []⟩])
  .ret)
  .skip))
 (.clean (.seq (.reg false [
   ⟨some 37, .mv, [.t 0], none, []⟩,
   ⟨some 38, .mkarr 49 24, [.t 37, .t 37], none, []⟩,
   ⟨some 12, .alloc 62 (.sl (.sl (.int .i64))), [], none, []⟩,
   ⟨none, .store (.sl (.sl (.int .i64))), [.t 12, .t 38], none, []⟩])
 (.seq (.seq (.reg false [
   ⟨some 39, .load (.sl (.st (.cons (.int .i64) (.cons (.int .i64) (.cons (.sl (.int .i64)) (.sl (.int .i64))))))), [.t 6], none, []⟩,
   ⟨some 40, .len false, [.t 39], none, []⟩,
   ⟨some 41, .mv, [.int .i64 0], none, []⟩])
 (.block 0 (.top (.loop x20_0))))
 (.clean (.seq (.icall false [
   ⟨some 59, .mv, [.t 0], none, []⟩,
   ⟨some 60, .mv, [.t 2], none, []⟩,
   ⟨some 61, .mv, [.t 3], none, []⟩] ⟨some 62, .callv, [.fn 31, .t 59, .t 60, .t 61, .bool false], none, []⟩ [
   ⟨some 15, .allocz 63 false, [], none, []⟩,
   ⟨none, .store (.ptr (.st (.cons (.sl (.st (.cons (.int .i64) (.int .i64)))) (.cons (.sl .bool) .bool)))), [.t 15, .t 62], none, []⟩] 31 x31.n x31.res x31.kv x31.code)
 (.seq (.seq (.reg false [
   ⟨some 63, .load (.ptr (.st (.cons (.sl (.st (.cons (.int .i64) (.int .i64)))) (.cons (.sl .bool) .bool)))), [.t 15], none, []⟩,
   ⟨some 64, .mkbnd 32, [.t 63], none, []⟩])
 (.block 2 (.rfor (.t 64) 65 x20_A x20_B 32 62 [0, 1, 4, 5, 6, 10, 11, 12] (y32 102 65 [0, 1, 2, 3, 4, 6, 9, 10, 11, 12, 13, 14, 15, 16, 18, 39, 40, 41, 64, 69, 70, 71] x20_A x20_B))))
 (.clean (.seq (.reg false [
   ⟨some 98, .load (.ptr (.st (.cons (.sl (.st (.cons (.int .i64) (.int .i64)))) (.cons (.sl .bool) .bool)))), [.t 15], none, []⟩,
   ⟨some 99, .nilck, [.t 98], none, []⟩,
   ⟨some 100, .faddr 0 (.sl (.st (.cons (.int .i64) (.int .i64)))), [.t 99], none, []⟩,
   ⟨some 101, .load (.sl (.st (.cons (.int .i64) (.int .i64)))), [.t 100], none, []⟩,
   ⟨some 10, .mv, [.t 101], none, []⟩,
   ⟨some 11, .mv, [.int .i64 0], none, []⟩])
 .ret))))))))))⟩
/- 0=n 1=arcs 2=from 3=start 4=high 6=arcs 9=high 10= 11= 12=out 13=i 14=a 15=s 16=u 18=i 39= 40= 41= 64= 69= 70= 71= -/
/-! tonneau/road.Way -/
def x21_0 : XC := (.seq (.seq (.reg false [
   ⟨some 25, .mv, [.t 0], none, []⟩,
   ⟨some 26, .mv, [.t 2], none, []⟩,
   ⟨some 27, .iaddr (.st (.cons (.int .i64) (.int .i64))), [.t 25, .t 26], none, []⟩,
   ⟨some 28, .faddr 1 (.int .i64), [.t 27], none, []⟩,
   ⟨some 29, .load (.int .i64), [.t 28], none, []⟩,
   ⟨some 30, .bin .neq, [.t 29, .int .i64 (-1)], none, []⟩])
 (.cond (.t 30)
  .skip
  (.exit 0)))
 (.clean (.block 1 (.seq (.reg false [
    ⟨some 31, .mv, [.t 0], none, []⟩,
    ⟨some 32, .mv, [.t 2], none, []⟩,
    ⟨some 33, .iaddr (.st (.cons (.int .i64) (.int .i64))), [.t 31, .t 32], none, []⟩,
    ⟨some 34, .faddr 1 (.int .i64), [.t 33], none, []⟩,
    ⟨some 35, .load (.int .i64), [.t 34], none, []⟩,
    ⟨some 8, .mv, [.t 35], none, []⟩])
  (.clean (.seq (.seq (.reg false [
    ⟨some 36, .mv, [.t 8], none, []⟩,
    ⟨some 37, .bin .lss, [.t 36, .int .i64 0], none, []⟩,
    ⟨some 38, .mv, [.t 37], none, []⟩,
    ⟨some 39, .mv, [.t 8], some (2, 38, false), []⟩,
    ⟨some 40, .mv, [.t 1], some (2, 38, false), []⟩,
    ⟨some 41, .len false, [.t 40], some (2, 38, false), []⟩,
    ⟨some 42, .bin .geq, [.t 39, .t 41], some (2, 38, false), []⟩,
    ⟨some 43, .pick, [.t 38, .bool true, .t 42], none, []⟩,
    ⟨some 44, .mv, [.t 43], none, []⟩,
    ⟨some 45, .mv, [.t 1], some (8, 44, false), []⟩,
    ⟨some 46, .mv, [.t 8], some (8, 44, false), []⟩,
    ⟨some 47, .iaddr (.st (.cons (.int .i64) (.cons (.int .i64) (.cons (.sl (.int .i64)) (.sl (.int .i64)))))), [.t 45, .t 46], some (8, 44, false), []⟩,
    ⟨some 48, .faddr 1 (.int .i64), [.t 47], some (8, 44, false), []⟩,
    ⟨some 49, .load (.int .i64), [.t 48], some (8, 44, false), []⟩,
    ⟨some 50, .mv, [.t 2], some (8, 44, false), []⟩,
    ⟨some 51, .bin .neq, [.t 49, .t 50], some (8, 44, false), []⟩,
    ⟨some 52, .pick, [.t 44, .bool true, .t 51], none, []⟩,
    ⟨some 53, .mv, [.t 52], none, []⟩,
    ⟨some 54, .mv, [.t 1], some (17, 53, false), []⟩,
    ⟨some 55, .mv, [.t 8], some (17, 53, false), []⟩,
    ⟨some 56, .iaddr (.st (.cons (.int .i64) (.cons (.int .i64) (.cons (.sl (.int .i64)) (.sl (.int .i64)))))), [.t 54, .t 55], some (17, 53, false), []⟩,
    ⟨some 57, .faddr 0 (.int .i64), [.t 56], some (17, 53, false), []⟩,
    ⟨some 58, .load (.int .i64), [.t 57], some (17, 53, false), []⟩,
    ⟨some 59, .bin .lss, [.t 58, .int .i64 0], some (17, 53, false), []⟩,
    ⟨some 60, .pick, [.t 53, .bool true, .t 59], none, []⟩,
    ⟨some 61, .mv, [.t 60], none, []⟩,
    ⟨some 62, .mv, [.t 1], some (25, 61, false), []⟩,
    ⟨some 63, .mv, [.t 8], some (25, 61, false), []⟩,
    ⟨some 64, .iaddr (.st (.cons (.int .i64) (.cons (.int .i64) (.cons (.sl (.int .i64)) (.sl (.int .i64)))))), [.t 62, .t 63], some (25, 61, false), []⟩,
    ⟨some 65, .faddr 0 (.int .i64), [.t 64], some (25, 61, false), []⟩,
    ⟨some 66, .load (.int .i64), [.t 65], some (25, 61, false), []⟩,
    ⟨some 67, .mv, [.t 0], some (25, 61, false), []⟩,
    ⟨some 68, .len false, [.t 67], some (25, 61, false), []⟩,
    ⟨some 69, .bin .geq, [.t 66, .t 68], some (25, 61, false), []⟩,
    ⟨some 70, .pick, [.t 61, .bool true, .t 69], none, []⟩,
    ⟨some 71, .mv, [.t 70], none, []⟩,
    ⟨some 72, .mv, [.t 7], some (35, 71, false), []⟩,
    ⟨some 73, .len false, [.t 72], some (35, 71, false), []⟩,
    ⟨some 74, .mv, [.t 0], some (35, 71, false), []⟩,
    ⟨some 75, .len false, [.t 74], some (35, 71, false), []⟩,
    ⟨some 76, .bin .eql, [.t 73, .t 75], some (35, 71, false), []⟩,
    ⟨some 77, .pick, [.t 71, .bool true, .t 76], none, []⟩])
  (.cond (.t 77)
   (.seq (.reg false [
     ⟨some 6, .nilrow 3 (.int .i64), [], none, []⟩])
   .ret)
   .skip))
  (.clean (.seq (.reg false [
    ⟨some 78, .mv, [.t 7], none, []⟩,
    ⟨some 79, .mv, [.t 8], none, []⟩,
    ⟨some 80, .bslice 3 (.int .i64) 1 [0], [.t 79], none, []⟩,
    ⟨some 81, .append 3 (.int .i64) 8, [.t 78, .t 80], none, []⟩,
    ⟨some 7, .mv, [.t 81], none, []⟩])
  (.reg false [
    ⟨some 82, .mv, [.t 1], none, []⟩,
    ⟨some 83, .mv, [.t 8], none, []⟩,
    ⟨some 84, .iaddr (.st (.cons (.int .i64) (.cons (.int .i64) (.cons (.sl (.int .i64)) (.sl (.int .i64)))))), [.t 82, .t 83], none, []⟩,
    ⟨some 85, .faddr 0 (.int .i64), [.t 84], none, []⟩,
    ⟨some 86, .load (.int .i64), [.t 85], none, []⟩,
    ⟨some 2, .mv, [.t 86], none, []⟩])))))))))
def x21_0d : List Nat := [2, 6, 7, 8]
def x21 : XF := ⟨90, [.tmp 6], [0, 1, 2, 6, 7, 8],
 (.seq (.reg false [
   ⟨some 6, .nilrow 3 (.int .i64), [], none, []⟩])
 (.seq (.seq (.reg false [
   ⟨some 9, .mv, [.t 2], none, []⟩,
   ⟨some 10, .bin .lss, [.t 9, .int .i64 0], none, []⟩,
   ⟨some 11, .mv, [.t 10], none, []⟩,
   ⟨some 12, .mv, [.t 2], some (2, 11, false), []⟩,
   ⟨some 13, .mv, [.t 0], some (2, 11, false), []⟩,
   ⟨some 14, .len false, [.t 13], some (2, 11, false), []⟩,
   ⟨some 15, .bin .geq, [.t 12, .t 14], some (2, 11, false), []⟩,
   ⟨some 16, .pick, [.t 11, .bool true, .t 15], none, []⟩,
   ⟨some 17, .mv, [.t 16], none, []⟩,
   ⟨some 18, .mv, [.t 0], some (8, 17, false), []⟩,
   ⟨some 19, .mv, [.t 2], some (8, 17, false), []⟩,
   ⟨some 20, .iaddr (.st (.cons (.int .i64) (.int .i64))), [.t 18, .t 19], some (8, 17, false), []⟩,
   ⟨some 21, .faddr 0 (.int .i64), [.t 20], some (8, 17, false), []⟩,
   ⟨some 22, .load (.int .i64), [.t 21], some (8, 17, false), []⟩,
   ⟨some 23, .bin .eql, [.t 22, .int .i64 (-1)], some (8, 17, false), []⟩,
   ⟨some 24, .pick, [.t 17, .bool true, .t 23], none, []⟩])
 (.cond (.t 24)
  (.seq (.reg false [
    ⟨some 6, .nilrow 3 (.int .i64), [], none, []⟩])
  .ret)
  .skip))
 (.clean (.seq (.reg false [
   ⟨some 7, .nilrow 3 (.int .i64), [], none, []⟩])
 (.seq (.block 0 (.loop x21_0))
 (.clean (.seq (.icall false [
   ⟨some 87, .mv, [.t 7], none, []⟩] ⟨some 88, .callv, [.fn 35, .t 87], none, []⟩ [] 35 x35.n x35.res x35.kv x35.code)
 (.seq (.reg false [
   ⟨some 89, .mv, [.t 7], none, []⟩,
   ⟨some 6, .mv, [.t 89], none, []⟩])
 .ret))))))))⟩
/- 0=labels 1=arcs 2=to 6= 7=out 8=i -/
/-! tonneau/tonneaulaw45.at -/
def x22 : XF := ⟨11, [.cell 6 (.st (.cons (.int .i64) (.cons (.int .i64) (.int .i64))))], [0, 1, 2, 6],
 (.seq (.reg false [
   ⟨some 6, .alloc 25 (.st (.cons (.int .i64) (.cons (.int .i64) (.int .i64)))), [], none, []⟩])
 (.seq (.reg false [
   ⟨some 7, .mv, [.t 0], none, []⟩,
   ⟨some 8, .mv, [.t 1], none, []⟩,
   ⟨some 9, .mv, [.t 2], none, []⟩,
   ⟨some 10, .build (.st (.cons (.int .i64) (.cons (.int .i64) (.int .i64)))) [(0, (.int .i64)), (1, (.int .i64)), (2, (.int .i64))], [.t 7, .t 8, .t 9], none, []⟩,
   ⟨none, .store (.st (.cons (.int .i64) (.cons (.int .i64) (.int .i64)))), [.t 6, .t 10], none, []⟩])
 .ret))⟩
/- 0=time 1=node 2=n 6= -/
/-! tonneau/clock.Took -/
def x23 : XF := ⟨15, [.tmp 6], [0, 1, 2, 3, 6],
 (.seq (.reg false [
   ⟨some 3, .box 54, [.t 0], none, []⟩,
   ⟨some 6, .mv, [.int .i64 0], none, []⟩])
 (.seq (.seq (.reg false [
   ⟨some 7, .load (.st (.cons (.int .i64) (.cons (.int .i64) (.cons (.sl (.int .i64)) (.sl (.int .i64)))))), [.t 3], none, []⟩,
   ⟨some 8, .mv, [.t 1], none, []⟩,
   ⟨some 9, .call 36, [.t 7, .t 8], none, []⟩,
   ⟨some 10, .not, [.t 9], none, []⟩])
 (.cond (.t 10)
  (.seq (.reg false [
    ⟨some 6, .mv, [.int .i64 (-1)], none, []⟩])
  .ret)
  .skip))
 (.clean (.seq (.reg false [
   ⟨some 11, .load (.st (.cons (.int .i64) (.cons (.int .i64) (.cons (.sl (.int .i64)) (.sl (.int .i64)))))), [.t 3], none, []⟩,
   ⟨some 12, .mv, [.t 1], none, []⟩,
   ⟨some 13, .mv, [.t 2], none, []⟩,
   ⟨some 14, .call 37, [.t 11, .t 12, .t 13], none, []⟩,
   ⟨some 6, .mv, [.t 14], none, []⟩])
 .ret))))⟩
/- 0=a 1=t 2=high 3=a 6= -/
/-! tonneau/tonneaulaw45.arc -/
def x24_0 : XC := (.seq (.seq (.reg false [
   ⟨some 10, .mv, [.t 6], none, []⟩,
   ⟨some 11, .bin .lss, [.t 10, .int .i64 24], none, []⟩])
 (.cond (.t 11)
  .skip
  (.exit 0)))
 (.seq (.block 1 (.seq (.reg false [
    ⟨some 14, .faddr 2 (.sl (.int .i64)), [.t 5], none, []⟩,
    ⟨some 15, .load (.sl (.int .i64)), [.t 14], none, []⟩,
    ⟨some 16, .bslice 3 (.int .i64) 1 [0], [.int .i64 10], none, []⟩,
    ⟨some 17, .append 3 (.int .i64) 8, [.t 15, .t 16], none, []⟩,
    ⟨some 18, .faddr 2 (.sl (.int .i64)), [.t 5], none, []⟩,
    ⟨none, .store (.sl (.int .i64)), [.t 18, .t 17], none, []⟩])
  (.reg false [
    ⟨some 19, .faddr 3 (.sl (.int .i64)), [.t 5], none, []⟩,
    ⟨some 20, .load (.sl (.int .i64)), [.t 19], none, []⟩,
    ⟨some 21, .bslice 3 (.int .i64) 1 [0], [.int .i64 20], none, []⟩,
    ⟨some 22, .append 3 (.int .i64) 8, [.t 20, .t 21], none, []⟩,
    ⟨some 23, .faddr 3 (.sl (.int .i64)), [.t 5], none, []⟩,
    ⟨none, .store (.sl (.int .i64)), [.t 23, .t 22], none, []⟩])))
 (.clean (.reg false [
   ⟨some 12, .mv, [.t 6], none, []⟩,
   ⟨some 13, .bin .add, [.t 12, .int .i64 1], none, []⟩,
   ⟨some 6, .mv, [.t 13], none, []⟩]))))
def x24_0d : List Nat := [6]
def x24 : XF := ⟨25, [.cell 4 (.st (.cons (.int .i64) (.cons (.int .i64) (.cons (.sl (.int .i64)) (.sl (.int .i64))))))], [0, 1, 4, 5, 6],
 (.seq (.reg false [
   ⟨some 4, .alloc 54 (.st (.cons (.int .i64) (.cons (.int .i64) (.cons (.sl (.int .i64)) (.sl (.int .i64)))))), [], none, []⟩])
 (.seq (.reg false [
   ⟨some 7, .mv, [.t 0], none, []⟩,
   ⟨some 8, .mv, [.t 1], none, []⟩,
   ⟨some 9, .build (.st (.cons (.int .i64) (.cons (.int .i64) (.cons (.sl (.int .i64)) (.sl (.int .i64)))))) [(0, (.int .i64)), (1, (.int .i64))], [.t 7, .t 8], none, []⟩,
   ⟨some 5, .alloc 54 (.st (.cons (.int .i64) (.cons (.int .i64) (.cons (.sl (.int .i64)) (.sl (.int .i64)))))), [], none, []⟩,
   ⟨none, .store (.st (.cons (.int .i64) (.cons (.int .i64) (.cons (.sl (.int .i64)) (.sl (.int .i64)))))), [.t 5, .t 9], none, []⟩])
 (.seq (.seq (.reg false [
   ⟨some 6, .mv, [.int .i64 0], none, []⟩])
 (.block 0 (.loop x24_0)))
 (.seq (.reg false [
   ⟨some 24, .load (.st (.cons (.int .i64) (.cons (.int .i64) (.cons (.sl (.int .i64)) (.sl (.int .i64)))))), [.t 5], none, []⟩,
   ⟨none, .store (.st (.cons (.int .i64) (.cons (.int .i64) (.cons (.sl (.int .i64)) (.sl (.int .i64)))))), [.t 4, .t 24], none, []⟩])
 .ret))))⟩
/- 0=from 1=to 4= 5=a 6=i -/
/-! tonneau/road.Right -/
def x25 : XF := ⟨24, [.tmp 4], [0, 1, 2, 4, 5],
 (.seq (.reg false [
   ⟨some 2, .box 3, [.t 0], none, []⟩,
   ⟨some 4, .mv, [.bool false], none, []⟩])
 (.seq (.reg false [
   ⟨some 6, .mkfn 38, [.t 2], none, []⟩,
   ⟨some 5, .mv, [.t 6], none, []⟩])
 (.seq (.reg false [
   ⟨some 7, .load (.int .i64), [.t 2], none, []⟩,
   ⟨some 8, .bin .geq, [.t 7, .int .i64 1], none, []⟩,
   ⟨some 9, .mv, [.t 8], none, []⟩,
   ⟨some 10, .load (.int .i64), [.t 2], some (2, 9, true), []⟩,
   ⟨some 11, .bin .leq, [.t 10, .int .i64 2000], some (2, 9, true), []⟩,
   ⟨some 12, .pick, [.t 9, .t 11, .bool false], none, []⟩,
   ⟨some 13, .mv, [.t 12], none, []⟩,
   ⟨some 14, .mv, [.t 1], some (6, 13, true), []⟩,
   ⟨some 15, .len false, [.t 14], some (6, 13, true), []⟩,
   ⟨some 16, .bin .leq, [.t 15, .int .i64 20000], some (6, 13, true), []⟩,
   ⟨some 17, .pick, [.t 13, .t 16, .bool false], none, []⟩,
   ⟨some 18, .mv, [.t 17], none, []⟩,
   ⟨some 19, .mv, [.t 1], some (11, 18, true), []⟩,
   ⟨some 20, .mv, [.t 5], some (11, 18, true), []⟩,
   ⟨some 21, .call 40, [.t 19, .t 20], some (11, 18, true), []⟩,
   ⟨some 22, .not, [.t 21], some (11, 18, true), []⟩,
   ⟨some 23, .pick, [.t 18, .t 22, .bool false], none, []⟩,
   ⟨some 4, .mv, [.t 23], none, []⟩])
 .ret)))⟩
/- 0=n 1=arcs 2=n 4= 5=bad -/
/-! tonneau/tonneauref11.Right -/
def x26_0 : XC := (.seq (.seq (.reg false [
   ⟨some 17, .mv, [.t 5], none, []⟩,
   ⟨some 18, .mv, [.t 1], none, []⟩,
   ⟨some 19, .len false, [.t 18], none, []⟩,
   ⟨some 20, .bin .lss, [.t 17, .t 19], none, []⟩])
 (.cond (.t 20)
  .skip
  (.exit 0)))
 (.seq (.block 1 (.seq (.seq (.reg false [
    ⟨some 23, .mv, [.t 1], none, []⟩,
    ⟨some 24, .mv, [.t 5], none, []⟩,
    ⟨some 25, .iaddr (.st (.cons (.int .i64) (.cons (.int .i64) (.cons (.sl (.int .i64)) (.sl (.int .i64)))))), [.t 23, .t 24], none, []⟩,
    ⟨some 26, .load (.st (.cons (.int .i64) (.cons (.int .i64) (.cons (.sl (.int .i64)) (.sl (.int .i64)))))), [.t 25], none, []⟩,
    ⟨some 27, .call 41, [.t 26], none, []⟩,
    ⟨some 28, .not, [.t 27], none, []⟩])
  (.cond (.t 28)
   (.seq (.reg false [
     ⟨some 4, .mv, [.bool false], none, []⟩])
   .ret)
   .skip))
  (.clean (.seq (.reg false [
    ⟨some 29, .mv, [.t 1], none, []⟩,
    ⟨some 30, .mv, [.t 5], none, []⟩,
    ⟨some 31, .iaddr (.st (.cons (.int .i64) (.cons (.int .i64) (.cons (.sl (.int .i64)) (.sl (.int .i64)))))), [.t 29, .t 30], none, []⟩,
    ⟨some 32, .faddr 0 (.int .i64), [.t 31], none, []⟩,
    ⟨some 33, .load (.int .i64), [.t 32], none, []⟩,
    ⟨some 34, .mv, [.t 0], none, []⟩,
    ⟨some 35, .bin .geq, [.t 33, .t 34], none, []⟩,
    ⟨some 36, .mv, [.t 35], none, []⟩,
    ⟨some 37, .mv, [.t 1], some (7, 36, false), []⟩,
    ⟨some 38, .mv, [.t 5], some (7, 36, false), []⟩,
    ⟨some 39, .iaddr (.st (.cons (.int .i64) (.cons (.int .i64) (.cons (.sl (.int .i64)) (.sl (.int .i64)))))), [.t 37, .t 38], some (7, 36, false), []⟩,
    ⟨some 40, .faddr 1 (.int .i64), [.t 39], some (7, 36, false), []⟩,
    ⟨some 41, .load (.int .i64), [.t 40], some (7, 36, false), []⟩,
    ⟨some 42, .mv, [.t 0], some (7, 36, false), []⟩,
    ⟨some 43, .bin .geq, [.t 41, .t 42], some (7, 36, false), []⟩,
    ⟨some 44, .pick, [.t 36, .bool true, .t 43], none, []⟩])
  (.cond (.t 44)
   (.seq (.reg false [
     ⟨some 4, .mv, [.bool false], none, []⟩])
   .ret)
   .skip)))))
 (.clean (.reg false [
   ⟨some 21, .mv, [.t 5], none, []⟩,
   ⟨some 22, .bin .add, [.t 21, .int .i64 1], none, []⟩,
   ⟨some 5, .mv, [.t 22], none, []⟩]))))
def x26_0d : List Nat := [4, 5]
def x26 : XF := ⟨45, [.tmp 4], [0, 1, 4, 5],
 (.seq (.reg false [
   ⟨some 4, .mv, [.bool false], none, []⟩])
 (.seq (.seq (.reg false [
   ⟨some 6, .mv, [.t 0], none, []⟩,
   ⟨some 7, .bin .lss, [.t 6, .int .i64 1], none, []⟩,
   ⟨some 8, .mv, [.t 7], none, []⟩,
   ⟨some 9, .mv, [.t 0], some (2, 8, false), []⟩,
   ⟨some 10, .bin .gtr, [.t 9, .int .i64 2000], some (2, 8, false), []⟩,
   ⟨some 11, .pick, [.t 8, .bool true, .t 10], none, []⟩,
   ⟨some 12, .mv, [.t 11], none, []⟩,
   ⟨some 13, .mv, [.t 1], some (6, 12, false), []⟩,
   ⟨some 14, .len false, [.t 13], some (6, 12, false), []⟩,
   ⟨some 15, .bin .gtr, [.t 14, .int .i64 20000], some (6, 12, false), []⟩,
   ⟨some 16, .pick, [.t 12, .bool true, .t 15], none, []⟩])
 (.cond (.t 16)
  (.seq (.reg false [
    ⟨some 4, .mv, [.bool false], none, []⟩])
  .ret)
  .skip))
 (.clean (.seq (.seq (.reg false [
   ⟨some 5, .mv, [.int .i64 0], none, []⟩])
 (.block 0 (.loop x26_0)))
 (.seq (.reg false [
   ⟨some 4, .mv, [.bool true], none, []⟩])
 .ret)))))⟩
/- 0=n 1=arcs 4= 5=i -/
/-! tonneau/tonneauref11.Early -/
def x27_1 : XC := (.seq (.seq (.reg false [
   ⟨some 46, .mv, [.t 15], none, []⟩,
   ⟨some 47, .mv, [.t 0], none, []⟩,
   ⟨some 48, .bin .lss, [.t 46, .t 47], none, []⟩])
 (.cond (.t 48)
  .skip
  (.exit 2)))
 (.seq (.block 3 (.seq (.reg true [
    ⟨some 51, .mv, [.t 13], none, []⟩,
    ⟨some 52, .mv, [.t 15], none, []⟩,
    ⟨some 53, .iaddr .bool, [.t 51, .t 52], none, [0, 1]⟩,
    ⟨some 54, .load .bool, [.t 53], none, [2, 0, 1]⟩,
    ⟨some 55, .not, [.t 54], none, [3, 2, 0, 1]⟩,
    ⟨some 56, .mv, [.t 55], none, [4, 3, 2, 0, 1]⟩,
    ⟨some 57, .mv, [.t 12], some (5, 56, true), [5, 4, 3, 2, 0, 1]⟩,
    ⟨some 58, .mv, [.t 15], some (5, 56, true), [5, 4, 3, 2, 0, 1]⟩,
    ⟨some 59, .iaddr (.st (.cons (.int .i64) (.int .i64))), [.t 57, .t 58], some (5, 56, true), [6, 5, 4, 3, 2, 0, 1, 7]⟩,
    ⟨some 60, .faddr 0 (.int .i64), [.t 59], some (5, 56, true), [8, 6, 5, 4, 3, 2, 0, 1, 7]⟩,
    ⟨some 61, .load (.int .i64), [.t 60], some (5, 56, true), [9, 8, 6, 5, 4, 3, 2, 0, 1, 7]⟩,
    ⟨some 62, .bin .geq, [.t 61, .int .i64 0], some (5, 56, true), [10, 9, 8, 6, 5, 4, 3, 2, 0, 1, 7]⟩,
    ⟨some 63, .pick, [.t 56, .t 62, .bool false], none, [5, 4, 3, 2, 0, 1, 11, 10, 9, 8, 6, 7]⟩,
    ⟨some 64, .mv, [.t 63], none, [12, 5, 4, 3, 2, 0, 1, 11, 10, 9, 8, 6, 7]⟩,
    ⟨some 65, .mv, [.t 14], some (13, 64, true), [13, 12, 5, 4, 3, 2, 0, 1, 11, 10, 9, 8, 6, 7]⟩,
    ⟨some 66, .bin .lss, [.t 65, .int .i64 0], some (13, 64, true), [14, 13, 12, 5, 4, 3, 2, 0, 1, 11, 10, 9, 8, 6, 7]⟩,
    ⟨some 67, .mv, [.t 66], some (13, 64, true), [15, 14, 13, 12, 5, 4, 3, 2, 0, 1, 11, 10, 9, 8, 6, 7]⟩,
    ⟨some 68, .mv, [.t 12], some (16, 67, false), [16, 15, 14, 13, 12, 5, 4, 3, 2, 0, 1, 11, 10, 9, 8, 6, 7]⟩,
    ⟨some 69, .mv, [.t 15], some (16, 67, false), [16, 15, 14, 13, 12, 5, 4, 3, 2, 0, 1, 11, 10, 9, 8, 6, 7]⟩,
    ⟨some 70, .iaddr (.st (.cons (.int .i64) (.int .i64))), [.t 68, .t 69], some (16, 67, false), [17, 16, 15, 14, 13, 12, 5, 4, 3, 2, 0, 1, 11, 10, 9, 8, 6, 7, 18]⟩,
    ⟨some 71, .faddr 0 (.int .i64), [.t 70], some (16, 67, false), [19, 17, 16, 15, 14, 13, 12, 5, 4, 3, 2, 0, 1, 11, 10, 9, 8, 6, 7, 18]⟩,
    ⟨some 72, .load (.int .i64), [.t 71], some (16, 67, false), [20, 19, 17, 16, 15, 14, 13, 12, 5, 4, 3, 2, 0, 1, 11, 10, 9, 8, 6, 7, 18]⟩,
    ⟨some 73, .mv, [.t 12], some (16, 67, false), [16, 15, 14, 13, 12, 5, 4, 3, 2, 0, 1, 11, 10, 9, 8, 6, 7]⟩,
    ⟨some 74, .mv, [.t 14], some (16, 67, false), [16, 15, 14, 13, 12, 5, 4, 3, 2, 0, 1, 11, 10, 9, 8, 6, 7]⟩,
    ⟨some 75, .max, [.t 74, .int .i64 0], some (16, 67, false), [23, 16, 15, 14, 13, 12, 5, 4, 3, 2, 0, 1, 11, 10, 9, 8, 6, 7]⟩,
    ⟨some 76, .iaddr (.st (.cons (.int .i64) (.int .i64))), [.t 73, .t 75], some (16, 67, false), [22, 16, 15, 14, 13, 12, 5, 4, 3, 2, 0, 1, 11, 10, 9, 8, 6, 7, 24, 23]⟩,
    ⟨some 77, .faddr 0 (.int .i64), [.t 76], some (16, 67, false), [25, 22, 16, 15, 14, 13, 12, 5, 4, 3, 2, 0, 1, 11, 10, 9, 8, 6, 7, 24, 23]⟩,
    ⟨some 78, .load (.int .i64), [.t 77], some (16, 67, false), [26, 25, 22, 16, 15, 14, 13, 12, 5, 4, 3, 2, 0, 1, 11, 10, 9, 8, 6, 7, 24, 23]⟩,
    ⟨some 79, .bin .lss, [.t 72, .t 78], some (16, 67, false), [21, 20, 19, 17, 16, 15, 14, 13, 12, 5, 4, 3, 2, 0, 1, 11, 10, 9, 8, 6, 7, 18, 27, 26, 25, 22, 24, 23]⟩,
    ⟨some 80, .pick, [.t 67, .bool true, .t 79], some (13, 64, true), [16, 15, 14, 13, 12, 5, 4, 3, 2, 0, 1, 11, 10, 9, 8, 6, 7, 28, 21, 20, 19, 17, 18, 27, 26, 25, 22, 24, 23]⟩,
    ⟨some 81, .pick, [.t 64, .t 80, .bool false], none, [13, 12, 5, 4, 3, 2, 0, 1, 11, 10, 9, 8, 6, 7, 29, 16, 15, 14, 28, 21, 20, 19, 17, 18, 27, 26, 25, 22, 24, 23]⟩])
  (.cond (.t 81)
   (.reg false [
     ⟨some 82, .mv, [.t 15], none, []⟩,
     ⟨some 14, .mv, [.t 82], none, []⟩])
   .skip)))
 (.clean (.reg false [
   ⟨some 49, .mv, [.t 15], none, []⟩,
   ⟨some 50, .bin .add, [.t 49, .int .i64 1], none, []⟩,
   ⟨some 15, .mv, [.t 50], none, []⟩]))))
def x27_1d : List Nat := [14, 15]
def x27_2 : XC := (.seq (.seq (.reg false [
   ⟨some 89, .mv, [.t 16], none, []⟩,
   ⟨some 90, .mv, [.t 1], none, []⟩,
   ⟨some 91, .len false, [.t 90], none, []⟩,
   ⟨some 92, .bin .lss, [.t 89, .t 91], none, []⟩])
 (.cond (.t 92)
  .skip
  (.exit 4)))
 (.seq (.block 5 (.seq (.reg false [
    ⟨some 95, .mv, [.t 1], none, []⟩,
    ⟨some 96, .mv, [.t 16], none, []⟩,
    ⟨some 97, .iaddr (.st (.cons (.int .i64) (.cons (.int .i64) (.cons (.sl (.int .i64)) (.sl (.int .i64)))))), [.t 95, .t 96], none, []⟩,
    ⟨some 98, .faddr 1 (.int .i64), [.t 97], none, []⟩,
    ⟨some 99, .load (.int .i64), [.t 98], none, []⟩,
    ⟨some 17, .mv, [.t 99], none, []⟩])
  (.clean (.seq (.seq (.reg false [
    ⟨some 100, .mv, [.t 1], none, []⟩,
    ⟨some 101, .mv, [.t 16], none, []⟩,
    ⟨some 102, .iaddr (.st (.cons (.int .i64) (.cons (.int .i64) (.cons (.sl (.int .i64)) (.sl (.int .i64)))))), [.t 100, .t 101], none, []⟩,
    ⟨some 103, .faddr 0 (.int .i64), [.t 102], none, []⟩,
    ⟨some 104, .load (.int .i64), [.t 103], none, []⟩,
    ⟨some 105, .mv, [.t 14], none, []⟩,
    ⟨some 106, .bin .neq, [.t 104, .t 105], none, []⟩,
    ⟨some 107, .mv, [.t 106], none, []⟩,
    ⟨some 108, .mv, [.t 13], some (7, 107, false), []⟩,
    ⟨some 109, .mv, [.t 17], some (7, 107, false), []⟩,
    ⟨some 110, .iaddr .bool, [.t 108, .t 109], some (7, 107, false), []⟩,
    ⟨some 111, .load .bool, [.t 110], some (7, 107, false), []⟩,
    ⟨some 112, .pick, [.t 107, .bool true, .t 111], none, []⟩])
  (.cond (.t 112)
   (.exit 5)
   .skip))
  (.clean (.seq (.reg true [
    ⟨some 113, .mv, [.t 1], none, []⟩,
    ⟨some 114, .mv, [.t 16], none, []⟩,
    ⟨some 115, .iaddr (.st (.cons (.int .i64) (.cons (.int .i64) (.cons (.sl (.int .i64)) (.sl (.int .i64)))))), [.t 113, .t 114], none, [0, 1]⟩,
    ⟨some 116, .load (.st (.cons (.int .i64) (.cons (.int .i64) (.cons (.sl (.int .i64)) (.sl (.int .i64)))))), [.t 115], none, [2, 0, 1]⟩,
    ⟨some 117, .mv, [.t 12], none, []⟩,
    ⟨some 118, .mv, [.t 14], none, []⟩,
    ⟨some 119, .iaddr (.st (.cons (.int .i64) (.int .i64))), [.t 117, .t 118], none, [4, 5]⟩,
    ⟨some 120, .faddr 0 (.int .i64), [.t 119], none, [6, 4, 5]⟩,
    ⟨some 121, .load (.int .i64), [.t 120], none, [7, 6, 4, 5]⟩,
    ⟨some 122, .mv, [.t 4], none, []⟩,
    ⟨some 123, .call 44, [.t 116, .t 121, .t 122], none, [3, 2, 0, 1, 8, 7, 6, 4, 5, 9]⟩,
    ⟨some 18, .mv, [.t 123], none, [10, 3, 2, 0, 1, 8, 7, 6, 4, 5, 9]⟩])
  (.clean (.seq (.reg false [
    ⟨some 124, .mv, [.t 18], none, []⟩,
    ⟨some 125, .call 42, [.t 124], none, []⟩,
    ⟨some 126, .mv, [.t 125], none, []⟩,
    ⟨some 127, .mv, [.t 12], some (2, 126, true), []⟩,
    ⟨some 128, .mv, [.t 17], some (2, 126, true), []⟩,
    ⟨some 129, .iaddr (.st (.cons (.int .i64) (.int .i64))), [.t 127, .t 128], some (2, 126, true), []⟩,
    ⟨some 130, .faddr 0 (.int .i64), [.t 129], some (2, 126, true), []⟩,
    ⟨some 131, .load (.int .i64), [.t 130], some (2, 126, true), []⟩,
    ⟨some 132, .bin .lss, [.t 131, .int .i64 0], some (2, 126, true), []⟩,
    ⟨some 133, .mv, [.t 132], some (2, 126, true), []⟩,
    ⟨some 134, .mv, [.t 18], some (9, 133, false), []⟩,
    ⟨some 135, .mv, [.t 12], some (9, 133, false), []⟩,
    ⟨some 136, .mv, [.t 17], some (9, 133, false), []⟩,
    ⟨some 137, .iaddr (.st (.cons (.int .i64) (.int .i64))), [.t 135, .t 136], some (9, 133, false), []⟩,
    ⟨some 138, .faddr 0 (.int .i64), [.t 137], some (9, 133, false), []⟩,
    ⟨some 139, .load (.int .i64), [.t 138], some (9, 133, false), []⟩,
    ⟨some 140, .bin .lss, [.t 134, .t 139], some (9, 133, false), []⟩,
    ⟨some 141, .pick, [.t 133, .bool true, .t 140], some (2, 126, true), []⟩,
    ⟨some 142, .mv, [.t 141], some (2, 126, true), []⟩,
    ⟨some 143, .mv, [.t 18], some (18, 142, false), []⟩,
    ⟨some 144, .mv, [.t 12], some (18, 142, false), []⟩,
    ⟨some 145, .mv, [.t 17], some (18, 142, false), []⟩,
    ⟨some 146, .iaddr (.st (.cons (.int .i64) (.int .i64))), [.t 144, .t 145], some (18, 142, false), []⟩,
    ⟨some 147, .faddr 0 (.int .i64), [.t 146], some (18, 142, false), []⟩,
    ⟨some 148, .load (.int .i64), [.t 147], some (18, 142, false), []⟩,
    ⟨some 149, .bin .eql, [.t 143, .t 148], some (18, 142, false), []⟩,
    ⟨some 150, .mv, [.t 149], some (18, 142, false), []⟩,
    ⟨some 151, .mv, [.t 16], some (26, 150, true), []⟩,
    ⟨some 152, .mv, [.t 12], some (26, 150, true), []⟩,
    ⟨some 153, .mv, [.t 17], some (26, 150, true), []⟩,
    ⟨some 154, .iaddr (.st (.cons (.int .i64) (.int .i64))), [.t 152, .t 153], some (26, 150, true), []⟩,
    ⟨some 155, .faddr 1 (.int .i64), [.t 154], some (26, 150, true), []⟩,
    ⟨some 156, .load (.int .i64), [.t 155], some (26, 150, true), []⟩,
    ⟨some 157, .bin .lss, [.t 151, .t 156], some (26, 150, true), []⟩,
    ⟨some 158, .pick, [.t 150, .t 157, .bool false], some (18, 142, false), []⟩,
    ⟨some 159, .pick, [.t 142, .bool true, .t 158], some (2, 126, true), []⟩,
    ⟨some 160, .pick, [.t 126, .t 159, .bool false], none, []⟩])
  (.cond (.t 160)
   (.reg false [
     ⟨some 161, .mv, [.t 12], none, []⟩,
     ⟨some 162, .mv, [.t 17], none, []⟩,
     ⟨some 163, .mv, [.t 18], none, []⟩,
     ⟨some 164, .mv, [.t 16], none, []⟩,
     ⟨some 165, .build (.st (.cons (.int .i64) (.int .i64))) [(0, (.int .i64)), (1, (.int .i64))], [.t 163, .t 164], none, []⟩,
     ⟨some 166, .iaddr (.st (.cons (.int .i64) (.int .i64))), [.t 161, .t 162], none, []⟩,
     ⟨none, .store (.st (.cons (.int .i64) (.int .i64))), [.t 166, .t 165], none, []⟩])
   .skip)))))))))
 (.clean (.reg false [
   ⟨some 93, .mv, [.t 16], none, []⟩,
   ⟨some 94, .bin .add, [.t 93, .int .i64 1], none, []⟩,
   ⟨some 16, .mv, [.t 94], none, []⟩]))))
def x27_2d : List Nat := [16, 17, 18]
def x27_0 : XC := (.block 1 (.seq (.reg false [
    ⟨some 14, .mv, [.int .i64 (-1)], none, []⟩])
  (.seq (.seq (.reg false [
    ⟨some 15, .mv, [.int .i64 0], none, []⟩])
  (.block 2 (.loop x27_1)))
  (.clean (.seq (.seq (.reg false [
    ⟨some 83, .mv, [.t 14], none, []⟩,
    ⟨some 84, .bin .lss, [.t 83, .int .i64 0], none, []⟩])
  (.cond (.t 84)
   (.seq (.reg false [
     ⟨some 85, .mv, [.t 12], none, []⟩,
     ⟨some 10, .mv, [.t 85], none, []⟩,
     ⟨some 11, .mv, [.int .i64 0], none, []⟩])
   .ret)
   .skip))
  (.clean (.seq (.reg false [
    ⟨some 86, .mv, [.t 13], none, []⟩,
    ⟨some 87, .mv, [.t 14], none, []⟩,
    ⟨some 88, .iaddr .bool, [.t 86, .t 87], none, []⟩,
    ⟨none, .store .bool, [.t 88, .bool true], none, []⟩])
  (.seq (.reg false [
    ⟨some 16, .mv, [.int .i64 0], none, []⟩])
  (.block 4 (.loop x27_2))))))))))
def x27_0d : List Nat := [10, 11, 14, 15, 16, 17, 18]
def x27 : XF := ⟨167, [.tmp 10, .tmp 11], [0, 1, 2, 3, 4, 10, 11, 12, 13, 14, 15, 16, 17, 18],
 (.seq (.reg false [
   ⟨some 10, .nilrow 58 (.st (.cons (.int .i64) (.int .i64))), [], none, []⟩,
   ⟨some 11, .mv, [.int .i64 0], none, []⟩])
 (.seq (.seq (.reg false [
   ⟨some 19, .mv, [.t 0], none, []⟩,
   ⟨some 20, .mv, [.t 1], none, []⟩,
   ⟨some 21, .call 26, [.t 19, .t 20], none, []⟩,
   ⟨some 22, .not, [.t 21], none, []⟩,
   ⟨some 23, .mv, [.t 22], none, []⟩,
   ⟨some 24, .mv, [.t 2], some (4, 23, false), []⟩,
   ⟨some 25, .bin .lss, [.t 24, .int .i64 0], some (4, 23, false), []⟩,
   ⟨some 26, .pick, [.t 23, .bool true, .t 25], none, []⟩,
   ⟨some 27, .mv, [.t 26], none, []⟩,
   ⟨some 28, .mv, [.t 2], some (8, 27, false), []⟩,
   ⟨some 29, .mv, [.t 0], some (8, 27, false), []⟩,
   ⟨some 30, .bin .geq, [.t 28, .t 29], some (8, 27, false), []⟩,
   ⟨some 31, .pick, [.t 27, .bool true, .t 30], none, []⟩,
   ⟨some 32, .mv, [.t 31], none, []⟩,
   ⟨some 33, .mv, [.t 3], some (13, 32, false), []⟩,
   ⟨some 34, .call 42, [.t 33], some (13, 32, false), []⟩,
   ⟨some 35, .not, [.t 34], some (13, 32, false), []⟩,
   ⟨some 36, .pick, [.t 32, .bool true, .t 35], none, []⟩])
 (.cond (.t 36)
  (.seq (.reg false [
    ⟨some 10, .nilrow 58 (.st (.cons (.int .i64) (.int .i64))), [], none, []⟩,
    ⟨some 11, .mv, [.int .i64 1], none, []⟩])
  .ret)
  .skip))
 (.clean (.seq (.reg false [
   ⟨some 37, .mv, [.t 0], none, []⟩,
   ⟨some 38, .call 43, [.t 37], none, []⟩,
   ⟨some 12, .mv, [.t 38], none, []⟩])
 (.seq (.reg false [
   ⟨some 39, .mv, [.t 0], none, []⟩,
   ⟨some 40, .mkslice 4 .bool 1, [.t 39, .t 39], none, []⟩,
   ⟨some 13, .mv, [.t 40], none, []⟩])
 (.seq (.reg false [
   ⟨some 41, .mv, [.t 12], none, []⟩,
   ⟨some 42, .mv, [.t 2], none, []⟩,
   ⟨some 43, .mv, [.t 3], none, []⟩,
   ⟨some 44, .iaddr (.st (.cons (.int .i64) (.int .i64))), [.t 41, .t 42], none, []⟩,
   ⟨some 45, .faddr 0 (.int .i64), [.t 44], none, []⟩,
   ⟨none, .store (.int .i64), [.t 45, .t 43], none, []⟩])
 (.block 0 (.loop x27_0))))))))⟩
/- 0=n 1=arcs 2=from 3=start 4=high 10= 11= 12=out 13=done 14=u 15=i 16=i 17=v 18=t -/
/-! tonneau/odo.fine -/
def x28 : XF := ⟨34, [.tmp 4], [0, 1, 3, 4],
 (.seq (.reg false [
   ⟨some 3, .box 25, [.t 1], none, []⟩,
   ⟨some 4, .mv, [.bool false], none, []⟩])
 (.seq (.reg false [
   ⟨some 5, .faddr 0 (.int .i64), [.t 3], none, []⟩,
   ⟨some 6, .load (.int .i64), [.t 5], none, []⟩,
   ⟨some 7, .bin .leq, [.int .i64 0, .t 6], none, []⟩,
   ⟨some 8, .mv, [.t 7], none, []⟩,
   ⟨some 9, .faddr 0 (.int .i64), [.t 3], some (3, 8, true), []⟩,
   ⟨some 10, .load (.int .i64), [.t 9], some (3, 8, true), []⟩,
   ⟨some 11, .bin .leq, [.t 10, .int .i64 1048576], some (3, 8, true), []⟩,
   ⟨some 12, .pick, [.t 8, .t 11, .bool false], none, []⟩,
   ⟨some 13, .mv, [.t 12], none, []⟩,
   ⟨some 14, .faddr 1 (.int .i64), [.t 3], some (8, 13, true), []⟩,
   ⟨some 15, .load (.int .i64), [.t 14], some (8, 13, true), []⟩,
   ⟨some 16, .bin .leq, [.int .i64 0, .t 15], some (8, 13, true), []⟩,
   ⟨some 17, .pick, [.t 13, .t 16, .bool false], none, []⟩,
   ⟨some 18, .mv, [.t 17], none, []⟩,
   ⟨some 19, .faddr 1 (.int .i64), [.t 3], some (13, 18, true), []⟩,
   ⟨some 20, .load (.int .i64), [.t 19], some (13, 18, true), []⟩,
   ⟨some 21, .mv, [.t 0], some (13, 18, true), []⟩,
   ⟨some 22, .bin .lss, [.t 20, .t 21], some (13, 18, true), []⟩,
   ⟨some 23, .pick, [.t 18, .t 22, .bool false], none, []⟩,
   ⟨some 24, .mv, [.t 23], none, []⟩,
   ⟨some 25, .faddr 2 (.int .i64), [.t 3], some (19, 24, true), []⟩,
   ⟨some 26, .load (.int .i64), [.t 25], some (19, 24, true), []⟩,
   ⟨some 27, .bin .leq, [.int .i64 0, .t 26], some (19, 24, true), []⟩,
   ⟨some 28, .pick, [.t 24, .t 27, .bool false], none, []⟩,
   ⟨some 29, .mv, [.t 28], none, []⟩,
   ⟨some 30, .faddr 2 (.int .i64), [.t 3], some (24, 29, true), []⟩,
   ⟨some 31, .load (.int .i64), [.t 30], some (24, 29, true), []⟩,
   ⟨some 32, .bin .leq, [.t 31, .int .i64 1000000000000000], some (24, 29, true), []⟩,
   ⟨some 33, .pick, [.t 29, .t 32, .bool false], none, []⟩,
   ⟨some 4, .mv, [.t 33], none, []⟩])
 .ret))⟩
/- 0=n 1=d 3=d 4= -/
/-! tonneau/odo.apart -/
def x29 : XF := ⟨12, [.tmp 4], [0, 1, 4],
 (.seq (.reg false [
   ⟨some 4, .mv, [.int .i64 0], none, []⟩])
 (.seq (.reg false [
   ⟨some 5, .mv, [.t 0], none, []⟩,
   ⟨some 6, .mv, [.t 1], none, []⟩,
   ⟨some 7, .max, [.t 5, .t 6], none, []⟩,
   ⟨some 8, .mv, [.t 0], none, []⟩,
   ⟨some 9, .mv, [.t 1], none, []⟩,
   ⟨some 10, .min, [.t 8, .t 9], none, []⟩,
   ⟨some 11, .bin .sub, [.t 7, .t 10], none, []⟩,
   ⟨some 4, .mv, [.t 11], none, []⟩])
 .ret))⟩
/- 0=a 1=b 4= -/
/-! tonneau/road.isTime -/
def x30 : XF := ⟨9, [.tmp 2], [0, 2],
 (.seq (.reg false [
   ⟨some 2, .mv, [.bool false], none, []⟩])
 (.seq (.reg false [
   ⟨some 3, .mv, [.t 0], none, []⟩,
   ⟨some 4, .bin .geq, [.t 3, .int .i64 0], none, []⟩,
   ⟨some 5, .mv, [.t 4], none, []⟩,
   ⟨some 6, .mv, [.t 0], some (2, 5, true), []⟩,
   ⟨some 7, .bin .leq, [.t 6, .int .i64 1048576], some (2, 5, true), []⟩,
   ⟨some 8, .pick, [.t 5, .t 7, .bool false], none, []⟩,
   ⟨some 2, .mv, [.t 8], none, []⟩])
 .ret))⟩
/- 0=t 2= -/
/-! tonneau/clock.Pass -/
def x34 : XF := ⟨15, [.tmp 6], [0, 1, 2, 3, 6],
 (.seq (.reg false [
   ⟨some 3, .box 54, [.t 0], none, []⟩,
   ⟨some 6, .mv, [.int .i64 0], none, []⟩])
 (.seq (.seq (.reg false [
   ⟨some 7, .load (.st (.cons (.int .i64) (.cons (.int .i64) (.cons (.sl (.int .i64)) (.sl (.int .i64)))))), [.t 3], none, []⟩,
   ⟨some 8, .mv, [.t 1], none, []⟩,
   ⟨some 9, .call 36, [.t 7, .t 8], none, []⟩,
   ⟨some 10, .not, [.t 9], none, []⟩])
 (.cond (.t 10)
  (.seq (.reg false [
    ⟨some 6, .mv, [.int .i64 (-1)], none, []⟩])
  .ret)
  .skip))
 (.clean (.seq (.reg false [
   ⟨some 11, .load (.st (.cons (.int .i64) (.cons (.int .i64) (.cons (.sl (.int .i64)) (.sl (.int .i64)))))), [.t 3], none, []⟩,
   ⟨some 12, .mv, [.t 1], none, []⟩,
   ⟨some 13, .mv, [.t 2], none, []⟩,
   ⟨some 14, .call 47, [.t 11, .t 12, .t 13], none, []⟩,
   ⟨some 6, .mv, [.t 14], none, []⟩])
 .ret))))⟩
/- 0=a 1=t 2=high 3=a 6= -/
/-! tonneau/clock.valid -/
def x36 : XF := ⟨15, [.tmp 4], [0, 1, 2, 4],
 (.seq (.reg false [
   ⟨some 2, .box 54, [.t 0], none, []⟩,
   ⟨some 4, .mv, [.bool false], none, []⟩])
 (.seq (.reg false [
   ⟨some 5, .mv, [.t 1], none, []⟩,
   ⟨some 6, .bin .geq, [.t 5, .int .i64 0], none, []⟩,
   ⟨some 7, .mv, [.t 6], none, []⟩,
   ⟨some 8, .mv, [.t 1], some (2, 7, true), []⟩,
   ⟨some 9, .bin .leq, [.t 8, .int .i64 1048576], some (2, 7, true), []⟩,
   ⟨some 10, .pick, [.t 7, .t 9, .bool false], none, []⟩,
   ⟨some 11, .mv, [.t 10], none, []⟩,
   ⟨some 12, .load (.st (.cons (.int .i64) (.cons (.int .i64) (.cons (.sl (.int .i64)) (.sl (.int .i64)))))), [.t 2], some (6, 11, true), []⟩,
   ⟨some 13, .call 39, [.t 12], some (6, 11, true), []⟩,
   ⟨some 14, .pick, [.t 11, .t 13, .bool false], none, []⟩,
   ⟨some 4, .mv, [.t 14], none, []⟩])
 .ret))⟩
/- 0=a 1=t 2=a 4= -/
/-! tonneau/clock.took -/
def x37 : XF := ⟨22, [.tmp 6], [0, 1, 2, 3, 6],
 (.seq (.reg false [
   ⟨some 3, .box 54, [.t 0], none, []⟩,
   ⟨some 6, .mv, [.int .i64 0], none, []⟩])
 (.seq (.seq (.reg false [
   ⟨some 7, .mv, [.t 2], none, []⟩])
 (.cond (.t 7)
  (.seq (.reg false [
    ⟨some 8, .faddr 3 (.sl (.int .i64)), [.t 3], none, []⟩,
    ⟨some 9, .load (.sl (.int .i64)), [.t 8], none, []⟩,
    ⟨some 10, .mv, [.t 1], none, []⟩,
    ⟨some 11, .bin .quo, [.t 10, .int .i64 60], none, []⟩,
    ⟨some 12, .bin .rem, [.t 11, .int .i64 24], none, []⟩,
    ⟨some 13, .iaddr (.int .i64), [.t 9, .t 12], none, []⟩,
    ⟨some 14, .load (.int .i64), [.t 13], none, []⟩,
    ⟨some 6, .mv, [.t 14], none, []⟩])
  .ret)
  .skip))
 (.clean (.seq (.reg false [
   ⟨some 15, .faddr 2 (.sl (.int .i64)), [.t 3], none, []⟩,
   ⟨some 16, .load (.sl (.int .i64)), [.t 15], none, []⟩,
   ⟨some 17, .mv, [.t 1], none, []⟩,
   ⟨some 18, .bin .quo, [.t 17, .int .i64 60], none, []⟩,
   ⟨some 19, .bin .rem, [.t 18, .int .i64 24], none, []⟩,
   ⟨some 20, .iaddr (.int .i64), [.t 16, .t 19], none, []⟩,
   ⟨some 21, .load (.int .i64), [.t 20], none, []⟩,
   ⟨some 6, .mv, [.t 21], none, []⟩])
 .ret))))⟩
/- 0=a 1=t 2=high 3=a 6= -/
/-! tonneau/road.Right$1 -/
def x38 : XF := ⟨19, [.tmp 3], [0, 1, 2, 3],
 (.seq (.reg false [
   ⟨some 2, .box 54, [.t 0], none, []⟩,
   ⟨some 3, .mv, [.bool false], none, []⟩])
 (.seq (.reg false [
   ⟨some 4, .load (.st (.cons (.int .i64) (.cons (.int .i64) (.cons (.sl (.int .i64)) (.sl (.int .i64)))))), [.t 2], none, []⟩,
   ⟨some 5, .call 39, [.t 4], none, []⟩,
   ⟨some 6, .not, [.t 5], none, []⟩,
   ⟨some 7, .mv, [.t 6], none, []⟩,
   ⟨some 8, .faddr 0 (.int .i64), [.t 2], some (3, 7, false), []⟩,
   ⟨some 9, .load (.int .i64), [.t 8], some (3, 7, false), []⟩,
   ⟨some 10, .load (.int .i64), [.t 1], some (3, 7, false), []⟩,
   ⟨some 11, .bin .geq, [.t 9, .t 10], some (3, 7, false), []⟩,
   ⟨some 12, .pick, [.t 7, .bool true, .t 11], none, []⟩,
   ⟨some 13, .mv, [.t 12], none, []⟩,
   ⟨some 14, .faddr 1 (.int .i64), [.t 2], some (9, 13, false), []⟩,
   ⟨some 15, .load (.int .i64), [.t 14], some (9, 13, false), []⟩,
   ⟨some 16, .load (.int .i64), [.t 1], some (9, 13, false), []⟩,
   ⟨some 17, .bin .geq, [.t 15, .t 16], some (9, 13, false), []⟩,
   ⟨some 18, .pick, [.t 13, .bool true, .t 17], none, []⟩,
   ⟨some 3, .mv, [.t 18], none, []⟩])
 .ret))⟩
/- 0=a 1= 2=a 3= -/
/-! tonneau/clock.Right -/
def x39_0 : XC := (.seq (.reg false [
   ⟨some 29, .bin .lss, [.t 28, .t 27], none, []⟩])
 (.seq (.cond (.t 29)
  .skip
  (.exit 0))
 (.seq (.block 1 (.seq (.reg false [
    ⟨some 30, .mv, [.t 28], none, []⟩,
    ⟨some 31, .iaddr (.int .i64), [.t 26, .t 28], none, []⟩,
    ⟨some 32, .load (.int .i64), [.t 31], none, []⟩,
    ⟨some 3, .mv, [.t 30], none, []⟩,
    ⟨some 4, .mv, [.t 32], none, []⟩])
  (.seq (.reg false [
    ⟨some 33, .mv, [.t 4], none, []⟩,
    ⟨some 34, .bin .lss, [.t 33, .int .i64 0], none, []⟩,
    ⟨some 35, .mv, [.t 34], none, []⟩,
    ⟨some 36, .mv, [.t 4], some (2, 35, false), []⟩,
    ⟨some 37, .faddr 3 (.sl (.int .i64)), [.t 1], some (2, 35, false), []⟩,
    ⟨some 38, .load (.sl (.int .i64)), [.t 37], some (2, 35, false), []⟩,
    ⟨some 39, .mv, [.t 3], some (2, 35, false), []⟩,
    ⟨some 40, .iaddr (.int .i64), [.t 38, .t 39], some (2, 35, false), []⟩,
    ⟨some 41, .load (.int .i64), [.t 40], some (2, 35, false), []⟩,
    ⟨some 42, .bin .gtr, [.t 36, .t 41], some (2, 35, false), []⟩,
    ⟨some 43, .pick, [.t 35, .bool true, .t 42], none, []⟩,
    ⟨some 44, .mv, [.t 43], none, []⟩,
    ⟨some 45, .faddr 3 (.sl (.int .i64)), [.t 1], some (11, 44, false), []⟩,
    ⟨some 46, .load (.sl (.int .i64)), [.t 45], some (11, 44, false), []⟩,
    ⟨some 47, .mv, [.t 3], some (11, 44, false), []⟩,
    ⟨some 48, .iaddr (.int .i64), [.t 46, .t 47], some (11, 44, false), []⟩,
    ⟨some 49, .load (.int .i64), [.t 48], some (11, 44, false), []⟩,
    ⟨some 50, .bin .gtr, [.t 49, .int .i64 600], some (11, 44, false), []⟩,
    ⟨some 51, .pick, [.t 44, .bool true, .t 50], none, []⟩])
  (.cond (.t 51)
   (.seq (.reg false [
     ⟨some 2, .mv, [.bool false], none, []⟩])
   .ret)
   .skip))))
 (.reg false [
   ⟨some 52, .bin .add, [.t 28, .int .i64 1], none, []⟩,
   ⟨some 28, .mv, [.t 52], none, []⟩]))))
def x39_0d : List Nat := [2, 3, 4, 28]
def x39 : XF := ⟨53, [.tmp 2], [0, 1, 2, 3, 4, 26, 27, 28],
 (.seq (.reg false [
   ⟨some 1, .box 54, [.t 0], none, []⟩,
   ⟨some 2, .mv, [.bool false], none, []⟩])
 (.seq (.seq (.reg false [
   ⟨some 5, .faddr 0 (.int .i64), [.t 1], none, []⟩,
   ⟨some 6, .load (.int .i64), [.t 5], none, []⟩,
   ⟨some 7, .bin .lss, [.t 6, .int .i64 0], none, []⟩,
   ⟨some 8, .mv, [.t 7], none, []⟩,
   ⟨some 9, .faddr 1 (.int .i64), [.t 1], some (3, 8, false), []⟩,
   ⟨some 10, .load (.int .i64), [.t 9], some (3, 8, false), []⟩,
   ⟨some 11, .bin .lss, [.t 10, .int .i64 0], some (3, 8, false), []⟩,
   ⟨some 12, .pick, [.t 8, .bool true, .t 11], none, []⟩,
   ⟨some 13, .mv, [.t 12], none, []⟩,
   ⟨some 14, .faddr 2 (.sl (.int .i64)), [.t 1], some (8, 13, false), []⟩,
   ⟨some 15, .load (.sl (.int .i64)), [.t 14], some (8, 13, false), []⟩,
   ⟨some 16, .len false, [.t 15], some (8, 13, false), []⟩,
   ⟨some 17, .bin .neq, [.t 16, .int .i64 24], some (8, 13, false), []⟩,
   ⟨some 18, .pick, [.t 13, .bool true, .t 17], none, []⟩,
   ⟨some 19, .mv, [.t 18], none, []⟩,
   ⟨some 20, .faddr 3 (.sl (.int .i64)), [.t 1], some (14, 19, false), []⟩,
   ⟨some 21, .load (.sl (.int .i64)), [.t 20], some (14, 19, false), []⟩,
   ⟨some 22, .len false, [.t 21], some (14, 19, false), []⟩,
   ⟨some 23, .bin .neq, [.t 22, .int .i64 24], some (14, 19, false), []⟩,
   ⟨some 24, .pick, [.t 19, .bool true, .t 23], none, []⟩])
 (.cond (.t 24)
  (.seq (.reg false [
    ⟨some 2, .mv, [.bool false], none, []⟩])
  .ret)
  .skip))
 (.clean (.seq (.seq (.reg false [
   ⟨some 25, .faddr 2 (.sl (.int .i64)), [.t 1], none, []⟩,
   ⟨some 26, .load (.sl (.int .i64)), [.t 25], none, []⟩,
   ⟨some 27, .len false, [.t 26], none, []⟩,
   ⟨some 28, .mv, [.int .i64 0], none, []⟩])
 (.block 0 (.loop x39_0)))
 (.seq (.reg false [
   ⟨some 2, .mv, [.bool true], none, []⟩])
 .ret)))))⟩
/- 0=a 1=a 2= 3=h 4=low 26= 27= 28= -/
/-! slices.ContainsFunc[[]tonneau/api.Arc,tonneau/api.Arc] -/
def x40 : XF := ⟨9, [.tmp 4], [0, 1, 4],
 (.seq (.reg false [
   ⟨some 4, .mv, [.bool false], none, []⟩])
 (.seq (.reg false [
   ⟨some 5, .mv, [.t 0], none, []⟩,
   ⟨some 6, .mv, [.t 1], none, []⟩,
   ⟨some 7, .call 48, [.t 5, .t 6], none, []⟩,
   ⟨some 8, .bin .geq, [.t 7, .int .i64 0], none, []⟩,
   ⟨some 4, .mv, [.t 8], none, []⟩])
 .ret))⟩
/- 0=s 1=f 4= -/
/-! tonneau/tonneauref10.Right -/
def x41_0 : XC := (.seq (.seq (.reg false [
   ⟨some 24, .mv, [.t 3], none, []⟩,
   ⟨some 25, .bin .lss, [.t 24, .int .i64 24], none, []⟩])
 (.cond (.t 25)
  .skip
  (.exit 0)))
 (.seq (.block 1 (.seq (.reg true [
    ⟨some 28, .faddr 2 (.sl (.int .i64)), [.t 1], none, []⟩,
    ⟨some 29, .load (.sl (.int .i64)), [.t 28], none, [0]⟩,
    ⟨some 30, .mv, [.t 3], none, []⟩,
    ⟨some 31, .iaddr (.int .i64), [.t 29, .t 30], none, [1, 0, 2]⟩,
    ⟨some 32, .load (.int .i64), [.t 31], none, [3, 1, 0, 2]⟩,
    ⟨some 33, .bin .lss, [.t 32, .int .i64 0], none, [4, 3, 1, 0, 2]⟩,
    ⟨some 34, .mv, [.t 33], none, [5, 4, 3, 1, 0, 2]⟩,
    ⟨some 35, .faddr 2 (.sl (.int .i64)), [.t 1], some (6, 34, false), [6, 5, 4, 3, 1, 0, 2]⟩,
    ⟨some 36, .load (.sl (.int .i64)), [.t 35], some (6, 34, false), [7, 6, 5, 4, 3, 1, 0, 2]⟩,
    ⟨some 37, .mv, [.t 3], some (6, 34, false), [6, 5, 4, 3, 1, 0, 2]⟩,
    ⟨some 38, .iaddr (.int .i64), [.t 36, .t 37], some (6, 34, false), [8, 7, 6, 5, 4, 3, 1, 0, 2, 9]⟩,
    ⟨some 39, .load (.int .i64), [.t 38], some (6, 34, false), [10, 8, 7, 6, 5, 4, 3, 1, 0, 2, 9]⟩,
    ⟨some 40, .faddr 3 (.sl (.int .i64)), [.t 1], some (6, 34, false), [6, 5, 4, 3, 1, 0, 2]⟩,
    ⟨some 41, .load (.sl (.int .i64)), [.t 40], some (6, 34, false), [12, 6, 5, 4, 3, 1, 0, 2]⟩,
    ⟨some 42, .mv, [.t 3], some (6, 34, false), [6, 5, 4, 3, 1, 0, 2]⟩,
    ⟨some 43, .iaddr (.int .i64), [.t 41, .t 42], some (6, 34, false), [13, 12, 6, 5, 4, 3, 1, 0, 2, 14]⟩,
    ⟨some 44, .load (.int .i64), [.t 43], some (6, 34, false), [15, 13, 12, 6, 5, 4, 3, 1, 0, 2, 14]⟩,
    ⟨some 45, .bin .gtr, [.t 39, .t 44], some (6, 34, false), [11, 10, 8, 7, 6, 5, 4, 3, 1, 0, 2, 9, 16, 15, 13, 12, 14]⟩,
    ⟨some 46, .pick, [.t 34, .bool true, .t 45], none, [6, 5, 4, 3, 1, 0, 2, 17, 11, 10, 8, 7, 9, 16, 15, 13, 12, 14]⟩,
    ⟨some 47, .mv, [.t 46], none, [18, 6, 5, 4, 3, 1, 0, 2, 17, 11, 10, 8, 7, 9, 16, 15, 13, 12, 14]⟩,
    ⟨some 48, .faddr 3 (.sl (.int .i64)), [.t 1], some (19, 47, false), [19, 18, 6, 5, 4, 3, 1, 0, 2, 17, 11, 10, 8, 7, 9, 16, 15, 13, 12, 14]⟩,
    ⟨some 49, .load (.sl (.int .i64)), [.t 48], some (19, 47, false), [20, 19, 18, 6, 5, 4, 3, 1, 0, 2, 17, 11, 10, 8, 7, 9, 16, 15, 13, 12, 14]⟩,
    ⟨some 50, .mv, [.t 3], some (19, 47, false), [19, 18, 6, 5, 4, 3, 1, 0, 2, 17, 11, 10, 8, 7, 9, 16, 15, 13, 12, 14]⟩,
    ⟨some 51, .iaddr (.int .i64), [.t 49, .t 50], some (19, 47, false), [21, 20, 19, 18, 6, 5, 4, 3, 1, 0, 2, 17, 11, 10, 8, 7, 9, 16, 15, 13, 12, 14, 22]⟩,
    ⟨some 52, .load (.int .i64), [.t 51], some (19, 47, false), [23, 21, 20, 19, 18, 6, 5, 4, 3, 1, 0, 2, 17, 11, 10, 8, 7, 9, 16, 15, 13, 12, 14, 22]⟩,
    ⟨some 53, .bin .gtr, [.t 52, .int .i64 600], some (19, 47, false), [24, 23, 21, 20, 19, 18, 6, 5, 4, 3, 1, 0, 2, 17, 11, 10, 8, 7, 9, 16, 15, 13, 12, 14, 22]⟩,
    ⟨some 54, .pick, [.t 47, .bool true, .t 53], none, [19, 18, 6, 5, 4, 3, 1, 0, 2, 17, 11, 10, 8, 7, 9, 16, 15, 13, 12, 14, 25, 24, 23, 21, 20, 22]⟩])
  (.cond (.t 54)
   (.seq (.reg false [
     ⟨some 2, .mv, [.bool false], none, []⟩])
   .ret)
   .skip)))
 (.clean (.reg false [
   ⟨some 26, .mv, [.t 3], none, []⟩,
   ⟨some 27, .bin .add, [.t 26, .int .i64 1], none, []⟩,
   ⟨some 3, .mv, [.t 27], none, []⟩]))))
def x41_0d : List Nat := [2, 3]
def x41 : XF := ⟨55, [.tmp 2], [0, 1, 2, 3],
 (.seq (.reg false [
   ⟨some 1, .box 54, [.t 0], none, []⟩,
   ⟨some 2, .mv, [.bool false], none, []⟩])
 (.seq (.seq (.reg false [
   ⟨some 4, .faddr 0 (.int .i64), [.t 1], none, []⟩,
   ⟨some 5, .load (.int .i64), [.t 4], none, []⟩,
   ⟨some 6, .bin .lss, [.t 5, .int .i64 0], none, []⟩,
   ⟨some 7, .mv, [.t 6], none, []⟩,
   ⟨some 8, .faddr 1 (.int .i64), [.t 1], some (3, 7, false), []⟩,
   ⟨some 9, .load (.int .i64), [.t 8], some (3, 7, false), []⟩,
   ⟨some 10, .bin .lss, [.t 9, .int .i64 0], some (3, 7, false), []⟩,
   ⟨some 11, .pick, [.t 7, .bool true, .t 10], none, []⟩,
   ⟨some 12, .mv, [.t 11], none, []⟩,
   ⟨some 13, .faddr 2 (.sl (.int .i64)), [.t 1], some (8, 12, false), []⟩,
   ⟨some 14, .load (.sl (.int .i64)), [.t 13], some (8, 12, false), []⟩,
   ⟨some 15, .len false, [.t 14], some (8, 12, false), []⟩,
   ⟨some 16, .bin .neq, [.t 15, .int .i64 24], some (8, 12, false), []⟩,
   ⟨some 17, .pick, [.t 12, .bool true, .t 16], none, []⟩,
   ⟨some 18, .mv, [.t 17], none, []⟩,
   ⟨some 19, .faddr 3 (.sl (.int .i64)), [.t 1], some (14, 18, false), []⟩,
   ⟨some 20, .load (.sl (.int .i64)), [.t 19], some (14, 18, false), []⟩,
   ⟨some 21, .len false, [.t 20], some (14, 18, false), []⟩,
   ⟨some 22, .bin .neq, [.t 21, .int .i64 24], some (14, 18, false), []⟩,
   ⟨some 23, .pick, [.t 18, .bool true, .t 22], none, []⟩])
 (.cond (.t 23)
  (.seq (.reg false [
    ⟨some 2, .mv, [.bool false], none, []⟩])
  .ret)
  .skip))
 (.clean (.seq (.seq (.reg false [
   ⟨some 3, .mv, [.int .i64 0], none, []⟩])
 (.block 0 (.loop x41_0)))
 (.seq (.reg false [
   ⟨some 2, .mv, [.bool true], none, []⟩])
 .ret)))))⟩
/- 0=a 1=a 2= 3=h -/
/-! tonneau/tonneauref10.Time -/
def x42 : XF := ⟨9, [.tmp 2], [0, 2],
 (.seq (.reg false [
   ⟨some 2, .mv, [.bool false], none, []⟩])
 (.seq (.reg false [
   ⟨some 3, .mv, [.t 0], none, []⟩,
   ⟨some 4, .bin .geq, [.t 3, .int .i64 0], none, []⟩,
   ⟨some 5, .mv, [.t 4], none, []⟩,
   ⟨some 6, .mv, [.t 0], some (2, 5, true), []⟩,
   ⟨some 7, .bin .leq, [.t 6, .int .i64 1048576], some (2, 5, true), []⟩,
   ⟨some 8, .pick, [.t 5, .t 7, .bool false], none, []⟩,
   ⟨some 2, .mv, [.t 8], none, []⟩])
 .ret))⟩
/- 0=t 2= -/
/-! tonneau/tonneauref11.none -/
def x43_0 : XC := (.seq (.seq (.reg false [
   ⟨some 5, .mv, [.t 4], none, []⟩,
   ⟨some 6, .mv, [.t 0], none, []⟩,
   ⟨some 7, .bin .lss, [.t 5, .t 6], none, []⟩])
 (.cond (.t 7)
  .skip
  (.exit 0)))
 (.seq (.block 1 (.reg false [
    ⟨some 10, .mv, [.t 3], none, []⟩,
    ⟨some 11, .build (.st (.cons (.int .i64) (.int .i64))) [(0, (.int .i64)), (1, (.int .i64))], [.int .i64 (-1), .int .i64 (-1)], none, []⟩,
    ⟨some 12, .bslice 58 (.st (.cons (.int .i64) (.int .i64))) 1 [0], [.t 11], none, []⟩,
    ⟨some 13, .append 58 (.st (.cons (.int .i64) (.int .i64))) 16, [.t 10, .t 12], none, []⟩,
    ⟨some 3, .mv, [.t 13], none, []⟩]))
 (.reg false [
   ⟨some 8, .mv, [.t 4], none, []⟩,
   ⟨some 9, .bin .add, [.t 8, .int .i64 1], none, []⟩,
   ⟨some 4, .mv, [.t 9], none, []⟩])))
def x43_0d : List Nat := [3, 4]
def x43 : XF := ⟨15, [.tmp 2], [0, 2, 3, 4],
 (.seq (.reg false [
   ⟨some 2, .nilrow 58 (.st (.cons (.int .i64) (.int .i64))), [], none, []⟩])
 (.seq (.reg false [
   ⟨some 3, .nilrow 58 (.st (.cons (.int .i64) (.int .i64))), [], none, []⟩])
 (.seq (.seq (.reg false [
   ⟨some 4, .mv, [.int .i64 0], none, []⟩])
 (.block 0 (.loop x43_0)))
 (.seq (.reg false [
   ⟨some 14, .mv, [.t 3], none, []⟩,
   ⟨some 2, .mv, [.t 14], none, []⟩])
 .ret))))⟩
/- 0=n 2= 3=out 4=i -/
/-! tonneau/tonneauref10.Pass -/
def x44_0 : XC := (.seq (.seq (.reg false [
   ⟨some 21, .mv, [.t 9], none, []⟩,
   ⟨some 22, .mv, [.t 8], none, []⟩,
   ⟨some 23, .bin .leq, [.t 21, .t 22], none, []⟩,
   ⟨some 24, .mv, [.t 23], none, []⟩,
   ⟨some 25, .mv, [.t 9], some (3, 24, true), []⟩,
   ⟨some 26, .bin .leq, [.t 25, .int .i64 1048576], some (3, 24, true), []⟩,
   ⟨some 27, .pick, [.t 24, .t 26, .bool false], none, []⟩])
 (.cond (.t 27)
  .skip
  (.exit 0)))
 (.clean (.seq (.block 1 (.reg false [
    ⟨some 30, .mv, [.t 8], none, []⟩,
    ⟨some 31, .mv, [.t 9], none, []⟩,
    ⟨some 32, .load (.st (.cons (.int .i64) (.cons (.int .i64) (.cons (.sl (.int .i64)) (.sl (.int .i64)))))), [.t 3], none, []⟩,
    ⟨some 33, .mv, [.t 9], none, []⟩,
    ⟨some 34, .mv, [.t 2], none, []⟩,
    ⟨some 35, .call 49, [.t 32, .t 33, .t 34], none, []⟩,
    ⟨some 36, .bin .add, [.t 31, .t 35], none, []⟩,
    ⟨some 37, .min, [.t 30, .t 36], none, []⟩,
    ⟨some 8, .mv, [.t 37], none, []⟩]))
 (.clean (.reg false [
   ⟨some 28, .mv, [.t 9], none, []⟩,
   ⟨some 29, .bin .add, [.t 28, .int .i64 1], none, []⟩,
   ⟨some 9, .mv, [.t 29], none, []⟩])))))
def x44_0d : List Nat := [8, 9]
def x44 : XF := ⟨39, [.tmp 6], [0, 1, 2, 3, 6, 7, 8, 9],
 (.seq (.reg false [
   ⟨some 3, .box 54, [.t 0], none, []⟩,
   ⟨some 6, .mv, [.int .i64 0], none, []⟩])
 (.seq (.reg false [
   ⟨some 10, .load (.st (.cons (.int .i64) (.cons (.int .i64) (.cons (.sl (.int .i64)) (.sl (.int .i64)))))), [.t 3], none, []⟩,
   ⟨some 11, .mv, [.t 1], none, []⟩,
   ⟨some 12, .mv, [.t 2], none, []⟩,
   ⟨some 13, .call 49, [.t 10, .t 11, .t 12], none, []⟩,
   ⟨some 7, .mv, [.t 13], none, []⟩])
 (.seq (.seq (.reg false [
   ⟨some 14, .mv, [.t 7], none, []⟩,
   ⟨some 15, .bin .lss, [.t 14, .int .i64 0], none, []⟩])
 (.cond (.t 15)
  (.seq (.reg false [
    ⟨some 6, .mv, [.int .i64 (-1)], none, []⟩])
  .ret)
  .skip))
 (.seq (.reg false [
   ⟨some 16, .mv, [.t 1], none, []⟩,
   ⟨some 17, .mv, [.t 7], none, []⟩,
   ⟨some 18, .bin .add, [.t 16, .t 17], none, []⟩,
   ⟨some 8, .mv, [.t 18], none, []⟩])
 (.seq (.seq (.reg false [
   ⟨some 19, .mv, [.t 1], none, []⟩,
   ⟨some 20, .bin .add, [.t 19, .int .i64 1], none, []⟩,
   ⟨some 9, .mv, [.t 20], none, []⟩])
 (.block 0 (.loop x44_0)))
 (.seq (.reg false [
   ⟨some 38, .mv, [.t 8], none, []⟩,
   ⟨some 6, .mv, [.t 38], none, []⟩])
 .ret))))))⟩
/- 0=a 1=t 2=high 3=a 6= 7=first 8=best 9=u -/
/-! slices.Repeat[[]tonneau/api.Label,tonneau/api.Label] -/
def x45_0 : XC := (.seq (.seq (.reg false [
   ⟨some 34, .mv, [.t 8], none, []⟩,
   ⟨some 35, .mv, [.t 7], none, []⟩,
   ⟨some 36, .len false, [.t 35], none, []⟩,
   ⟨some 37, .bin .lss, [.t 34, .t 36], none, []⟩])
 (.cond (.t 37)
  .skip
  (.exit 0)))
 (.block 1 (.reg true [
    ⟨some 38, .mv, [.t 8], none, []⟩,
    ⟨some 39, .mv, [.t 7], none, []⟩,
    ⟨some 40, .mv, [.t 8], none, []⟩,
    ⟨some 41, .slice (.st (.cons (.int .i64) (.int .i64))) true false true, [.t 39, .t 40], none, [1, 2]⟩,
    ⟨some 42, .mv, [.t 7], none, []⟩,
    ⟨some 43, .mv, [.t 8], none, []⟩,
    ⟨some 44, .slice (.st (.cons (.int .i64) (.int .i64))) false true true, [.t 42, .t 43], none, [4, 5]⟩,
    ⟨some 45, .copy 58 (.st (.cons (.int .i64) (.int .i64))), [.t 41, .t 44], none, [3, 1, 2, 6, 4, 5]⟩,
    ⟨some 46, .bin .add, [.t 38, .t 45], none, [0, 7, 3, 1, 2, 6, 4, 5]⟩,
    ⟨some 8, .mv, [.t 46], none, [8, 0, 7, 3, 1, 2, 6, 4, 5]⟩])))
def x45_0d : List Nat := [8]
def x45 : XF := ⟨48, [.tmp 4], [0, 1, 4, 5, 6, 7, 8],
 (.seq (.reg false [
   ⟨some 4, .nilrow 58 (.st (.cons (.int .i64) (.int .i64))), [], none, []⟩])
 (.seq (.seq (.reg false [
   ⟨some 9, .mv, [.t 1], none, []⟩,
   ⟨some 10, .bin .lss, [.t 9, .int .i64 0], none, []⟩])
 (.cond (.t 10)
  .dead /- op -/
  .skip))
 (.seq (.reg false [
   ⟨some 13, .mv, [.t 0], none, []⟩,
   ⟨some 14, .len false, [.t 13], none, []⟩,
   ⟨some 15, .conv .u64, [.t 14], none, []⟩,
   ⟨some 16, .mv, [.t 1], none, []⟩,
   ⟨some 17, .conv .u64, [.t 16], none, []⟩,
   ⟨some 18, .call 50, [.t 15, .t 17], none, []⟩,
   ⟨some 12, .mv, [.t 18], none, []⟩,
   ⟨some 19, .extract 0, [.t 12], none, []⟩,
   ⟨some 20, .extract 1, [.t 12], none, []⟩,
   ⟨some 5, .mv, [.t 19], none, []⟩,
   ⟨some 6, .mv, [.t 20], none, []⟩])
 (.clean (.seq (.seq (.reg false [
   ⟨some 21, .mv, [.t 5], none, []⟩,
   ⟨some 22, .bin .gtr, [.t 21, .int .u64 0], none, []⟩,
   ⟨some 23, .mv, [.t 22], none, []⟩,
   ⟨some 24, .mv, [.t 6], some (2, 23, false), []⟩,
   ⟨some 25, .bin .gtr, [.t 24, .int .u64 9223372036854775807], some (2, 23, false), []⟩,
   ⟨some 26, .pick, [.t 23, .bool true, .t 25], none, []⟩])
 (.cond (.t 26)
  .dead /- op -/
  .skip))
 (.clean (.seq (.reg false [
   ⟨some 28, .mv, [.t 6], none, []⟩,
   ⟨some 29, .conv .i64, [.t 28], none, []⟩,
   ⟨some 30, .mkslice 58 (.st (.cons (.int .i64) (.int .i64))) 16, [.t 29, .t 29], none, []⟩,
   ⟨some 7, .mv, [.t 30], none, []⟩])
 (.seq (.reg false [
   ⟨some 31, .mv, [.t 7], none, []⟩,
   ⟨some 32, .mv, [.t 0], none, []⟩,
   ⟨some 33, .copy 58 (.st (.cons (.int .i64) (.int .i64))), [.t 31, .t 32], none, []⟩,
   ⟨some 8, .mv, [.t 33], none, []⟩])
 (.seq (.block 0 (.loop x45_0))
 (.seq (.reg false [
   ⟨some 47, .mv, [.t 7], none, []⟩,
   ⟨some 4, .mv, [.t 47], none, []⟩])
 .ret))))))))))⟩
/- 0=x 1=count 4= 5=hi 6=lo 7=newslice 8=n -/
/-! (*tonneau/road.search).better -/
def x46 : XF := ⟨19, [.tmp 6], [0, 1, 2, 6],
 (.seq (.reg false [
   ⟨some 6, .mv, [.bool false], none, []⟩])
 (.seq (.seq (.reg false [
   ⟨some 7, .mv, [.t 2], none, []⟩,
   ⟨some 8, .bin .lss, [.t 7, .int .i64 0], none, []⟩])
 (.cond (.t 8)
  (.seq (.reg false [
    ⟨some 6, .mv, [.bool true], none, []⟩])
  .ret)
  .skip))
 (.seq (.seq (.reg false [
   ⟨some 9, .mv, [.t 0], none, []⟩,
   ⟨some 10, .nilck, [.t 9], none, []⟩,
   ⟨some 11, .faddr 2 .bool, [.t 10], none, []⟩,
   ⟨some 12, .load .bool, [.t 11], none, []⟩])
 (.cond (.t 12)
  (.seq (.reg false [
    ⟨some 13, .mv, [.t 1], none, []⟩,
    ⟨some 14, .mv, [.t 2], none, []⟩,
    ⟨some 15, .bin .gtr, [.t 13, .t 14], none, []⟩,
    ⟨some 6, .mv, [.t 15], none, []⟩])
  .ret)
  .skip))
 (.clean (.seq (.reg false [
   ⟨some 16, .mv, [.t 1], none, []⟩,
   ⟨some 17, .mv, [.t 2], none, []⟩,
   ⟨some 18, .bin .lss, [.t 16, .t 17], none, []⟩,
   ⟨some 6, .mv, [.t 18], none, []⟩])
 .ret)))))⟩
/- 0=s 1=a 2=b 6= -/
/-! tonneau/clock.arrival -/
def x47_0 : XC := (.seq (.seq (.reg false [
   ⟨some 19, .mv, [.t 8], none, []⟩,
   ⟨some 20, .mv, [.t 7], none, []⟩,
   ⟨some 21, .bin .lss, [.t 19, .t 20], none, []⟩,
   ⟨some 22, .mv, [.t 21], none, []⟩,
   ⟨some 23, .mv, [.t 8], some (3, 22, true), []⟩,
   ⟨some 24, .bin .leq, [.t 23, .int .i64 1048576], some (3, 22, true), []⟩,
   ⟨some 25, .pick, [.t 22, .t 24, .bool false], none, []⟩])
 (.cond (.t 25)
  .skip
  (.exit 0)))
 (.clean (.seq (.block 1 (.reg false [
    ⟨some 28, .mv, [.t 7], none, []⟩,
    ⟨some 29, .mv, [.t 8], none, []⟩,
    ⟨some 30, .load (.st (.cons (.int .i64) (.cons (.int .i64) (.cons (.sl (.int .i64)) (.sl (.int .i64)))))), [.t 3], none, []⟩,
    ⟨some 31, .mv, [.t 8], none, []⟩,
    ⟨some 32, .mv, [.t 2], none, []⟩,
    ⟨some 33, .call 37, [.t 30, .t 31, .t 32], none, []⟩,
    ⟨some 34, .bin .add, [.t 29, .t 33], none, []⟩,
    ⟨some 35, .min, [.t 28, .t 34], none, []⟩,
    ⟨some 7, .mv, [.t 35], none, []⟩]))
 (.clean (.reg false [
   ⟨some 26, .mv, [.t 8], none, []⟩,
   ⟨some 27, .bin .add, [.t 26, .int .i64 60], none, []⟩,
   ⟨some 8, .mv, [.t 27], none, []⟩])))))
def x47_0d : List Nat := [7, 8]
def x47 : XF := ⟨37, [.tmp 6], [0, 1, 2, 3, 6, 7, 8],
 (.seq (.reg false [
   ⟨some 3, .box 54, [.t 0], none, []⟩,
   ⟨some 6, .mv, [.int .i64 0], none, []⟩])
 (.seq (.reg false [
   ⟨some 9, .mv, [.t 1], none, []⟩,
   ⟨some 10, .load (.st (.cons (.int .i64) (.cons (.int .i64) (.cons (.sl (.int .i64)) (.sl (.int .i64)))))), [.t 3], none, []⟩,
   ⟨some 11, .mv, [.t 1], none, []⟩,
   ⟨some 12, .mv, [.t 2], none, []⟩,
   ⟨some 13, .call 37, [.t 10, .t 11, .t 12], none, []⟩,
   ⟨some 14, .bin .add, [.t 9, .t 13], none, []⟩,
   ⟨some 7, .mv, [.t 14], none, []⟩])
 (.clean (.seq (.seq (.reg false [
   ⟨some 15, .mv, [.t 1], none, []⟩,
   ⟨some 16, .bin .quo, [.t 15, .int .i64 60], none, []⟩,
   ⟨some 17, .bin .add, [.t 16, .int .i64 1], none, []⟩,
   ⟨some 18, .bin .mul, [.t 17, .int .i64 60], none, []⟩,
   ⟨some 8, .mv, [.t 18], none, []⟩])
 (.block 0 (.loop x47_0)))
 (.seq (.reg false [
   ⟨some 36, .mv, [.t 7], none, []⟩,
   ⟨some 6, .mv, [.t 36], none, []⟩])
 .ret)))))⟩
/- 0=a 1=t 2=high 3=a 6= 7=best 8=u -/
/-! slices.IndexFunc[[]tonneau/api.Arc,tonneau/api.Arc] -/
def x48_0 : XC := (.seq (.reg false [
   ⟨some 9, .bin .lss, [.t 8, .t 7], none, []⟩])
 (.seq (.cond (.t 9)
  .skip
  (.exit 0))
 (.seq (.block 1 (.seq (.reg false [
    ⟨some 10, .mv, [.t 8], none, []⟩,
    ⟨some 5, .mv, [.t 10], none, []⟩])
  (.seq (.reg false [
    ⟨some 11, .mv, [.t 1], none, []⟩,
    ⟨some 12, .mv, [.t 0], none, []⟩,
    ⟨some 13, .mv, [.t 5], none, []⟩,
    ⟨some 14, .iaddr (.st (.cons (.int .i64) (.cons (.int .i64) (.cons (.sl (.int .i64)) (.sl (.int .i64)))))), [.t 12, .t 13], none, []⟩,
    ⟨some 15, .load (.st (.cons (.int .i64) (.cons (.int .i64) (.cons (.sl (.int .i64)) (.sl (.int .i64)))))), [.t 14], none, []⟩,
    ⟨some 16, .callv, [.t 11, .t 15], none, []⟩])
  (.cond (.t 16)
   (.seq (.reg false [
     ⟨some 17, .mv, [.t 5], none, []⟩,
     ⟨some 4, .mv, [.t 17], none, []⟩])
   .ret)
   .skip))))
 (.reg false [
   ⟨some 18, .bin .add, [.t 8, .int .i64 1], none, []⟩,
   ⟨some 8, .mv, [.t 18], none, []⟩]))))
def x48_0d : List Nat := [4, 5, 8]
def x48 : XF := ⟨19, [.tmp 4], [0, 1, 4, 5, 7, 8],
 (.seq (.reg false [
   ⟨some 4, .mv, [.int .i64 0], none, []⟩])
 (.seq (.seq (.reg false [
   ⟨some 6, .mv, [.t 0], none, []⟩,
   ⟨some 7, .len false, [.t 6], none, []⟩,
   ⟨some 8, .mv, [.int .i64 0], none, []⟩])
 (.block 0 (.loop x48_0)))
 (.seq (.reg false [
   ⟨some 4, .mv, [.int .i64 (-1)], none, []⟩])
 .ret)))⟩
/- 0=s 1=f 4= 5=i 7= 8= -/
/-! tonneau/tonneauref10.Took -/
def x49 : XF := ⟨28, [.tmp 6], [0, 1, 2, 3, 6],
 (.seq (.reg false [
   ⟨some 3, .box 54, [.t 0], none, []⟩,
   ⟨some 6, .mv, [.int .i64 0], none, []⟩])
 (.seq (.seq (.reg false [
   ⟨some 7, .load (.st (.cons (.int .i64) (.cons (.int .i64) (.cons (.sl (.int .i64)) (.sl (.int .i64)))))), [.t 3], none, []⟩,
   ⟨some 8, .call 41, [.t 7], none, []⟩,
   ⟨some 9, .not, [.t 8], none, []⟩,
   ⟨some 10, .mv, [.t 9], none, []⟩,
   ⟨some 11, .mv, [.t 1], some (3, 10, false), []⟩,
   ⟨some 12, .call 42, [.t 11], some (3, 10, false), []⟩,
   ⟨some 13, .not, [.t 12], some (3, 10, false), []⟩,
   ⟨some 14, .pick, [.t 10, .bool true, .t 13], none, []⟩])
 (.cond (.t 14)
  (.seq (.reg false [
    ⟨some 6, .mv, [.int .i64 (-1)], none, []⟩])
  .ret)
  .skip))
 (.clean (.seq (.seq (.reg false [
   ⟨some 15, .mv, [.t 2], none, []⟩])
 (.cond (.t 15)
  (.seq (.reg true [
    ⟨some 16, .faddr 3 (.sl (.int .i64)), [.t 3], none, []⟩,
    ⟨some 17, .load (.sl (.int .i64)), [.t 16], none, [0]⟩,
    ⟨some 18, .mv, [.t 1], none, []⟩,
    ⟨some 19, .call 51, [.t 18], none, [2]⟩,
    ⟨some 20, .iaddr (.int .i64), [.t 17, .t 19], none, [1, 0, 3, 2]⟩,
    ⟨some 21, .load (.int .i64), [.t 20], none, [4, 1, 0, 3, 2]⟩,
    ⟨some 6, .mv, [.t 21], none, [5, 4, 1, 0, 3, 2]⟩])
  .ret)
  .skip))
 (.clean (.seq (.reg true [
   ⟨some 22, .faddr 2 (.sl (.int .i64)), [.t 3], none, []⟩,
   ⟨some 23, .load (.sl (.int .i64)), [.t 22], none, [0]⟩,
   ⟨some 24, .mv, [.t 1], none, []⟩,
   ⟨some 25, .call 51, [.t 24], none, [2]⟩,
   ⟨some 26, .iaddr (.int .i64), [.t 23, .t 25], none, [1, 0, 3, 2]⟩,
   ⟨some 27, .load (.int .i64), [.t 26], none, [4, 1, 0, 3, 2]⟩,
   ⟨some 6, .mv, [.t 27], none, [5, 4, 1, 0, 3, 2]⟩])
 .ret))))))⟩
/- 0=a 1=t 2=high 3=a 6= -/
/-! math/bits.Mul -/
def x50 : XF := ⟨30, [.tmp 4, .tmp 5], [0, 1, 4, 5, 6, 7, 8, 9],
 (.seq (.reg false [
   ⟨some 4, .mv, [.int .u64 0], none, []⟩,
   ⟨some 5, .mv, [.int .u64 0], none, []⟩])
 (.seq (.cond (.bool false)
  (.seq (.reg false [
    ⟨some 11, .mv, [.t 0], none, []⟩,
    ⟨some 12, .conv .u32, [.t 11], none, []⟩,
    ⟨some 13, .mv, [.t 1], none, []⟩,
    ⟨some 14, .conv .u32, [.t 13], none, []⟩,
    ⟨some 15, .call 52, [.t 12, .t 14], none, []⟩,
    ⟨some 10, .mv, [.t 15], none, []⟩,
    ⟨some 16, .extract 0, [.t 10], none, []⟩,
    ⟨some 17, .extract 1, [.t 10], none, []⟩,
    ⟨some 6, .mv, [.t 16], none, []⟩,
    ⟨some 7, .mv, [.t 17], none, []⟩])
  (.clean (.seq (.reg false [
    ⟨some 18, .mv, [.t 6], none, []⟩,
    ⟨some 19, .conv .u64, [.t 18], none, []⟩,
    ⟨some 20, .mv, [.t 7], none, []⟩,
    ⟨some 21, .conv .u64, [.t 20], none, []⟩,
    ⟨some 4, .mv, [.t 19], none, []⟩,
    ⟨some 5, .mv, [.t 21], none, []⟩])
  .ret)))
  .skip)
 (.clean (.seq (.reg false [
   ⟨some 23, .mv, [.t 0], none, []⟩,
   ⟨some 24, .mv, [.t 1], none, []⟩,
   ⟨some 25, .call 53, [.t 23, .t 24], none, []⟩,
   ⟨some 22, .mv, [.t 25], none, []⟩,
   ⟨some 26, .extract 0, [.t 22], none, []⟩,
   ⟨some 27, .extract 1, [.t 22], none, []⟩,
   ⟨some 8, .mv, [.t 26], none, []⟩,
   ⟨some 9, .mv, [.t 27], none, []⟩])
 (.clean (.seq (.reg false [
   ⟨some 28, .mv, [.t 8], none, []⟩,
   ⟨some 29, .mv, [.t 9], none, []⟩,
   ⟨some 4, .mv, [.t 28], none, []⟩,
   ⟨some 5, .mv, [.t 29], none, []⟩])
 .ret))))))⟩
/- 0=x 1=y 4=hi 5=lo 6=h 7=l 8=h 9=l -/
/-! tonneau/tonneauref10.Hour -/
def x51 : XF := ⟨6, [.tmp 2], [0, 2],
 (.seq (.reg false [
   ⟨some 2, .mv, [.int .i64 0], none, []⟩])
 (.seq (.reg false [
   ⟨some 3, .mv, [.t 0], none, []⟩,
   ⟨some 4, .bin .quo, [.t 3, .int .i64 60], none, []⟩,
   ⟨some 5, .bin .rem, [.t 4, .int .i64 24], none, []⟩,
   ⟨some 2, .mv, [.t 5], none, []⟩])
 .ret))⟩
/- 0=t 2= -/
/-! math/bits.Mul32 -/
def x52 : XF := ⟨17, [.tmp 4, .tmp 5], [0, 1, 4, 5, 6],
 (.seq (.reg false [
   ⟨some 4, .mv, [.int .u32 0], none, []⟩,
   ⟨some 5, .mv, [.int .u32 0], none, []⟩])
 (.seq (.reg false [
   ⟨some 7, .mv, [.t 0], none, []⟩,
   ⟨some 8, .conv .u64, [.t 7], none, []⟩,
   ⟨some 9, .mv, [.t 1], none, []⟩,
   ⟨some 10, .conv .u64, [.t 9], none, []⟩,
   ⟨some 11, .bin .mul, [.t 8, .t 10], none, []⟩,
   ⟨some 6, .mv, [.t 11], none, []⟩])
 (.clean (.seq (.reg false [
   ⟨some 12, .mv, [.t 6], none, []⟩,
   ⟨some 13, .bin .shr, [.t 12, .int .u64 32], none, []⟩,
   ⟨some 14, .conv .u32, [.t 13], none, []⟩,
   ⟨some 15, .mv, [.t 6], none, []⟩,
   ⟨some 16, .conv .u32, [.t 15], none, []⟩,
   ⟨some 4, .mv, [.t 14], none, []⟩,
   ⟨some 5, .mv, [.t 16], none, []⟩])
 .ret))))⟩
/- 0=x 1=y 4=hi 5=lo 6=tmp -/
/-! math/bits.Mul64 -/
def x53 : XF := ⟨51, [.tmp 4, .tmp 5], [0, 1, 4, 5, 6, 7, 8, 9, 10, 11, 12, 13],
 (.seq (.reg false [
   ⟨some 4, .mv, [.int .u64 0], none, []⟩,
   ⟨some 5, .mv, [.int .u64 0], none, []⟩])
 (.seq (.reg false [
   ⟨some 14, .mv, [.t 0], none, []⟩,
   ⟨some 15, .bin .and, [.t 14, .int .u64 4294967295], none, []⟩,
   ⟨some 6, .mv, [.t 15], none, []⟩])
 (.seq (.reg false [
   ⟨some 16, .mv, [.t 0], none, []⟩,
   ⟨some 17, .bin .shr, [.t 16, .int .u64 32], none, []⟩,
   ⟨some 7, .mv, [.t 17], none, []⟩])
 (.seq (.reg false [
   ⟨some 18, .mv, [.t 1], none, []⟩,
   ⟨some 19, .bin .and, [.t 18, .int .u64 4294967295], none, []⟩,
   ⟨some 8, .mv, [.t 19], none, []⟩])
 (.seq (.reg false [
   ⟨some 20, .mv, [.t 1], none, []⟩,
   ⟨some 21, .bin .shr, [.t 20, .int .u64 32], none, []⟩,
   ⟨some 9, .mv, [.t 21], none, []⟩])
 (.seq (.reg false [
   ⟨some 22, .mv, [.t 6], none, []⟩,
   ⟨some 23, .mv, [.t 8], none, []⟩,
   ⟨some 24, .bin .mul, [.t 22, .t 23], none, []⟩,
   ⟨some 10, .mv, [.t 24], none, []⟩])
 (.seq (.reg false [
   ⟨some 25, .mv, [.t 7], none, []⟩,
   ⟨some 26, .mv, [.t 8], none, []⟩,
   ⟨some 27, .bin .mul, [.t 25, .t 26], none, []⟩,
   ⟨some 28, .mv, [.t 10], none, []⟩,
   ⟨some 29, .bin .shr, [.t 28, .int .u64 32], none, []⟩,
   ⟨some 30, .bin .add, [.t 27, .t 29], none, []⟩,
   ⟨some 11, .mv, [.t 30], none, []⟩])
 (.clean (.seq (.reg false [
   ⟨some 31, .mv, [.t 11], none, []⟩,
   ⟨some 32, .bin .and, [.t 31, .int .u64 4294967295], none, []⟩,
   ⟨some 12, .mv, [.t 32], none, []⟩])
 (.seq (.reg false [
   ⟨some 33, .mv, [.t 11], none, []⟩,
   ⟨some 34, .bin .shr, [.t 33, .int .u64 32], none, []⟩,
   ⟨some 13, .mv, [.t 34], none, []⟩])
 (.seq (.reg false [
   ⟨some 35, .mv, [.t 12], none, []⟩,
   ⟨some 36, .mv, [.t 6], none, []⟩,
   ⟨some 37, .mv, [.t 9], none, []⟩,
   ⟨some 38, .bin .mul, [.t 36, .t 37], none, []⟩,
   ⟨some 39, .bin .add, [.t 35, .t 38], none, []⟩,
   ⟨some 12, .mv, [.t 39], none, []⟩])
 (.clean (.seq (.reg false [
   ⟨some 40, .mv, [.t 7], none, []⟩,
   ⟨some 41, .mv, [.t 9], none, []⟩,
   ⟨some 42, .bin .mul, [.t 40, .t 41], none, []⟩,
   ⟨some 43, .mv, [.t 13], none, []⟩,
   ⟨some 44, .bin .add, [.t 42, .t 43], none, []⟩,
   ⟨some 45, .mv, [.t 12], none, []⟩,
   ⟨some 46, .bin .shr, [.t 45, .int .u64 32], none, []⟩,
   ⟨some 47, .bin .add, [.t 44, .t 46], none, []⟩,
   ⟨some 4, .mv, [.t 47], none, []⟩])
 (.clean (.seq (.reg false [
   ⟨some 48, .mv, [.t 0], none, []⟩,
   ⟨some 49, .mv, [.t 1], none, []⟩,
   ⟨some 50, .bin .mul, [.t 48, .t 49], none, []⟩,
   ⟨some 5, .mv, [.t 50], none, []⟩])
 .ret)))))))))))))))⟩
/- 0=x 1=y 4=hi 5=lo 6=x0 7=x1 8=y0 9=y1 10=w0 11=t 12=w1 13=w2 -/
end T
end Go.Proofs.Ytbbjopgneophnaa
