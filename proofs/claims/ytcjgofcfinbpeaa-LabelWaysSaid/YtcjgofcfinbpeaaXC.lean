/- The program's functions as code of the typed abstract walk (printed by a program). -/
import Derived.Test.YtcjgofcfinbpeaaT18
set_option linter.unusedVariables false
namespace Go.Proofs.Ytcjgofcfinbpeaa
namespace T
/-! (*tonneau/road.search).nodes -/
def y48_1 (nE p : Nat) (kvB : List Nat) (xA xB : XC) : XC := (.seq (.reg false [
   ⟨some 13, .bin .lss, [.t 12, .t 11], none, []⟩])
 (.seq (.cond (.t 13)
  .skip
  (.exit 2))
 (.seq (.block 3 (.seq (.reg false [
    ⟨some 14, .mv, [.t 12], none, []⟩,
    ⟨some 15, .iaddr (.st (.cons (.int .i64) (.int .i64))), [.t 10, .t 12], none, []⟩,
    ⟨some 16, .load (.st (.cons (.int .i64) (.int .i64))), [.t 15], none, []⟩,
    ⟨some 6, .alloc 43 (.st (.cons (.int .i64) (.int .i64))), [], none, []⟩,
    ⟨some 5, .mv, [.t 14], none, []⟩,
    ⟨none, .store (.st (.cons (.int .i64) (.int .i64))), [.t 6, .t 16], none, []⟩])
  (.seq (.reg true [
    ⟨some 17, .mv, [.t 0], none, []⟩,
    ⟨some 18, .nilck, [.t 17], none, [0]⟩,
    ⟨some 19, .faddr 1 (.sl .bool), [.t 18], none, [1, 0]⟩,
    ⟨some 20, .load (.sl .bool), [.t 19], none, [2, 1, 0]⟩,
    ⟨some 21, .mv, [.t 5], none, []⟩,
    ⟨some 22, .iaddr .bool, [.t 20, .t 21], none, [3, 2, 1, 0, 4]⟩,
    ⟨some 23, .load .bool, [.t 22], none, [5, 3, 2, 1, 0, 4]⟩,
    ⟨some 24, .not, [.t 23], none, [6, 5, 3, 2, 1, 0, 4]⟩,
    ⟨some 25, .mv, [.t 24], none, [7, 6, 5, 3, 2, 1, 0, 4]⟩,
    ⟨some 26, .faddr 0 (.int .i64), [.t 6], some (8, 25, true), [8, 7, 6, 5, 3, 2, 1, 0, 4]⟩,
    ⟨some 27, .load (.int .i64), [.t 26], some (8, 25, true), [9, 8, 7, 6, 5, 3, 2, 1, 0, 4]⟩,
    ⟨some 28, .bin .geq, [.t 27, .int .i64 0], some (8, 25, true), [10, 9, 8, 7, 6, 5, 3, 2, 1, 0, 4]⟩,
    ⟨some 29, .pick, [.t 25, .t 28, .bool false], none, [8, 7, 6, 5, 3, 2, 1, 0, 4, 11, 10, 9]⟩,
    ⟨some 30, .mv, [.t 29], none, [12, 8, 7, 6, 5, 3, 2, 1, 0, 4, 11, 10, 9]⟩,
    ⟨some 31, .mv, [.t 4], some (13, 30, true), [13, 12, 8, 7, 6, 5, 3, 2, 1, 0, 4, 11, 10, 9]⟩,
    ⟨some 32, .bin .lss, [.t 31, .int .i64 0], some (13, 30, true), [14, 13, 12, 8, 7, 6, 5, 3, 2, 1, 0, 4, 11, 10, 9]⟩,
    ⟨some 33, .mv, [.t 32], some (13, 30, true), [15, 14, 13, 12, 8, 7, 6, 5, 3, 2, 1, 0, 4, 11, 10, 9]⟩,
    ⟨some 34, .mv, [.t 0], some (16, 33, false), [16, 15, 14, 13, 12, 8, 7, 6, 5, 3, 2, 1, 0, 4, 11, 10, 9]⟩,
    ⟨some 35, .faddr 0 (.int .i64), [.t 6], some (16, 33, false), [16, 15, 14, 13, 12, 8, 7, 6, 5, 3, 2, 1, 0, 4, 11, 10, 9]⟩,
    ⟨some 36, .load (.int .i64), [.t 35], some (16, 33, false), [18, 16, 15, 14, 13, 12, 8, 7, 6, 5, 3, 2, 1, 0, 4, 11, 10, 9]⟩,
    ⟨some 37, .mv, [.t 0], some (16, 33, false), [16, 15, 14, 13, 12, 8, 7, 6, 5, 3, 2, 1, 0, 4, 11, 10, 9]⟩,
    ⟨some 38, .nilck, [.t 37], some (16, 33, false), [20, 16, 15, 14, 13, 12, 8, 7, 6, 5, 3, 2, 1, 0, 4, 11, 10, 9]⟩,
    ⟨some 39, .faddr 0 (.sl (.st (.cons (.int .i64) (.int .i64)))), [.t 38], some (16, 33, false), [21, 20, 16, 15, 14, 13, 12, 8, 7, 6, 5, 3, 2, 1, 0, 4, 11, 10, 9]⟩,
    ⟨some 40, .load (.sl (.st (.cons (.int .i64) (.int .i64)))), [.t 39], some (16, 33, false), [22, 21, 20, 16, 15, 14, 13, 12, 8, 7, 6, 5, 3, 2, 1, 0, 4, 11, 10, 9]⟩,
    ⟨some 41, .mv, [.t 4], some (16, 33, false), [16, 15, 14, 13, 12, 8, 7, 6, 5, 3, 2, 1, 0, 4, 11, 10, 9]⟩,
    ⟨some 42, .iaddr (.st (.cons (.int .i64) (.int .i64))), [.t 40, .t 41], some (16, 33, false), [23, 22, 21, 20, 16, 15, 14, 13, 12, 8, 7, 6, 5, 3, 2, 1, 0, 4, 11, 10, 9, 24]⟩,
    ⟨some 43, .faddr 0 (.int .i64), [.t 42], some (16, 33, false), [25, 23, 22, 21, 20, 16, 15, 14, 13, 12, 8, 7, 6, 5, 3, 2, 1, 0, 4, 11, 10, 9, 24]⟩,
    ⟨some 44, .load (.int .i64), [.t 43], some (16, 33, false), [26, 25, 23, 22, 21, 20, 16, 15, 14, 13, 12, 8, 7, 6, 5, 3, 2, 1, 0, 4, 11, 10, 9, 24]⟩,
    ⟨some 45, .call 64, [.t 34, .t 36, .t 44], some (16, 33, false), [17, 16, 15, 14, 13, 12, 8, 7, 6, 5, 3, 2, 1, 0, 4, 11, 10, 9, 19, 18, 27, 26, 25, 23, 22, 21, 20, 24]⟩,
    ⟨some 46, .pick, [.t 33, .bool true, .t 45], some (13, 30, true), [16, 15, 14, 13, 12, 8, 7, 6, 5, 3, 2, 1, 0, 4, 11, 10, 9, 28, 17, 19, 18, 27, 26, 25, 23, 22, 21, 20, 24]⟩,
    ⟨some 47, .pick, [.t 30, .t 46, .bool false], none, [13, 12, 8, 7, 6, 5, 3, 2, 1, 0, 4, 11, 10, 9, 29, 16, 15, 14, 28, 17, 19, 18, 27, 26, 25, 23, 22, 21, 20, 24]⟩])
  (.cond (.t 47)
   (.reg false [
     ⟨some 48, .mv, [.t 5], none, []⟩,
     ⟨some 4, .mv, [.t 48], none, []⟩])
   .skip))))
 (.reg false [
   ⟨some 49, .bin .add, [.t 12, .int .i64 1], none, []⟩,
   ⟨some 12, .mv, [.t 49], none, []⟩]))))
def y48_1d : List Nat := [4, 5, 6, 12]
def y48_0 (nE p : Nat) (kvB : List Nat) (xA xB : XC) : XC := (.block 1 (.seq (.reg false [
    ⟨some 4, .mv, [.int .i64 (-1)], none, []⟩])
  (.seq (.seq (.reg false [
    ⟨some 7, .mv, [.t 0], none, []⟩,
    ⟨some 8, .nilck, [.t 7], none, []⟩,
    ⟨some 9, .faddr 0 (.sl (.st (.cons (.int .i64) (.int .i64)))), [.t 8], none, []⟩,
    ⟨some 10, .load (.sl (.st (.cons (.int .i64) (.int .i64)))), [.t 9], none, []⟩,
    ⟨some 11, .len false, [.t 10], none, []⟩,
    ⟨some 12, .mv, [.int .i64 0], none, []⟩])
  (.clean (.block 2 (.loop (y48_1 nE p kvB xA xB)))))
  (.clean (.seq (.seq (.reg false [
    ⟨some 50, .mv, [.t 4], none, []⟩,
    ⟨some 51, .bin .lss, [.t 50, .int .i64 0], none, []⟩])
  (.cond (.t 51)
   .ret
   .skip))
  (.seq (.reg false [
    ⟨some 52, .mv, [.t 0], none, []⟩,
    ⟨some 53, .nilck, [.t 52], none, []⟩,
    ⟨some 54, .faddr 1 (.sl .bool), [.t 53], none, []⟩,
    ⟨some 55, .load (.sl .bool), [.t 54], none, []⟩,
    ⟨some 56, .mv, [.t 4], none, []⟩,
    ⟨some 57, .iaddr .bool, [.t 55, .t 56], none, []⟩,
    ⟨none, .store .bool, [.t 57, .bool true], none, []⟩])
  (.clean (.seq (.yld [
    ⟨some 58, .mv, [.t 1], none, []⟩,
    ⟨some 59, .mv, [.t 4], none, []⟩] ⟨some 60, .callv, [.t 58, .t 59], none, []⟩ [
    ⟨some 61, .not, [.t 60], none, []⟩] 1 nE p kvB xA xB)
  (.cond (.t 61)
   .ret
   .skip)))))))))
def y48_0d : List Nat := [4, 5, 6, 10, 11, 12]
def y48 (nE p : Nat) (kvB : List Nat) (xA xB : XC) : XC :=
 (.block 0 (.loop (y48_0 nE p kvB xA xB)))
/- 0=s 1=yield 4=best 5=i 6=l 10= 11= 12= -/
/-! tonneau/road.begin -/
def x47 : XF := ⟨28, [.tmp 8], [0, 1, 2, 3, 8, 9],
 (.seq (.reg false [
   ⟨some 8, .mv, [.nilp], none, []⟩])
 (.seq (.reg true [
   ⟨some 10, .build (.st (.cons (.int .i64) (.int .i64))) [(0, (.int .i64)), (1, (.int .i64))], [.int .i64 (-1), .int .i64 (-1)], none, []⟩,
   ⟨some 11, .bslice 43 (.st (.cons (.int .i64) (.int .i64))) 1 [0], [.t 10], none, [0]⟩,
   ⟨some 12, .mv, [.t 0], none, []⟩,
   ⟨some 13, .call 63, [.t 11, .t 12], none, [1, 0, 2]⟩,
   ⟨some 14, .mv, [.t 0], none, []⟩,
   ⟨some 15, .mkslice 4 .bool 1, [.t 14, .t 14], none, [4]⟩,
   ⟨some 16, .mv, [.t 3], none, []⟩,
   ⟨some 17, .build (.st (.cons (.sl (.st (.cons (.int .i64) (.int .i64)))) (.cons (.sl .bool) .bool))) [(0, (.sl (.st (.cons (.int .i64) (.int .i64))))), (1, (.sl .bool)), (2, .bool)], [.t 13, .t 15, .t 16], none, [3, 1, 0, 2, 5, 4, 6]⟩,
   ⟨some 18, .box 70, [.t 17], none, [7, 3, 1, 0, 2, 5, 4, 6]⟩,
   ⟨some 9, .mv, [.t 18], none, [8, 7, 3, 1, 0, 2, 5, 4, 6]⟩])
 (.clean (.seq (.reg false [
   ⟨some 19, .mv, [.t 9], none, []⟩,
   ⟨some 20, .nilck, [.t 19], none, []⟩,
   ⟨some 21, .faddr 0 (.sl (.st (.cons (.int .i64) (.int .i64)))), [.t 20], none, []⟩,
   ⟨some 22, .load (.sl (.st (.cons (.int .i64) (.int .i64)))), [.t 21], none, []⟩,
   ⟨some 23, .mv, [.t 1], none, []⟩,
   ⟨some 24, .mv, [.t 2], none, []⟩,
   ⟨some 25, .iaddr (.st (.cons (.int .i64) (.int .i64))), [.t 22, .t 23], none, []⟩,
   ⟨some 26, .faddr 0 (.int .i64), [.t 25], none, []⟩,
   ⟨none, .store (.int .i64), [.t 26, .t 24], none, []⟩])
 (.seq (.reg false [
   ⟨some 27, .mv, [.t 9], none, []⟩,
   ⟨some 8, .mv, [.t 27], none, []⟩])
 .ret)))))⟩
/- 0=n 1=at 2=time 3=late 8= 9=s -/
/-! (*tonneau/road.search).reach -/
def x49 : XF := ⟨55, [], [0, 1, 2, 3, 8],
 (.seq (.seq (.reg false [
   ⟨some 9, .mv, [.t 0], none, []⟩,
   ⟨some 10, .nilck, [.t 9], none, []⟩,
   ⟨some 11, .faddr 1 (.sl .bool), [.t 10], none, []⟩,
   ⟨some 12, .load (.sl .bool), [.t 11], none, []⟩,
   ⟨some 13, .mv, [.t 1], none, []⟩,
   ⟨some 14, .iaddr .bool, [.t 12, .t 13], none, []⟩,
   ⟨some 15, .load .bool, [.t 14], none, []⟩,
   ⟨some 16, .mv, [.t 15], none, []⟩,
   ⟨some 17, .mv, [.t 2], some (7, 16, false), []⟩,
   ⟨some 18, .call 46, [.t 17], some (7, 16, false), []⟩,
   ⟨some 19, .not, [.t 18], some (7, 16, false), []⟩,
   ⟨some 20, .pick, [.t 16, .bool true, .t 19], none, []⟩])
 (.cond (.t 20)
  .ret
  .skip))
 (.clean (.seq (.reg false [
   ⟨some 21, .mv, [.t 0], none, []⟩,
   ⟨some 22, .nilck, [.t 21], none, []⟩,
   ⟨some 23, .faddr 0 (.sl (.st (.cons (.int .i64) (.int .i64)))), [.t 22], none, []⟩,
   ⟨some 24, .load (.sl (.st (.cons (.int .i64) (.int .i64)))), [.t 23], none, []⟩,
   ⟨some 25, .mv, [.t 1], none, []⟩,
   ⟨some 26, .iaddr (.st (.cons (.int .i64) (.int .i64))), [.t 24, .t 25], none, []⟩,
   ⟨some 8, .mv, [.t 26], none, []⟩])
 (.clean (.seq (.reg false [
   ⟨some 27, .mv, [.t 0], none, []⟩,
   ⟨some 28, .mv, [.t 2], none, []⟩,
   ⟨some 29, .mv, [.t 8], none, []⟩,
   ⟨some 30, .nilck, [.t 29], none, []⟩,
   ⟨some 31, .faddr 0 (.int .i64), [.t 30], none, []⟩,
   ⟨some 32, .load (.int .i64), [.t 31], none, []⟩,
   ⟨some 33, .call 64, [.t 27, .t 28, .t 32], none, []⟩,
   ⟨some 34, .mv, [.t 33], none, []⟩,
   ⟨some 35, .mv, [.t 2], some (7, 34, false), []⟩,
   ⟨some 36, .mv, [.t 8], some (7, 34, false), []⟩,
   ⟨some 37, .nilck, [.t 36], some (7, 34, false), []⟩,
   ⟨some 38, .faddr 0 (.int .i64), [.t 37], some (7, 34, false), []⟩,
   ⟨some 39, .load (.int .i64), [.t 38], some (7, 34, false), []⟩,
   ⟨some 40, .bin .eql, [.t 35, .t 39], some (7, 34, false), []⟩,
   ⟨some 41, .mv, [.t 40], some (7, 34, false), []⟩,
   ⟨some 42, .mv, [.t 3], some (14, 41, true), []⟩,
   ⟨some 43, .mv, [.t 8], some (14, 41, true), []⟩,
   ⟨some 44, .nilck, [.t 43], some (14, 41, true), []⟩,
   ⟨some 45, .faddr 1 (.int .i64), [.t 44], some (14, 41, true), []⟩,
   ⟨some 46, .load (.int .i64), [.t 45], some (14, 41, true), []⟩,
   ⟨some 47, .bin .lss, [.t 42, .t 46], some (14, 41, true), []⟩,
   ⟨some 48, .pick, [.t 41, .t 47, .bool false], some (7, 34, false), []⟩,
   ⟨some 49, .pick, [.t 34, .bool true, .t 48], none, []⟩])
 (.cond (.t 49)
  (.reg false [
    ⟨some 50, .mv, [.t 8], none, []⟩,
    ⟨some 51, .mv, [.t 2], none, []⟩,
    ⟨some 52, .mv, [.t 3], none, []⟩,
    ⟨some 53, .build (.st (.cons (.int .i64) (.int .i64))) [(0, (.int .i64)), (1, (.int .i64))], [.t 51, .t 52], none, []⟩,
    ⟨some 54, .nilck, [.t 50], none, []⟩,
    ⟨none, .store (.st (.cons (.int .i64) (.int .i64))), [.t 54, .t 53], none, []⟩])
  .skip))))))⟩
/- 0=s 1=node 2=time 3=by 8=l -/
/-! slices.Reverse[[]int,int] -/
def x55_0 : XC := (.seq (.seq (.reg false [
   ⟨some 7, .mv, [.t 2], none, []⟩,
   ⟨some 8, .mv, [.t 3], none, []⟩,
   ⟨some 9, .bin .lss, [.t 7, .t 8], none, []⟩])
 (.cond (.t 9)
  .skip
  (.exit 0)))
 (.seq (.block 1 (.reg true [
    ⟨some 14, .mv, [.t 0], none, []⟩,
    ⟨some 15, .mv, [.t 2], none, []⟩,
    ⟨some 16, .mv, [.t 0], none, []⟩,
    ⟨some 17, .mv, [.t 3], none, []⟩,
    ⟨some 18, .mv, [.t 0], none, []⟩,
    ⟨some 19, .mv, [.t 3], none, []⟩,
    ⟨some 20, .iaddr (.int .i64), [.t 18, .t 19], none, [4, 5]⟩,
    ⟨some 21, .load (.int .i64), [.t 20], none, [6, 4, 5]⟩,
    ⟨some 22, .mv, [.t 0], none, []⟩,
    ⟨some 23, .mv, [.t 2], none, []⟩,
    ⟨some 24, .iaddr (.int .i64), [.t 22, .t 23], none, [8, 9]⟩,
    ⟨some 25, .load (.int .i64), [.t 24], none, [10, 8, 9]⟩,
    ⟨some 26, .iaddr (.int .i64), [.t 14, .t 15], none, [0, 1, 4, 5, 6, 7, 11, 10, 8, 9]⟩,
    ⟨none, .store (.int .i64), [.t 26, .t 21], none, [12, 0, 1, 4, 5, 6, 7, 11, 10, 8, 9]⟩,
    ⟨some 27, .iaddr (.int .i64), [.t 16, .t 17], none, [2, 3, 0, 1, 4, 5, 6, 7, 8, 9, 10, 11, 12, 13]⟩,
    ⟨none, .store (.int .i64), [.t 27, .t 25], none, [14, 2, 3, 0, 1, 4, 5, 6, 7, 8, 9, 10, 11, 12, 13]⟩]))
 (.clean (.reg false [
   ⟨some 10, .mv, [.t 2], none, []⟩,
   ⟨some 11, .bin .add, [.t 10, .int .i64 1], none, []⟩,
   ⟨some 12, .mv, [.t 3], none, []⟩,
   ⟨some 13, .bin .sub, [.t 12, .int .i64 1], none, []⟩,
   ⟨some 2, .mv, [.t 11], none, []⟩,
   ⟨some 3, .mv, [.t 13], none, []⟩]))))
def x55_0d : List Nat := [2, 3]
def x55 : XF := ⟨28, [], [0, 2, 3],
 (.seq (.reg false [
   ⟨some 4, .mv, [.t 0], none, []⟩,
   ⟨some 5, .len false, [.t 4], none, []⟩,
   ⟨some 6, .bin .sub, [.t 5, .int .i64 1], none, []⟩,
   ⟨some 2, .mv, [.int .i64 0], none, []⟩,
   ⟨some 3, .mv, [.t 6], none, []⟩])
 (.block 0 (.loop x55_0)))⟩
/- 0=s 2=i 3=j -/
/-! gosem.cut.init -/
def x2 : XF := ⟨1, [], [],
 (.reg false [
   ⟨some 0, .call 1, [], none, []⟩])⟩
/-  -/
/-! tonneau/tonneaulaw11.RoadTells -/
def x5 : XF := ⟨121, [.tmp 14], [0, 1, 2, 3, 4, 5, 6, 14, 15, 16, 17, 18, 19, 20, 21, 22, 23],
 (.seq (.reg false [
   ⟨some 14, .mv, [.bool false], none, []⟩])
 (.seq (.reg false [
   ⟨some 24, .call 18, [], none, []⟩,
   ⟨some 15, .mv, [.t 24], none, []⟩])
 (.seq (.seq (.reg false [
   ⟨some 25, .mv, [.t 0], none, []⟩,
   ⟨some 26, .mv, [.t 1], none, []⟩,
   ⟨some 27, .call 19, [.t 25, .t 26], none, []⟩,
   ⟨some 28, .not, [.t 27], none, []⟩,
   ⟨some 29, .mv, [.t 28], none, []⟩,
   ⟨some 30, .mv, [.t 5], some (4, 29, false), []⟩,
   ⟨some 31, .len false, [.t 30], some (4, 29, false), []⟩,
   ⟨some 32, .bin .gtr, [.t 31, .int .i64 14], some (4, 29, false), []⟩,
   ⟨some 33, .pick, [.t 29, .bool true, .t 32], none, []⟩])
 (.cond (.t 33)
  (.seq (.reg false [
    ⟨some 34, .mv, [.t 15], none, []⟩,
    ⟨some 14, .mv, [.t 34], none, []⟩])
  .ret)
  .skip))
 (.clean (.seq (.reg false [
   ⟨some 36, .mv, [.t 0], none, []⟩,
   ⟨some 37, .mv, [.t 1], none, []⟩,
   ⟨some 38, .mv, [.t 2], none, []⟩,
   ⟨some 39, .mv, [.t 3], none, []⟩,
   ⟨some 40, .mv, [.t 4], none, []⟩,
   ⟨some 41, .call 20, [.t 36, .t 37, .t 38, .t 39, .t 40], none, []⟩,
   ⟨some 35, .mv, [.t 41], none, []⟩,
   ⟨some 42, .extract 0, [.t 35], none, []⟩,
   ⟨some 43, .extract 1, [.t 35], none, []⟩,
   ⟨some 16, .mv, [.t 42], none, []⟩,
   ⟨some 17, .mv, [.t 43], none, []⟩])
 (.clean (.seq (.reg false [
   ⟨some 45, .mv, [.t 0], none, []⟩,
   ⟨some 46, .mv, [.t 1], none, []⟩,
   ⟨some 47, .mv, [.t 2], none, []⟩,
   ⟨some 48, .mv, [.t 3], none, []⟩,
   ⟨some 49, .mv, [.t 4], none, []⟩,
   ⟨some 50, .call 21, [.t 45, .t 46, .t 47, .t 48, .t 49], none, []⟩,
   ⟨some 44, .mv, [.t 50], none, []⟩,
   ⟨some 51, .extract 0, [.t 44], none, []⟩,
   ⟨some 52, .extract 1, [.t 44], none, []⟩,
   ⟨some 18, .mv, [.t 51], none, []⟩,
   ⟨some 19, .mv, [.t 52], none, []⟩])
 (.clean (.seq (.reg false [
   ⟨some 54, .mv, [.t 0], none, []⟩,
   ⟨some 55, .mv, [.t 1], none, []⟩,
   ⟨some 56, .mv, [.t 2], none, []⟩,
   ⟨some 57, .mv, [.t 3], none, []⟩,
   ⟨some 58, .call 22, [.t 54, .t 55, .t 56, .t 57], none, []⟩,
   ⟨some 53, .mv, [.t 58], none, []⟩,
   ⟨some 59, .extract 0, [.t 53], none, []⟩,
   ⟨some 60, .extract 1, [.t 53], none, []⟩,
   ⟨some 20, .mv, [.t 59], none, []⟩,
   ⟨some 21, .mv, [.t 60], none, []⟩])
 (.clean (.seq (.reg false [
   ⟨some 62, .mv, [.t 0], none, []⟩,
   ⟨some 63, .mv, [.t 1], none, []⟩,
   ⟨some 64, .mv, [.t 2], none, []⟩,
   ⟨some 65, .mv, [.t 3], none, []⟩,
   ⟨some 66, .call 23, [.t 62, .t 63, .t 64, .t 65], none, []⟩,
   ⟨some 61, .mv, [.t 66], none, []⟩,
   ⟨some 67, .extract 0, [.t 61], none, []⟩,
   ⟨some 68, .extract 1, [.t 61], none, []⟩,
   ⟨some 22, .mv, [.t 67], none, []⟩,
   ⟨some 23, .mv, [.t 68], none, []⟩])
 (.clean (.seq (.reg false [
   ⟨some 69, .mv, [.t 15], none, []⟩,
   ⟨some 70, .mv, [.t 69], none, []⟩,
   ⟨some 71, .mv, [.t 17], some (1, 70, true), []⟩,
   ⟨some 72, .mv, [.t 19], some (1, 70, true), []⟩,
   ⟨some 73, .bin .eql, [.t 71, .t 72], some (1, 70, true), []⟩,
   ⟨some 74, .pick, [.t 70, .t 73, .bool false], none, []⟩,
   ⟨some 75, .mv, [.t 74], none, []⟩,
   ⟨some 76, .mv, [.t 21], some (6, 75, true), []⟩,
   ⟨some 77, .mv, [.t 23], some (6, 75, true), []⟩,
   ⟨some 78, .bin .eql, [.t 76, .t 77], some (6, 75, true), []⟩,
   ⟨some 79, .pick, [.t 75, .t 78, .bool false], none, []⟩,
   ⟨some 80, .mv, [.t 79], none, []⟩,
   ⟨some 81, .mv, [.t 16], some (11, 80, true), []⟩,
   ⟨some 82, .mv, [.t 18], some (11, 80, true), []⟩,
   ⟨some 83, .call 24, [.t 81, .t 82], some (11, 80, true), []⟩,
   ⟨some 84, .pick, [.t 80, .t 83, .bool false], none, []⟩,
   ⟨some 85, .mv, [.t 84], none, []⟩,
   ⟨some 86, .mv, [.t 20], some (16, 85, true), []⟩,
   ⟨some 87, .mv, [.t 22], some (16, 85, true), []⟩,
   ⟨some 88, .call 24, [.t 86, .t 87], some (16, 85, true), []⟩,
   ⟨some 89, .pick, [.t 85, .t 88, .bool false], none, []⟩,
   ⟨some 90, .mv, [.t 89], none, []⟩,
   ⟨some 91, .mv, [.t 0], some (21, 90, true), []⟩,
   ⟨some 92, .mv, [.t 1], some (21, 90, true), []⟩,
   ⟨some 93, .call 25, [.t 91, .t 92], some (21, 90, true), []⟩,
   ⟨some 94, .mv, [.t 0], some (21, 90, true), []⟩,
   ⟨some 95, .mv, [.t 1], some (21, 90, true), []⟩,
   ⟨some 96, .call 26, [.t 94, .t 95], some (21, 90, true), []⟩,
   ⟨some 97, .beq false .bool, [.t 93, .t 96], some (21, 90, true), []⟩,
   ⟨some 98, .pick, [.t 90, .t 97, .bool false], none, []⟩,
   ⟨some 99, .mv, [.t 98], none, []⟩,
   ⟨some 100, .mv, [.t 5], some (30, 99, true), []⟩,
   ⟨some 101, .mv, [.t 1], some (30, 99, true), []⟩,
   ⟨some 102, .mv, [.t 6], some (30, 99, true), []⟩,
   ⟨some 103, .call 28, [.t 100, .t 101, .t 102], some (30, 99, true), []⟩,
   ⟨some 104, .mv, [.t 5], some (30, 99, true), []⟩,
   ⟨some 105, .mv, [.t 1], some (30, 99, true), []⟩,
   ⟨some 106, .mv, [.t 6], some (30, 99, true), []⟩,
   ⟨some 107, .call 29, [.t 104, .t 105, .t 106], some (30, 99, true), []⟩,
   ⟨some 108, .call 27, [.t 103, .t 107], some (30, 99, true), []⟩,
   ⟨some 109, .pick, [.t 99, .t 108, .bool false], none, []⟩,
   ⟨some 110, .mv, [.t 109], none, []⟩,
   ⟨some 111, .mv, [.t 16], some (41, 110, true), []⟩,
   ⟨some 112, .mv, [.t 1], some (41, 110, true), []⟩,
   ⟨some 113, .mv, [.t 6], some (41, 110, true), []⟩,
   ⟨some 114, .call 28, [.t 111, .t 112, .t 113], some (41, 110, true), []⟩,
   ⟨some 115, .mv, [.t 18], some (41, 110, true), []⟩,
   ⟨some 116, .mv, [.t 1], some (41, 110, true), []⟩,
   ⟨some 117, .mv, [.t 6], some (41, 110, true), []⟩,
   ⟨some 118, .call 29, [.t 115, .t 116, .t 117], some (41, 110, true), []⟩,
   ⟨some 119, .call 27, [.t 114, .t 118], some (41, 110, true), []⟩,
   ⟨some 120, .pick, [.t 110, .t 119, .bool false], none, []⟩,
   ⟨some 14, .mv, [.t 120], none, []⟩])
 .ret)))))))))))))⟩
/- 0=n 1=arcs 2=at 3=time 4=high 5=labels 6=to 14= 15=head 16=a 17=e 18=b 19=f 20=c 21=g 22=d 23=h -/
/-! tonneau/tonneaulaw11.RoadBest -/
def x6_1 : XC := (.seq (.seq (.reg false [
   ⟨some 98, .mv, [.t 18], none, []⟩,
   ⟨some 99, .mv, [.t 15], none, []⟩,
   ⟨some 100, .len false, [.t 99], none, []⟩,
   ⟨some 101, .bin .lss, [.t 98, .t 100], none, []⟩])
 (.cond (.t 101)
  .skip
  (.exit 2)))
 (.seq (.block 3 (.seq (.seq (.reg false [
    ⟨some 104, .mv, [.t 15], none, []⟩,
    ⟨some 105, .mv, [.t 18], none, []⟩,
    ⟨some 106, .iaddr (.int .i64), [.t 104, .t 105], none, []⟩,
    ⟨some 107, .load (.int .i64), [.t 106], none, []⟩,
    ⟨some 108, .bin .lss, [.t 107, .int .i64 0], none, []⟩,
    ⟨some 109, .mv, [.t 108], none, []⟩,
    ⟨some 110, .mv, [.t 15], some (5, 109, false), []⟩,
    ⟨some 111, .mv, [.t 18], some (5, 109, false), []⟩,
    ⟨some 112, .iaddr (.int .i64), [.t 110, .t 111], some (5, 109, false), []⟩,
    ⟨some 113, .load (.int .i64), [.t 112], some (5, 109, false), []⟩,
    ⟨some 114, .mv, [.t 1], some (5, 109, false), []⟩,
    ⟨some 115, .len false, [.t 114], some (5, 109, false), []⟩,
    ⟨some 116, .bin .geq, [.t 113, .t 115], some (5, 109, false), []⟩,
    ⟨some 117, .pick, [.t 109, .bool true, .t 116], none, []⟩])
  (.cond (.t 117)
   (.seq (.reg false [
     ⟨some 10, .mv, [.bool false], none, []⟩])
   .ret)
   .skip))
  (.clean (.seq (.reg false [
    ⟨some 118, .mv, [.t 1], none, []⟩,
    ⟨some 119, .mv, [.t 15], none, []⟩,
    ⟨some 120, .mv, [.t 18], none, []⟩,
    ⟨some 121, .iaddr (.int .i64), [.t 119, .t 120], none, []⟩,
    ⟨some 122, .load (.int .i64), [.t 121], none, []⟩,
    ⟨some 123, .iaddr (.st (.cons (.int .i64) (.cons (.int .i64) (.cons (.sl (.int .i64)) (.sl (.int .i64)))))), [.t 118, .t 122], none, []⟩,
    ⟨some 124, .load (.st (.cons (.int .i64) (.cons (.int .i64) (.cons (.sl (.int .i64)) (.sl (.int .i64)))))), [.t 123], none, []⟩,
    ⟨some 19, .alloc 45 (.st (.cons (.int .i64) (.cons (.int .i64) (.cons (.sl (.int .i64)) (.sl (.int .i64)))))), [], none, []⟩,
    ⟨none, .store (.st (.cons (.int .i64) (.cons (.int .i64) (.cons (.sl (.int .i64)) (.sl (.int .i64)))))), [.t 19, .t 124], none, []⟩])
  (.clean (.seq (.seq (.reg false [
    ⟨some 125, .faddr 0 (.int .i64), [.t 19], none, []⟩,
    ⟨some 126, .load (.int .i64), [.t 125], none, []⟩,
    ⟨some 127, .mv, [.t 16], none, []⟩,
    ⟨some 128, .bin .neq, [.t 126, .t 127], none, []⟩])
  (.cond (.t 128)
   (.seq (.reg false [
     ⟨some 10, .mv, [.bool false], none, []⟩])
   .ret)
   .skip))
  (.clean (.seq (.reg false [
    ⟨some 129, .load (.st (.cons (.int .i64) (.cons (.int .i64) (.cons (.sl (.int .i64)) (.sl (.int .i64)))))), [.t 19], none, []⟩,
    ⟨some 130, .mv, [.t 17], none, []⟩,
    ⟨some 131, .mv, [.t 4], none, []⟩,
    ⟨some 132, .call 31, [.t 129, .t 130, .t 131], none, []⟩,
    ⟨some 17, .mv, [.t 132], none, []⟩])
  (.reg false [
    ⟨some 133, .faddr 1 (.int .i64), [.t 19], none, []⟩,
    ⟨some 134, .load (.int .i64), [.t 133], none, []⟩,
    ⟨some 16, .mv, [.t 134], none, []⟩])))))))))
 (.clean (.reg false [
   ⟨some 102, .mv, [.t 18], none, []⟩,
   ⟨some 103, .bin .add, [.t 102, .int .i64 1], none, []⟩,
   ⟨some 18, .mv, [.t 103], none, []⟩]))))
def x6_1d : List Nat := [10, 16, 17, 18, 19]
def x6_0 : XC := (.seq (.seq (.reg false [
   ⟨some 70, .mv, [.t 14], none, []⟩,
   ⟨some 71, .mv, [.t 0], none, []⟩,
   ⟨some 72, .bin .lss, [.t 70, .t 71], none, []⟩])
 (.cond (.t 72)
  .skip
  (.exit 0)))
 (.seq (.block 1 (.seq (.reg false [
    ⟨some 75, .mv, [.t 12], none, []⟩,
    ⟨some 76, .mv, [.t 1], none, []⟩,
    ⟨some 77, .mv, [.t 14], none, []⟩,
    ⟨some 78, .call 28, [.t 75, .t 76, .t 77], none, []⟩,
    ⟨some 15, .mv, [.t 78], none, []⟩])
  (.seq (.seq (.reg false [
    ⟨some 79, .mv, [.t 12], none, []⟩,
    ⟨some 80, .mv, [.t 14], none, []⟩,
    ⟨some 81, .iaddr (.st (.cons (.int .i64) (.int .i64))), [.t 79, .t 80], none, []⟩,
    ⟨some 82, .faddr 0 (.int .i64), [.t 81], none, []⟩,
    ⟨some 83, .load (.int .i64), [.t 82], none, []⟩,
    ⟨some 84, .bin .eql, [.t 83, .int .i64 (-1)], none, []⟩])
  (.cond (.t 84)
   (.seq (.seq (.reg false [
     ⟨some 85, .mv, [.t 15], none, []⟩,
     ⟨some 86, .len false, [.t 85], none, []⟩,
     ⟨some 87, .bin .gtr, [.t 86, .int .i64 0], none, []⟩,
     ⟨some 88, .mv, [.t 87], none, []⟩,
     ⟨some 89, .mv, [.t 12], some (3, 88, false), []⟩,
     ⟨some 90, .mv, [.t 14], some (3, 88, false), []⟩,
     ⟨some 91, .iaddr (.st (.cons (.int .i64) (.int .i64))), [.t 89, .t 90], some (3, 88, false), []⟩,
     ⟨some 92, .faddr 1 (.int .i64), [.t 91], some (3, 88, false), []⟩,
     ⟨some 93, .load (.int .i64), [.t 92], some (3, 88, false), []⟩,
     ⟨some 94, .bin .neq, [.t 93, .int .i64 (-1)], some (3, 88, false), []⟩,
     ⟨some 95, .pick, [.t 88, .bool true, .t 94], none, []⟩])
   (.cond (.t 95)
    (.seq (.reg false [
      ⟨some 10, .mv, [.bool false], none, []⟩])
    .ret)
    .skip))
   (.exit 1))
   .skip))
  (.clean (.seq (.reg false [
    ⟨some 96, .mv, [.t 2], none, []⟩,
    ⟨some 16, .mv, [.t 96], none, []⟩])
  (.seq (.reg false [
    ⟨some 97, .mv, [.t 3], none, []⟩,
    ⟨some 17, .mv, [.t 97], none, []⟩])
  (.seq (.seq (.reg false [
    ⟨some 18, .mv, [.int .i64 0], none, []⟩])
  (.block 2 (.loop x6_1)))
  (.clean (.seq (.reg false [
    ⟨some 135, .mv, [.t 16], none, []⟩,
    ⟨some 136, .mv, [.t 14], none, []⟩,
    ⟨some 137, .bin .neq, [.t 135, .t 136], none, []⟩,
    ⟨some 138, .mv, [.t 137], none, []⟩,
    ⟨some 139, .mv, [.t 17], some (3, 138, false), []⟩,
    ⟨some 140, .mv, [.t 12], some (3, 138, false), []⟩,
    ⟨some 141, .mv, [.t 14], some (3, 138, false), []⟩,
    ⟨some 142, .iaddr (.st (.cons (.int .i64) (.int .i64))), [.t 140, .t 141], some (3, 138, false), []⟩,
    ⟨some 143, .faddr 0 (.int .i64), [.t 142], some (3, 138, false), []⟩,
    ⟨some 144, .load (.int .i64), [.t 143], some (3, 138, false), []⟩,
    ⟨some 145, .bin .neq, [.t 139, .t 144], some (3, 138, false), []⟩,
    ⟨some 146, .pick, [.t 138, .bool true, .t 145], none, []⟩])
  (.cond (.t 146)
   (.seq (.reg false [
     ⟨some 10, .mv, [.bool false], none, []⟩])
   .ret)
   .skip))))))))))
 (.clean (.reg false [
   ⟨some 73, .mv, [.t 14], none, []⟩,
   ⟨some 74, .bin .add, [.t 73, .int .i64 1], none, []⟩,
   ⟨some 14, .mv, [.t 74], none, []⟩]))))
def x6_0d : List Nat := [10, 14, 15, 16, 17, 18, 19]
def x6_2 : XC := (.seq (.seq (.reg false [
   ⟨some 147, .mv, [.t 20], none, []⟩,
   ⟨some 148, .mv, [.t 1], none, []⟩,
   ⟨some 149, .len false, [.t 148], none, []⟩,
   ⟨some 150, .bin .lss, [.t 147, .t 149], none, []⟩])
 (.cond (.t 150)
  .skip
  (.exit 4)))
 (.seq (.block 5 (.seq (.reg false [
    ⟨some 153, .mv, [.t 1], none, []⟩,
    ⟨some 154, .mv, [.t 20], none, []⟩,
    ⟨some 155, .iaddr (.st (.cons (.int .i64) (.cons (.int .i64) (.cons (.sl (.int .i64)) (.sl (.int .i64)))))), [.t 153, .t 154], none, []⟩,
    ⟨some 156, .load (.st (.cons (.int .i64) (.cons (.int .i64) (.cons (.sl (.int .i64)) (.sl (.int .i64)))))), [.t 155], none, []⟩,
    ⟨some 21, .alloc 45 (.st (.cons (.int .i64) (.cons (.int .i64) (.cons (.sl (.int .i64)) (.sl (.int .i64)))))), [], none, []⟩,
    ⟨none, .store (.st (.cons (.int .i64) (.cons (.int .i64) (.cons (.sl (.int .i64)) (.sl (.int .i64)))))), [.t 21, .t 156], none, []⟩])
  (.seq (.seq (.reg false [
    ⟨some 157, .mv, [.t 12], none, []⟩,
    ⟨some 158, .faddr 0 (.int .i64), [.t 21], none, []⟩,
    ⟨some 159, .load (.int .i64), [.t 158], none, []⟩,
    ⟨some 160, .iaddr (.st (.cons (.int .i64) (.int .i64))), [.t 157, .t 159], none, []⟩,
    ⟨some 161, .faddr 0 (.int .i64), [.t 160], none, []⟩,
    ⟨some 162, .load (.int .i64), [.t 161], none, []⟩,
    ⟨some 163, .bin .lss, [.t 162, .int .i64 0], none, []⟩])
  (.cond (.t 163)
   (.exit 5)
   .skip))
  (.clean (.seq (.reg true [
    ⟨some 164, .load (.st (.cons (.int .i64) (.cons (.int .i64) (.cons (.sl (.int .i64)) (.sl (.int .i64)))))), [.t 21], none, []⟩,
    ⟨some 165, .mv, [.t 12], none, []⟩,
    ⟨some 166, .faddr 0 (.int .i64), [.t 21], none, []⟩,
    ⟨some 167, .load (.int .i64), [.t 166], none, [2]⟩,
    ⟨some 168, .iaddr (.st (.cons (.int .i64) (.int .i64))), [.t 165, .t 167], none, [1, 3, 2]⟩,
    ⟨some 169, .faddr 0 (.int .i64), [.t 168], none, [4, 1, 3, 2]⟩,
    ⟨some 170, .load (.int .i64), [.t 169], none, [5, 4, 1, 3, 2]⟩,
    ⟨some 171, .mv, [.t 4], none, []⟩,
    ⟨some 172, .call 31, [.t 164, .t 170, .t 171], none, [0, 6, 5, 4, 1, 3, 2, 7]⟩,
    ⟨some 22, .mv, [.t 172], none, [8, 0, 6, 5, 4, 1, 3, 2, 7]⟩])
  (.clean (.seq (.reg false [
    ⟨some 173, .mv, [.t 22], none, []⟩,
    ⟨some 174, .call 30, [.t 173], none, []⟩,
    ⟨some 175, .mv, [.t 174], none, []⟩,
    ⟨some 176, .mv, [.t 12], some (2, 175, true), []⟩,
    ⟨some 177, .faddr 1 (.int .i64), [.t 21], some (2, 175, true), []⟩,
    ⟨some 178, .load (.int .i64), [.t 177], some (2, 175, true), []⟩,
    ⟨some 179, .iaddr (.st (.cons (.int .i64) (.int .i64))), [.t 176, .t 178], some (2, 175, true), []⟩,
    ⟨some 180, .faddr 0 (.int .i64), [.t 179], some (2, 175, true), []⟩,
    ⟨some 181, .load (.int .i64), [.t 180], some (2, 175, true), []⟩,
    ⟨some 182, .bin .lss, [.t 181, .int .i64 0], some (2, 175, true), []⟩,
    ⟨some 183, .mv, [.t 182], some (2, 175, true), []⟩,
    ⟨some 184, .mv, [.t 12], some (10, 183, false), []⟩,
    ⟨some 185, .faddr 1 (.int .i64), [.t 21], some (10, 183, false), []⟩,
    ⟨some 186, .load (.int .i64), [.t 185], some (10, 183, false), []⟩,
    ⟨some 187, .iaddr (.st (.cons (.int .i64) (.int .i64))), [.t 184, .t 186], some (10, 183, false), []⟩,
    ⟨some 188, .faddr 0 (.int .i64), [.t 187], some (10, 183, false), []⟩,
    ⟨some 189, .load (.int .i64), [.t 188], some (10, 183, false), []⟩,
    ⟨some 190, .mv, [.t 22], some (10, 183, false), []⟩,
    ⟨some 191, .bin .gtr, [.t 189, .t 190], some (10, 183, false), []⟩,
    ⟨some 192, .pick, [.t 183, .bool true, .t 191], some (2, 175, true), []⟩,
    ⟨some 193, .pick, [.t 175, .t 192, .bool false], none, []⟩])
  (.cond (.t 193)
   (.seq (.reg false [
     ⟨some 10, .mv, [.bool false], none, []⟩])
   .ret)
   .skip))))))))
 (.clean (.reg false [
   ⟨some 151, .mv, [.t 20], none, []⟩,
   ⟨some 152, .bin .add, [.t 151, .int .i64 1], none, []⟩,
   ⟨some 20, .mv, [.t 152], none, []⟩]))))
def x6_2d : List Nat := [10, 20, 21, 22]
def x6 : XF := ⟨195, [.tmp 10], [0, 1, 2, 3, 4, 10, 11, 12, 13, 14, 15, 16, 17, 18, 19, 20, 21, 22],
 (.seq (.reg false [
   ⟨some 10, .mv, [.bool false], none, []⟩])
 (.seq (.reg false [
   ⟨some 23, .call 18, [], none, []⟩,
   ⟨some 11, .mv, [.t 23], none, []⟩])
 (.seq (.seq (.reg false [
   ⟨some 24, .mv, [.t 0], none, []⟩,
   ⟨some 25, .mv, [.t 1], none, []⟩,
   ⟨some 26, .call 19, [.t 24, .t 25], none, []⟩,
   ⟨some 27, .not, [.t 26], none, []⟩,
   ⟨some 28, .mv, [.t 27], none, []⟩,
   ⟨some 29, .mv, [.t 0], some (4, 28, false), []⟩,
   ⟨some 30, .mv, [.t 1], some (4, 28, false), []⟩,
   ⟨some 31, .call 25, [.t 29, .t 30], some (4, 28, false), []⟩,
   ⟨some 32, .not, [.t 31], some (4, 28, false), []⟩,
   ⟨some 33, .pick, [.t 28, .bool true, .t 32], none, []⟩,
   ⟨some 34, .mv, [.t 33], none, []⟩,
   ⟨some 35, .mv, [.t 2], some (10, 34, false), []⟩,
   ⟨some 36, .bin .lss, [.t 35, .int .i64 0], some (10, 34, false), []⟩,
   ⟨some 37, .pick, [.t 34, .bool true, .t 36], none, []⟩,
   ⟨some 38, .mv, [.t 37], none, []⟩,
   ⟨some 39, .mv, [.t 2], some (14, 38, false), []⟩,
   ⟨some 40, .mv, [.t 0], some (14, 38, false), []⟩,
   ⟨some 41, .bin .geq, [.t 39, .t 40], some (14, 38, false), []⟩,
   ⟨some 42, .pick, [.t 38, .bool true, .t 41], none, []⟩,
   ⟨some 43, .mv, [.t 42], none, []⟩,
   ⟨some 44, .mv, [.t 3], some (19, 43, false), []⟩,
   ⟨some 45, .call 30, [.t 44], some (19, 43, false), []⟩,
   ⟨some 46, .not, [.t 45], some (19, 43, false), []⟩,
   ⟨some 47, .pick, [.t 43, .bool true, .t 46], none, []⟩])
 (.cond (.t 47)
  (.seq (.reg false [
    ⟨some 48, .mv, [.t 11], none, []⟩,
    ⟨some 10, .mv, [.t 48], none, []⟩])
  .ret)
  .skip))
 (.clean (.seq (.reg false [
   ⟨some 50, .mv, [.t 0], none, []⟩,
   ⟨some 51, .mv, [.t 1], none, []⟩,
   ⟨some 52, .mv, [.t 2], none, []⟩,
   ⟨some 53, .mv, [.t 3], none, []⟩,
   ⟨some 54, .mv, [.t 4], none, []⟩,
   ⟨some 55, .call 20, [.t 50, .t 51, .t 52, .t 53, .t 54], none, []⟩,
   ⟨some 49, .mv, [.t 55], none, []⟩,
   ⟨some 56, .extract 0, [.t 49], none, []⟩,
   ⟨some 57, .extract 1, [.t 49], none, []⟩,
   ⟨some 12, .mv, [.t 56], none, []⟩,
   ⟨some 13, .mv, [.t 57], none, []⟩])
 (.clean (.seq (.seq (.reg false [
   ⟨some 58, .mv, [.t 13], none, []⟩,
   ⟨some 59, .bin .neq, [.t 58, .int .i64 0], none, []⟩,
   ⟨some 60, .mv, [.t 59], none, []⟩,
   ⟨some 61, .mv, [.t 12], some (2, 60, false), []⟩,
   ⟨some 62, .len false, [.t 61], some (2, 60, false), []⟩,
   ⟨some 63, .mv, [.t 0], some (2, 60, false), []⟩,
   ⟨some 64, .bin .neq, [.t 62, .t 63], some (2, 60, false), []⟩,
   ⟨some 65, .pick, [.t 60, .bool true, .t 64], none, []⟩,
   ⟨some 66, .mv, [.t 65], none, []⟩,
   ⟨some 67, .mv, [.t 0], some (8, 66, false), []⟩,
   ⟨some 68, .bin .gtr, [.t 67, .int .i64 12], some (8, 66, false), []⟩,
   ⟨some 69, .pick, [.t 66, .bool true, .t 68], none, []⟩])
 (.cond (.t 69)
  (.seq (.reg false [
    ⟨some 10, .mv, [.bool false], none, []⟩])
  .ret)
  .skip))
 (.clean (.seq (.seq (.reg false [
   ⟨some 14, .mv, [.int .i64 0], none, []⟩])
 (.block 0 (.loop x6_0)))
 (.clean (.seq (.seq (.reg false [
   ⟨some 20, .mv, [.int .i64 0], none, []⟩])
 (.block 4 (.loop x6_2)))
 (.seq (.reg false [
   ⟨some 194, .mv, [.t 11], none, []⟩,
   ⟨some 10, .mv, [.t 194], none, []⟩])
 .ret))))))))))))⟩
/- 0=n 1=arcs 2=from 3=start 4=high 10= 11=head 12=l 13=e 14=v 15=way 16=at 17=now 18=i 19=a 20=i 21=a 22=t -/
/-! tonneau/tonneaulaw11.RoadLater -/
def x7_0 : XC := (.seq (.seq (.reg false [
   ⟨some 150, .mv, [.t 23], none, []⟩,
   ⟨some 151, .mv, [.t 0], none, []⟩,
   ⟨some 152, .bin .lss, [.t 150, .t 151], none, []⟩])
 (.cond (.t 152)
  .skip
  (.exit 0)))
 (.seq (.block 1 (.seq (.reg true [
    ⟨some 155, .mv, [.t 17], none, []⟩,
    ⟨some 156, .mv, [.t 23], none, []⟩,
    ⟨some 157, .iaddr (.st (.cons (.int .i64) (.int .i64))), [.t 155, .t 156], none, [0, 1]⟩,
    ⟨some 158, .faddr 0 (.int .i64), [.t 157], none, [2, 0, 1]⟩,
    ⟨some 159, .load (.int .i64), [.t 158], none, [3, 2, 0, 1]⟩,
    ⟨some 160, .mv, [.t 15], none, []⟩,
    ⟨some 161, .mv, [.t 23], none, []⟩,
    ⟨some 162, .iaddr (.st (.cons (.int .i64) (.int .i64))), [.t 160, .t 161], none, [5, 6]⟩,
    ⟨some 163, .faddr 0 (.int .i64), [.t 162], none, [7, 5, 6]⟩,
    ⟨some 164, .load (.int .i64), [.t 163], none, [8, 7, 5, 6]⟩,
    ⟨some 165, .call 32, [.t 159, .t 164], none, [4, 3, 2, 0, 1, 9, 8, 7, 5, 6]⟩,
    ⟨some 166, .not, [.t 165], none, [10, 4, 3, 2, 0, 1, 9, 8, 7, 5, 6]⟩,
    ⟨some 167, .mv, [.t 166], none, [11, 10, 4, 3, 2, 0, 1, 9, 8, 7, 5, 6]⟩,
    ⟨some 168, .mv, [.t 15], some (12, 167, false), [12, 11, 10, 4, 3, 2, 0, 1, 9, 8, 7, 5, 6]⟩,
    ⟨some 169, .mv, [.t 23], some (12, 167, false), [12, 11, 10, 4, 3, 2, 0, 1, 9, 8, 7, 5, 6]⟩,
    ⟨some 170, .iaddr (.st (.cons (.int .i64) (.int .i64))), [.t 168, .t 169], some (12, 167, false), [13, 12, 11, 10, 4, 3, 2, 0, 1, 9, 8, 7, 5, 6, 14]⟩,
    ⟨some 171, .faddr 0 (.int .i64), [.t 170], some (12, 167, false), [15, 13, 12, 11, 10, 4, 3, 2, 0, 1, 9, 8, 7, 5, 6, 14]⟩,
    ⟨some 172, .load (.int .i64), [.t 171], some (12, 167, false), [16, 15, 13, 12, 11, 10, 4, 3, 2, 0, 1, 9, 8, 7, 5, 6, 14]⟩,
    ⟨some 173, .mv, [.t 19], some (12, 167, false), [12, 11, 10, 4, 3, 2, 0, 1, 9, 8, 7, 5, 6]⟩,
    ⟨some 174, .mv, [.t 23], some (12, 167, false), [12, 11, 10, 4, 3, 2, 0, 1, 9, 8, 7, 5, 6]⟩,
    ⟨some 175, .iaddr (.st (.cons (.int .i64) (.int .i64))), [.t 173, .t 174], some (12, 167, false), [18, 12, 11, 10, 4, 3, 2, 0, 1, 9, 8, 7, 5, 6, 19]⟩,
    ⟨some 176, .faddr 0 (.int .i64), [.t 175], some (12, 167, false), [20, 18, 12, 11, 10, 4, 3, 2, 0, 1, 9, 8, 7, 5, 6, 19]⟩,
    ⟨some 177, .load (.int .i64), [.t 176], some (12, 167, false), [21, 20, 18, 12, 11, 10, 4, 3, 2, 0, 1, 9, 8, 7, 5, 6, 19]⟩,
    ⟨some 178, .call 32, [.t 172, .t 177], some (12, 167, false), [17, 16, 15, 13, 12, 11, 10, 4, 3, 2, 0, 1, 9, 8, 7, 5, 6, 14, 22, 21, 20, 18, 19]⟩,
    ⟨some 179, .not, [.t 178], some (12, 167, false), [23, 17, 16, 15, 13, 12, 11, 10, 4, 3, 2, 0, 1, 9, 8, 7, 5, 6, 14, 22, 21, 20, 18, 19]⟩,
    ⟨some 180, .pick, [.t 167, .bool true, .t 179], none, [12, 11, 10, 4, 3, 2, 0, 1, 9, 8, 7, 5, 6, 24, 23, 17, 16, 15, 13, 14, 22, 21, 20, 18, 19]⟩,
    ⟨some 181, .mv, [.t 180], none, [25, 12, 11, 10, 4, 3, 2, 0, 1, 9, 8, 7, 5, 6, 24, 23, 17, 16, 15, 13, 14, 22, 21, 20, 18, 19]⟩,
    ⟨some 182, .mv, [.t 21], some (26, 181, false), [26, 25, 12, 11, 10, 4, 3, 2, 0, 1, 9, 8, 7, 5, 6, 24, 23, 17, 16, 15, 13, 14, 22, 21, 20, 18, 19]⟩,
    ⟨some 183, .mv, [.t 23], some (26, 181, false), [26, 25, 12, 11, 10, 4, 3, 2, 0, 1, 9, 8, 7, 5, 6, 24, 23, 17, 16, 15, 13, 14, 22, 21, 20, 18, 19]⟩,
    ⟨some 184, .iaddr (.st (.cons (.int .i64) (.int .i64))), [.t 182, .t 183], some (26, 181, false), [27, 26, 25, 12, 11, 10, 4, 3, 2, 0, 1, 9, 8, 7, 5, 6, 24, 23, 17, 16, 15, 13, 14, 22, 21, 20, 18, 19, 28]⟩,
    ⟨some 185, .faddr 0 (.int .i64), [.t 184], some (26, 181, false), [29, 27, 26, 25, 12, 11, 10, 4, 3, 2, 0, 1, 9, 8, 7, 5, 6, 24, 23, 17, 16, 15, 13, 14, 22, 21, 20, 18, 19, 28]⟩,
    ⟨some 186, .load (.int .i64), [.t 185], some (26, 181, false), [30, 29, 27, 26, 25, 12, 11, 10, 4, 3, 2, 0, 1, 9, 8, 7, 5, 6, 24, 23, 17, 16, 15, 13, 14, 22, 21, 20, 18, 19, 28]⟩,
    ⟨some 187, .mv, [.t 15], some (26, 181, false), [26, 25, 12, 11, 10, 4, 3, 2, 0, 1, 9, 8, 7, 5, 6, 24, 23, 17, 16, 15, 13, 14, 22, 21, 20, 18, 19]⟩,
    ⟨some 188, .mv, [.t 23], some (26, 181, false), [26, 25, 12, 11, 10, 4, 3, 2, 0, 1, 9, 8, 7, 5, 6, 24, 23, 17, 16, 15, 13, 14, 22, 21, 20, 18, 19]⟩,
    ⟨some 189, .iaddr (.st (.cons (.int .i64) (.int .i64))), [.t 187, .t 188], some (26, 181, false), [32, 26, 25, 12, 11, 10, 4, 3, 2, 0, 1, 9, 8, 7, 5, 6, 24, 23, 17, 16, 15, 13, 14, 22, 21, 20, 18, 19, 33]⟩,
    ⟨some 190, .faddr 0 (.int .i64), [.t 189], some (26, 181, false), [34, 32, 26, 25, 12, 11, 10, 4, 3, 2, 0, 1, 9, 8, 7, 5, 6, 24, 23, 17, 16, 15, 13, 14, 22, 21, 20, 18, 19, 33]⟩,
    ⟨some 191, .load (.int .i64), [.t 190], some (26, 181, false), [35, 34, 32, 26, 25, 12, 11, 10, 4, 3, 2, 0, 1, 9, 8, 7, 5, 6, 24, 23, 17, 16, 15, 13, 14, 22, 21, 20, 18, 19, 33]⟩,
    ⟨some 192, .call 32, [.t 186, .t 191], some (26, 181, false), [31, 30, 29, 27, 26, 25, 12, 11, 10, 4, 3, 2, 0, 1, 9, 8, 7, 5, 6, 24, 23, 17, 16, 15, 13, 14, 22, 21, 20, 18, 19, 28, 36, 35, 34, 32, 33]⟩,
    ⟨some 193, .not, [.t 192], some (26, 181, false), [37, 31, 30, 29, 27, 26, 25, 12, 11, 10, 4, 3, 2, 0, 1, 9, 8, 7, 5, 6, 24, 23, 17, 16, 15, 13, 14, 22, 21, 20, 18, 19, 28, 36, 35, 34, 32, 33]⟩,
    ⟨some 194, .pick, [.t 181, .bool true, .t 193], none, [26, 25, 12, 11, 10, 4, 3, 2, 0, 1, 9, 8, 7, 5, 6, 24, 23, 17, 16, 15, 13, 14, 22, 21, 20, 18, 19, 38, 37, 31, 30, 29, 27, 28, 36, 35, 34, 32, 33]⟩])
  (.cond (.t 194)
   (.seq (.reg false [
     ⟨some 12, .mv, [.bool false], none, []⟩])
   .ret)
   .skip)))
 (.clean (.reg false [
   ⟨some 153, .mv, [.t 23], none, []⟩,
   ⟨some 154, .bin .add, [.t 153, .int .i64 1], none, []⟩,
   ⟨some 23, .mv, [.t 154], none, []⟩]))))
def x7_0d : List Nat := [12, 23]
def x7 : XF := ⟨196, [.tmp 12], [0, 1, 2, 3, 4, 5, 11, 12, 13, 14, 15, 16, 17, 18, 19, 20, 21, 22, 23],
 (.seq (.reg false [
   ⟨some 11, .box 45, [.t 5], none, []⟩,
   ⟨some 12, .mv, [.bool false], none, []⟩])
 (.seq (.reg false [
   ⟨some 24, .call 18, [], none, []⟩,
   ⟨some 13, .mv, [.t 24], none, []⟩])
 (.seq (.reg true [
   ⟨some 25, .bslice 45 (.st (.cons (.int .i64) (.cons (.int .i64) (.cons (.sl (.int .i64)) (.sl (.int .i64)))))) 0 [], [], none, []⟩,
   ⟨some 26, .mv, [.t 1], none, []⟩,
   ⟨some 27, .append 45 (.st (.cons (.int .i64) (.cons (.int .i64) (.cons (.sl (.int .i64)) (.sl (.int .i64)))))) 64, [.t 25, .t 26], none, [0, 1]⟩,
   ⟨some 28, .load (.st (.cons (.int .i64) (.cons (.int .i64) (.cons (.sl (.int .i64)) (.sl (.int .i64)))))), [.t 11], none, []⟩,
   ⟨some 29, .bslice 45 (.st (.cons (.int .i64) (.cons (.int .i64) (.cons (.sl (.int .i64)) (.sl (.int .i64)))))) 1 [0], [.t 28], none, [3]⟩,
   ⟨some 30, .append 45 (.st (.cons (.int .i64) (.cons (.int .i64) (.cons (.sl (.int .i64)) (.sl (.int .i64)))))) 64, [.t 27, .t 29], none, [2, 0, 1, 4, 3]⟩,
   ⟨some 14, .mv, [.t 30], none, [5, 2, 0, 1, 4, 3]⟩])
 (.top (.clean (.seq (.seq (.reg false [
   ⟨some 31, .mv, [.t 0], none, []⟩,
   ⟨some 32, .mv, [.t 1], none, []⟩,
   ⟨some 33, .call 19, [.t 31, .t 32], none, []⟩,
   ⟨some 34, .not, [.t 33], none, []⟩,
   ⟨some 35, .mv, [.t 34], none, []⟩,
   ⟨some 36, .mv, [.t 0], some (4, 35, false), []⟩,
   ⟨some 37, .mv, [.t 1], some (4, 35, false), []⟩,
   ⟨some 38, .call 25, [.t 36, .t 37], some (4, 35, false), []⟩,
   ⟨some 39, .not, [.t 38], some (4, 35, false), []⟩,
   ⟨some 40, .pick, [.t 35, .bool true, .t 39], none, []⟩,
   ⟨some 41, .mv, [.t 40], none, []⟩,
   ⟨some 42, .mv, [.t 2], some (10, 41, false), []⟩,
   ⟨some 43, .bin .lss, [.t 42, .int .i64 0], some (10, 41, false), []⟩,
   ⟨some 44, .pick, [.t 41, .bool true, .t 43], none, []⟩,
   ⟨some 45, .mv, [.t 44], none, []⟩,
   ⟨some 46, .mv, [.t 2], some (14, 45, false), []⟩,
   ⟨some 47, .mv, [.t 0], some (14, 45, false), []⟩,
   ⟨some 48, .bin .geq, [.t 46, .t 47], some (14, 45, false), []⟩,
   ⟨some 49, .pick, [.t 45, .bool true, .t 48], none, []⟩,
   ⟨some 50, .mv, [.t 49], none, []⟩,
   ⟨some 51, .mv, [.t 3], some (19, 50, false), []⟩,
   ⟨some 52, .bin .lss, [.t 51, .int .i64 0], some (19, 50, false), []⟩,
   ⟨some 53, .pick, [.t 50, .bool true, .t 52], none, []⟩,
   ⟨some 54, .mv, [.t 53], none, []⟩,
   ⟨some 55, .mv, [.t 3], some (23, 54, false), []⟩,
   ⟨some 56, .bin .gtr, [.t 55, .int .i64 1000000], some (23, 54, false), []⟩,
   ⟨some 57, .pick, [.t 54, .bool true, .t 56], none, []⟩,
   ⟨some 58, .mv, [.t 57], none, []⟩,
   ⟨some 59, .faddr 2 (.sl (.int .i64)), [.t 11], some (27, 58, false), []⟩,
   ⟨some 60, .load (.sl (.int .i64)), [.t 59], some (27, 58, false), []⟩,
   ⟨some 61, .len false, [.t 60], some (27, 58, false), []⟩,
   ⟨some 62, .bin .gtr, [.t 61, .int .i64 30], some (27, 58, false), []⟩,
   ⟨some 63, .pick, [.t 58, .bool true, .t 62], none, []⟩,
   ⟨some 64, .mv, [.t 63], none, []⟩,
   ⟨some 65, .faddr 3 (.sl (.int .i64)), [.t 11], some (33, 64, false), []⟩,
   ⟨some 66, .load (.sl (.int .i64)), [.t 65], some (33, 64, false), []⟩,
   ⟨some 67, .len false, [.t 66], some (33, 64, false), []⟩,
   ⟨some 68, .bin .gtr, [.t 67, .int .i64 30], some (33, 64, false), []⟩,
   ⟨some 69, .pick, [.t 64, .bool true, .t 68], none, []⟩])
 (.cond (.t 69)
  (.seq (.reg false [
    ⟨some 70, .mv, [.t 13], none, []⟩,
    ⟨some 12, .mv, [.t 70], none, []⟩])
  .ret)
  .skip))
 (.clean (.seq (.reg false [
   ⟨some 72, .mv, [.t 0], none, []⟩,
   ⟨some 73, .mv, [.t 1], none, []⟩,
   ⟨some 74, .mv, [.t 2], none, []⟩,
   ⟨some 75, .mv, [.t 3], none, []⟩,
   ⟨some 76, .call 20, [.t 72, .t 73, .t 74, .t 75, .bool true], none, []⟩,
   ⟨some 71, .mv, [.t 76], none, []⟩,
   ⟨some 77, .extract 0, [.t 71], none, []⟩,
   ⟨some 78, .extract 1, [.t 71], none, []⟩,
   ⟨some 15, .mv, [.t 77], none, []⟩,
   ⟨some 16, .mv, [.t 78], none, []⟩])
 (.clean (.seq (.reg false [
   ⟨some 80, .mv, [.t 0], none, []⟩,
   ⟨some 81, .mv, [.t 1], none, []⟩,
   ⟨some 82, .mv, [.t 2], none, []⟩,
   ⟨some 83, .mv, [.t 3], none, []⟩,
   ⟨some 84, .call 20, [.t 80, .t 81, .t 82, .t 83, .bool false], none, []⟩,
   ⟨some 79, .mv, [.t 84], none, []⟩,
   ⟨some 85, .extract 0, [.t 79], none, []⟩,
   ⟨some 86, .extract 1, [.t 79], none, []⟩,
   ⟨some 17, .mv, [.t 85], none, []⟩,
   ⟨some 18, .mv, [.t 86], none, []⟩])
 (.clean (.seq (.reg false [
   ⟨some 88, .mv, [.t 0], none, []⟩,
   ⟨some 89, .mv, [.t 1], none, []⟩,
   ⟨some 90, .mv, [.t 2], none, []⟩,
   ⟨some 91, .mv, [.t 3], none, []⟩,
   ⟨some 92, .mv, [.t 4], none, []⟩,
   ⟨some 93, .conv .i64, [.t 92], none, []⟩,
   ⟨some 94, .bin .add, [.t 91, .t 93], none, []⟩,
   ⟨some 95, .min, [.t 94, .int .i64 1048576], none, []⟩,
   ⟨some 96, .call 20, [.t 88, .t 89, .t 90, .t 95, .bool true], none, []⟩,
   ⟨some 87, .mv, [.t 96], none, []⟩,
   ⟨some 97, .extract 0, [.t 87], none, []⟩,
   ⟨some 98, .extract 1, [.t 87], none, []⟩,
   ⟨some 19, .mv, [.t 97], none, []⟩,
   ⟨some 20, .mv, [.t 98], none, []⟩])
 (.clean (.seq (.reg false [
   ⟨some 100, .mv, [.t 0], none, []⟩,
   ⟨some 101, .mv, [.t 14], none, []⟩,
   ⟨some 102, .mv, [.t 2], none, []⟩,
   ⟨some 103, .mv, [.t 3], none, []⟩,
   ⟨some 104, .call 20, [.t 100, .t 101, .t 102, .t 103, .bool true], none, []⟩,
   ⟨some 99, .mv, [.t 104], none, []⟩,
   ⟨some 105, .extract 0, [.t 99], none, []⟩,
   ⟨some 106, .extract 1, [.t 99], none, []⟩,
   ⟨some 21, .mv, [.t 105], none, []⟩,
   ⟨some 22, .mv, [.t 106], none, []⟩])
 (.clean (.seq (.seq (.reg false [
   ⟨some 107, .mv, [.t 16], none, []⟩,
   ⟨some 108, .bin .neq, [.t 107, .int .i64 0], none, []⟩,
   ⟨some 109, .mv, [.t 108], none, []⟩,
   ⟨some 110, .mv, [.t 18], some (2, 109, false), []⟩,
   ⟨some 111, .bin .neq, [.t 110, .int .i64 0], some (2, 109, false), []⟩,
   ⟨some 112, .pick, [.t 109, .bool true, .t 111], none, []⟩,
   ⟨some 113, .mv, [.t 112], none, []⟩,
   ⟨some 114, .mv, [.t 20], some (6, 113, false), []⟩,
   ⟨some 115, .bin .neq, [.t 114, .int .i64 0], some (6, 113, false), []⟩,
   ⟨some 116, .pick, [.t 113, .bool true, .t 115], none, []⟩,
   ⟨some 117, .mv, [.t 116], none, []⟩,
   ⟨some 118, .mv, [.t 15], some (10, 117, false), []⟩,
   ⟨some 119, .len false, [.t 118], some (10, 117, false), []⟩,
   ⟨some 120, .mv, [.t 0], some (10, 117, false), []⟩,
   ⟨some 121, .bin .neq, [.t 119, .t 120], some (10, 117, false), []⟩,
   ⟨some 122, .pick, [.t 117, .bool true, .t 121], none, []⟩,
   ⟨some 123, .mv, [.t 122], none, []⟩,
   ⟨some 124, .mv, [.t 17], some (16, 123, false), []⟩,
   ⟨some 125, .len false, [.t 124], some (16, 123, false), []⟩,
   ⟨some 126, .mv, [.t 0], some (16, 123, false), []⟩,
   ⟨some 127, .bin .neq, [.t 125, .t 126], some (16, 123, false), []⟩,
   ⟨some 128, .pick, [.t 123, .bool true, .t 127], none, []⟩,
   ⟨some 129, .mv, [.t 128], none, []⟩,
   ⟨some 130, .mv, [.t 19], some (22, 129, false), []⟩,
   ⟨some 131, .len false, [.t 130], some (22, 129, false), []⟩,
   ⟨some 132, .mv, [.t 0], some (22, 129, false), []⟩,
   ⟨some 133, .bin .neq, [.t 131, .t 132], some (22, 129, false), []⟩,
   ⟨some 134, .pick, [.t 129, .bool true, .t 133], none, []⟩])
 (.cond (.t 134)
  (.seq (.reg false [
    ⟨some 12, .mv, [.bool false], none, []⟩])
  .ret)
  .skip))
 (.clean (.seq (.seq (.reg false [
   ⟨some 135, .mv, [.t 22], none, []⟩,
   ⟨some 136, .bin .neq, [.t 135, .int .i64 0], none, []⟩])
 (.cond (.t 136)
  (.reg false [
    ⟨some 137, .mv, [.t 15], none, []⟩,
    ⟨some 21, .mv, [.t 137], none, []⟩])
  .skip))
 (.seq (.seq (.reg false [
   ⟨some 138, .mv, [.t 21], none, []⟩,
   ⟨some 139, .len false, [.t 138], none, []⟩,
   ⟨some 140, .mv, [.t 0], none, []⟩,
   ⟨some 141, .bin .neq, [.t 139, .t 140], none, []⟩,
   ⟨some 142, .mv, [.t 141], none, []⟩,
   ⟨some 143, .mv, [.t 22], some (4, 142, false), []⟩,
   ⟨some 144, .bin .eql, [.t 143, .int .i64 0], some (4, 142, false), []⟩,
   ⟨some 145, .mv, [.t 0], some (4, 142, false), []⟩,
   ⟨some 146, .mv, [.t 14], some (4, 142, false), []⟩,
   ⟨some 147, .call 25, [.t 145, .t 146], some (4, 142, false), []⟩,
   ⟨some 148, .beq true .bool, [.t 144, .t 147], some (4, 142, false), []⟩,
   ⟨some 149, .pick, [.t 142, .bool true, .t 148], none, []⟩])
 (.cond (.t 149)
  (.seq (.reg false [
    ⟨some 12, .mv, [.bool false], none, []⟩])
  .ret)
  .skip))
 (.clean (.seq (.seq (.reg false [
   ⟨some 23, .mv, [.int .i64 0], none, []⟩])
 (.block 0 (.loop x7_0)))
 (.seq (.reg false [
   ⟨some 195, .mv, [.t 13], none, []⟩,
   ⟨some 12, .mv, [.t 195], none, []⟩])
 .ret))))))))))))))))))))))⟩
/- 0=n 1=arcs 2=from 3=start 4=later 5=x 11=x 12= 13=head 14=more 15=a 16=e 17=b 18=f 19=c 20=g 21=d 22=h 23=v -/
/-! tonneau/tonneaulaw11.RoadLate -/
def x8_0 : XC := (.seq (.seq (.reg false [
   ⟨some 64, .mv, [.t 12], none, []⟩,
   ⟨some 65, .mv, [.t 0], none, []⟩,
   ⟨some 66, .bin .lss, [.t 64, .t 65], none, []⟩])
 (.cond (.t 66)
  .skip
  (.exit 0)))
 (.seq (.block 1 (.seq (.reg false [
    ⟨some 69, .mv, [.t 10], none, []⟩,
    ⟨some 70, .mv, [.t 12], none, []⟩,
    ⟨some 71, .iaddr (.st (.cons (.int .i64) (.int .i64))), [.t 69, .t 70], none, []⟩,
    ⟨some 72, .faddr 0 (.int .i64), [.t 71], none, []⟩,
    ⟨some 73, .load (.int .i64), [.t 72], none, []⟩,
    ⟨some 13, .mv, [.t 73], none, []⟩])
  (.clean (.seq (.seq (.reg false [
    ⟨some 74, .mv, [.t 13], none, []⟩,
    ⟨some 75, .mv, [.t 3], none, []⟩,
    ⟨some 76, .bin .gtr, [.t 74, .t 75], none, []⟩,
    ⟨some 77, .mv, [.t 76], none, []⟩,
    ⟨some 78, .mv, [.t 13], some (3, 77, false), []⟩,
    ⟨some 79, .bin .lss, [.t 78, .int .i64 (-1)], some (3, 77, false), []⟩,
    ⟨some 80, .pick, [.t 77, .bool true, .t 79], none, []⟩])
  (.cond (.t 80)
   (.seq (.reg false [
     ⟨some 8, .mv, [.bool false], none, []⟩])
   .ret)
   .skip))
  (.clean (.seq (.seq (.reg false [
    ⟨some 81, .mv, [.t 13], none, []⟩,
    ⟨some 82, .bin .geq, [.t 81, .int .i64 0], none, []⟩])
  (.cond (.t 82)
   (.seq (.reg false [
     ⟨some 84, .mv, [.t 0], none, []⟩,
     ⟨some 85, .mv, [.t 1], none, []⟩,
     ⟨some 86, .mv, [.t 12], none, []⟩,
     ⟨some 87, .mv, [.t 13], none, []⟩,
     ⟨some 88, .call 20, [.t 84, .t 85, .t 86, .t 87, .bool true], none, []⟩,
     ⟨some 83, .mv, [.t 88], none, []⟩,
     ⟨some 89, .extract 0, [.t 83], none, []⟩,
     ⟨some 90, .extract 1, [.t 83], none, []⟩,
     ⟨some 14, .mv, [.t 89], none, []⟩,
     ⟨some 15, .mv, [.t 90], none, []⟩])
   (.clean (.seq (.seq (.reg false [
     ⟨some 91, .mv, [.t 15], none, []⟩,
     ⟨some 92, .bin .neq, [.t 91, .int .i64 0], none, []⟩,
     ⟨some 93, .mv, [.t 92], none, []⟩,
     ⟨some 94, .mv, [.t 14], some (2, 93, false), []⟩,
     ⟨some 95, .len false, [.t 94], some (2, 93, false), []⟩,
     ⟨some 96, .mv, [.t 0], some (2, 93, false), []⟩,
     ⟨some 97, .bin .neq, [.t 95, .t 96], some (2, 93, false), []⟩,
     ⟨some 98, .pick, [.t 93, .bool true, .t 97], none, []⟩])
   (.cond (.t 98)
    (.seq (.reg false [
      ⟨some 8, .mv, [.bool false], none, []⟩])
    .ret)
    .skip))
   (.clean (.seq (.reg false [
     ⟨some 99, .mv, [.t 14], none, []⟩,
     ⟨some 100, .mv, [.t 2], none, []⟩,
     ⟨some 101, .iaddr (.st (.cons (.int .i64) (.int .i64))), [.t 99, .t 100], none, []⟩,
     ⟨some 102, .faddr 0 (.int .i64), [.t 101], none, []⟩,
     ⟨some 103, .load (.int .i64), [.t 102], none, []⟩,
     ⟨some 104, .bin .lss, [.t 103, .int .i64 0], none, []⟩,
     ⟨some 105, .mv, [.t 104], none, []⟩,
     ⟨some 106, .mv, [.t 14], some (6, 105, false), []⟩,
     ⟨some 107, .mv, [.t 2], some (6, 105, false), []⟩,
     ⟨some 108, .iaddr (.st (.cons (.int .i64) (.int .i64))), [.t 106, .t 107], some (6, 105, false), []⟩,
     ⟨some 109, .faddr 0 (.int .i64), [.t 108], some (6, 105, false), []⟩,
     ⟨some 110, .load (.int .i64), [.t 109], some (6, 105, false), []⟩,
     ⟨some 111, .mv, [.t 3], some (6, 105, false), []⟩,
     ⟨some 112, .bin .gtr, [.t 110, .t 111], some (6, 105, false), []⟩,
     ⟨some 113, .pick, [.t 105, .bool true, .t 112], none, []⟩])
   (.cond (.t 113)
    (.seq (.reg false [
      ⟨some 8, .mv, [.bool false], none, []⟩])
    .ret)
    .skip))))))
   .skip))
  (.clean (.seq (.seq (.reg false [
    ⟨some 114, .mv, [.t 13], none, []⟩,
    ⟨some 115, .bin .add, [.t 114, .int .i64 1], none, []⟩,
    ⟨some 116, .bin .gtr, [.t 115, .int .i64 1048576], none, []⟩])
  (.cond (.t 116)
   (.exit 1)
   .skip))
  (.seq (.reg false [
    ⟨some 118, .mv, [.t 0], none, []⟩,
    ⟨some 119, .mv, [.t 1], none, []⟩,
    ⟨some 120, .mv, [.t 12], none, []⟩,
    ⟨some 121, .mv, [.t 13], none, []⟩,
    ⟨some 122, .bin .add, [.t 121, .int .i64 1], none, []⟩,
    ⟨some 123, .call 20, [.t 118, .t 119, .t 120, .t 122, .bool true], none, []⟩,
    ⟨some 117, .mv, [.t 123], none, []⟩,
    ⟨some 124, .extract 0, [.t 117], none, []⟩,
    ⟨some 125, .extract 1, [.t 117], none, []⟩,
    ⟨some 16, .mv, [.t 124], none, []⟩,
    ⟨some 17, .mv, [.t 125], none, []⟩])
  (.clean (.seq (.seq (.reg false [
    ⟨some 126, .mv, [.t 17], none, []⟩,
    ⟨some 127, .bin .neq, [.t 126, .int .i64 0], none, []⟩,
    ⟨some 128, .mv, [.t 127], none, []⟩,
    ⟨some 129, .mv, [.t 16], some (2, 128, false), []⟩,
    ⟨some 130, .len false, [.t 129], some (2, 128, false), []⟩,
    ⟨some 131, .mv, [.t 0], some (2, 128, false), []⟩,
    ⟨some 132, .bin .neq, [.t 130, .t 131], some (2, 128, false), []⟩,
    ⟨some 133, .pick, [.t 128, .bool true, .t 132], none, []⟩])
  (.cond (.t 133)
   (.seq (.reg false [
     ⟨some 8, .mv, [.bool false], none, []⟩])
   .ret)
   .skip))
  (.clean (.seq (.reg false [
    ⟨some 134, .mv, [.t 16], none, []⟩,
    ⟨some 135, .mv, [.t 2], none, []⟩,
    ⟨some 136, .iaddr (.st (.cons (.int .i64) (.int .i64))), [.t 134, .t 135], none, []⟩,
    ⟨some 137, .faddr 0 (.int .i64), [.t 136], none, []⟩,
    ⟨some 138, .load (.int .i64), [.t 137], none, []⟩,
    ⟨some 139, .bin .geq, [.t 138, .int .i64 0], none, []⟩,
    ⟨some 140, .mv, [.t 139], none, []⟩,
    ⟨some 141, .mv, [.t 16], some (6, 140, true), []⟩,
    ⟨some 142, .mv, [.t 2], some (6, 140, true), []⟩,
    ⟨some 143, .iaddr (.st (.cons (.int .i64) (.int .i64))), [.t 141, .t 142], some (6, 140, true), []⟩,
    ⟨some 144, .faddr 0 (.int .i64), [.t 143], some (6, 140, true), []⟩,
    ⟨some 145, .load (.int .i64), [.t 144], some (6, 140, true), []⟩,
    ⟨some 146, .mv, [.t 3], some (6, 140, true), []⟩,
    ⟨some 147, .bin .leq, [.t 145, .t 146], some (6, 140, true), []⟩,
    ⟨some 148, .pick, [.t 140, .t 147, .bool false], none, []⟩])
  (.cond (.t 148)
   (.seq (.reg false [
     ⟨some 8, .mv, [.bool false], none, []⟩])
   .ret)
   .skip))))))))))))))
 (.clean (.reg false [
   ⟨some 67, .mv, [.t 12], none, []⟩,
   ⟨some 68, .bin .add, [.t 67, .int .i64 1], none, []⟩,
   ⟨some 12, .mv, [.t 68], none, []⟩]))))
def x8_0d : List Nat := [8, 12, 13, 14, 15, 16, 17]
def x8 : XF := ⟨150, [.tmp 8], [0, 1, 2, 3, 8, 9, 10, 11, 12, 13, 14, 15, 16, 17],
 (.seq (.reg false [
   ⟨some 8, .mv, [.bool false], none, []⟩])
 (.seq (.reg false [
   ⟨some 18, .call 18, [], none, []⟩,
   ⟨some 9, .mv, [.t 18], none, []⟩])
 (.seq (.seq (.reg false [
   ⟨some 19, .mv, [.t 0], none, []⟩,
   ⟨some 20, .mv, [.t 1], none, []⟩,
   ⟨some 21, .call 19, [.t 19, .t 20], none, []⟩,
   ⟨some 22, .not, [.t 21], none, []⟩,
   ⟨some 23, .mv, [.t 22], none, []⟩,
   ⟨some 24, .mv, [.t 0], some (4, 23, false), []⟩,
   ⟨some 25, .mv, [.t 1], some (4, 23, false), []⟩,
   ⟨some 26, .call 25, [.t 24, .t 25], some (4, 23, false), []⟩,
   ⟨some 27, .not, [.t 26], some (4, 23, false), []⟩,
   ⟨some 28, .pick, [.t 23, .bool true, .t 27], none, []⟩,
   ⟨some 29, .mv, [.t 28], none, []⟩,
   ⟨some 30, .mv, [.t 2], some (10, 29, false), []⟩,
   ⟨some 31, .bin .lss, [.t 30, .int .i64 0], some (10, 29, false), []⟩,
   ⟨some 32, .pick, [.t 29, .bool true, .t 31], none, []⟩,
   ⟨some 33, .mv, [.t 32], none, []⟩,
   ⟨some 34, .mv, [.t 2], some (14, 33, false), []⟩,
   ⟨some 35, .mv, [.t 0], some (14, 33, false), []⟩,
   ⟨some 36, .bin .geq, [.t 34, .t 35], some (14, 33, false), []⟩,
   ⟨some 37, .pick, [.t 33, .bool true, .t 36], none, []⟩,
   ⟨some 38, .mv, [.t 37], none, []⟩,
   ⟨some 39, .mv, [.t 3], some (19, 38, false), []⟩,
   ⟨some 40, .call 30, [.t 39], some (19, 38, false), []⟩,
   ⟨some 41, .not, [.t 40], some (19, 38, false), []⟩,
   ⟨some 42, .pick, [.t 38, .bool true, .t 41], none, []⟩])
 (.cond (.t 42)
  (.seq (.reg false [
    ⟨some 43, .mv, [.t 9], none, []⟩,
    ⟨some 8, .mv, [.t 43], none, []⟩])
  .ret)
  .skip))
 (.clean (.seq (.reg false [
   ⟨some 45, .mv, [.t 0], none, []⟩,
   ⟨some 46, .mv, [.t 1], none, []⟩,
   ⟨some 47, .mv, [.t 2], none, []⟩,
   ⟨some 48, .mv, [.t 3], none, []⟩,
   ⟨some 49, .call 22, [.t 45, .t 46, .t 47, .t 48], none, []⟩,
   ⟨some 44, .mv, [.t 49], none, []⟩,
   ⟨some 50, .extract 0, [.t 44], none, []⟩,
   ⟨some 51, .extract 1, [.t 44], none, []⟩,
   ⟨some 10, .mv, [.t 50], none, []⟩,
   ⟨some 11, .mv, [.t 51], none, []⟩])
 (.clean (.seq (.seq (.reg false [
   ⟨some 52, .mv, [.t 11], none, []⟩,
   ⟨some 53, .bin .neq, [.t 52, .int .i64 0], none, []⟩,
   ⟨some 54, .mv, [.t 53], none, []⟩,
   ⟨some 55, .mv, [.t 10], some (2, 54, false), []⟩,
   ⟨some 56, .len false, [.t 55], some (2, 54, false), []⟩,
   ⟨some 57, .mv, [.t 0], some (2, 54, false), []⟩,
   ⟨some 58, .bin .neq, [.t 56, .t 57], some (2, 54, false), []⟩,
   ⟨some 59, .pick, [.t 54, .bool true, .t 58], none, []⟩,
   ⟨some 60, .mv, [.t 59], none, []⟩,
   ⟨some 61, .mv, [.t 0], some (8, 60, false), []⟩,
   ⟨some 62, .bin .gtr, [.t 61, .int .i64 12], some (8, 60, false), []⟩,
   ⟨some 63, .pick, [.t 60, .bool true, .t 62], none, []⟩])
 (.cond (.t 63)
  (.seq (.reg false [
    ⟨some 8, .mv, [.bool false], none, []⟩])
  .ret)
  .skip))
 (.clean (.seq (.seq (.reg false [
   ⟨some 12, .mv, [.int .i64 0], none, []⟩])
 (.block 0 (.loop x8_0)))
 (.seq (.reg false [
   ⟨some 149, .mv, [.t 9], none, []⟩,
   ⟨some 8, .mv, [.t 149], none, []⟩])
 .ret))))))))))⟩
/- 0=n 1=arcs 2=to 3=by 8= 9=head 10=l 11=e 12=v 13=t 14=a 15=f 16=b 17=g -/
/-! tonneau/tonneauref12.Few -/
def x13_0 : XC := (.seq (.seq (.reg false [
   ⟨some 8, .mv, [.t 7], none, []⟩,
   ⟨some 9, .mv, [.t 1], none, []⟩,
   ⟨some 10, .len false, [.t 9], none, []⟩,
   ⟨some 11, .bin .lss, [.t 8, .t 10], none, []⟩,
   ⟨some 12, .mv, [.t 11], none, []⟩,
   ⟨some 13, .mv, [.t 7], some (4, 12, true), []⟩,
   ⟨some 14, .bin .leq, [.t 13, .int .i64 12], some (4, 12, true), []⟩,
   ⟨some 15, .pick, [.t 12, .t 14, .bool false], none, []⟩])
 (.cond (.t 15)
  .skip
  (.exit 0)))
 (.clean (.seq (.block 1 (.seq (.reg false [
    ⟨some 18, .mv, [.t 1], none, []⟩,
    ⟨some 19, .mv, [.t 7], none, []⟩,
    ⟨some 20, .iaddr (.st (.cons (.int .i64) (.cons (.int .i64) (.cons (.sl (.int .i64)) (.sl (.int .i64)))))), [.t 18, .t 19], none, []⟩,
    ⟨some 21, .faddr 2 (.sl (.int .i64)), [.t 20], none, []⟩,
    ⟨some 22, .load (.sl (.int .i64)), [.t 21], none, []⟩,
    ⟨some 23, .len false, [.t 22], none, []⟩,
    ⟨some 24, .bin .gtr, [.t 23, .int .i64 25], none, []⟩,
    ⟨some 25, .mv, [.t 24], none, []⟩,
    ⟨some 26, .mv, [.t 1], some (7, 25, false), []⟩,
    ⟨some 27, .mv, [.t 7], some (7, 25, false), []⟩,
    ⟨some 28, .iaddr (.st (.cons (.int .i64) (.cons (.int .i64) (.cons (.sl (.int .i64)) (.sl (.int .i64)))))), [.t 26, .t 27], some (7, 25, false), []⟩,
    ⟨some 29, .faddr 3 (.sl (.int .i64)), [.t 28], some (7, 25, false), []⟩,
    ⟨some 30, .load (.sl (.int .i64)), [.t 29], some (7, 25, false), []⟩,
    ⟨some 31, .len false, [.t 30], some (7, 25, false), []⟩,
    ⟨some 32, .bin .gtr, [.t 31, .int .i64 25], some (7, 25, false), []⟩,
    ⟨some 33, .pick, [.t 25, .bool true, .t 32], none, []⟩])
  (.cond (.t 33)
   (.seq (.reg false [
     ⟨some 6, .mv, [.bool false], none, []⟩])
   .ret)
   .skip)))
 (.clean (.reg false [
   ⟨some 16, .mv, [.t 7], none, []⟩,
   ⟨some 17, .bin .add, [.t 16, .int .i64 1], none, []⟩,
   ⟨some 7, .mv, [.t 17], none, []⟩])))))
def x13_0d : List Nat := [6, 7]
def x13 : XF := ⟨49, [.tmp 6], [0, 1, 2, 6, 7],
 (.seq (.reg false [
   ⟨some 6, .mv, [.bool false], none, []⟩])
 (.seq (.seq (.reg false [
   ⟨some 7, .mv, [.int .i64 0], none, []⟩])
 (.block 0 (.loop x13_0)))
 (.clean (.seq (.reg false [
   ⟨some 34, .mv, [.t 1], none, []⟩,
   ⟨some 35, .len false, [.t 34], none, []⟩,
   ⟨some 36, .bin .leq, [.t 35, .int .i64 12], none, []⟩,
   ⟨some 37, .mv, [.t 36], none, []⟩,
   ⟨some 38, .mv, [.t 2], some (3, 37, true), []⟩,
   ⟨some 39, .bin .leq, [.t 38, .int .i64 8], some (3, 37, true), []⟩,
   ⟨some 40, .pick, [.t 37, .t 39, .bool false], none, []⟩,
   ⟨some 41, .mv, [.t 40], none, []⟩,
   ⟨some 42, .mv, [.t 0], some (7, 41, true), []⟩,
   ⟨some 43, .bin .leq, [.t 42, .int .i64 6], some (7, 41, true), []⟩,
   ⟨some 44, .mv, [.t 43], some (7, 41, true), []⟩,
   ⟨some 45, .mv, [.t 0], some (10, 44, false), []⟩,
   ⟨some 46, .bin .gtr, [.t 45, .int .i64 2000], some (10, 44, false), []⟩,
   ⟨some 47, .pick, [.t 44, .bool true, .t 46], some (7, 41, true), []⟩,
   ⟨some 48, .pick, [.t 41, .t 47, .bool false], none, []⟩,
   ⟨some 6, .mv, [.t 48], none, []⟩])
 .ret))))⟩
/- 0=n 1=arcs 2=labels 6= 7=i -/
/-! tonneau/tonneaulaw11.small -/
def x18 : XF := ⟨116, [.tmp 0], [0, 1, 2, 3, 4, 5, 6, 7, 8, 9, 10, 11, 12, 13],
 (.seq (.reg false [
   ⟨some 0, .mv, [.bool false], none, []⟩])
 (.seq (.reg false [
   ⟨some 14, .call 45, [], none, []⟩,
   ⟨some 1, .mv, [.t 14], none, []⟩])
 (.seq (.reg false [
   ⟨some 16, .mv, [.t 1], none, []⟩,
   ⟨some 17, .call 20, [.int .i64 3, .t 16, .int .i64 0, .int .i64 0, .bool false], none, []⟩,
   ⟨some 15, .mv, [.t 17], none, []⟩,
   ⟨some 18, .extract 0, [.t 15], none, []⟩,
   ⟨some 19, .extract 1, [.t 15], none, []⟩,
   ⟨some 2, .mv, [.t 18], none, []⟩,
   ⟨some 3, .mv, [.t 19], none, []⟩])
 (.clean (.seq (.reg false [
   ⟨some 21, .mv, [.t 1], none, []⟩,
   ⟨some 22, .call 20, [.int .i64 3, .t 21, .int .i64 0, .int .i64 50, .bool true], none, []⟩,
   ⟨some 20, .mv, [.t 22], none, []⟩,
   ⟨some 23, .extract 0, [.t 20], none, []⟩,
   ⟨some 24, .extract 1, [.t 20], none, []⟩,
   ⟨some 4, .mv, [.t 23], none, []⟩,
   ⟨some 5, .mv, [.t 24], none, []⟩])
 (.clean (.seq (.reg false [
   ⟨some 26, .mv, [.t 1], none, []⟩,
   ⟨some 27, .call 20, [.int .i64 3, .t 26, .int .i64 2, .int .i64 0, .bool true], none, []⟩,
   ⟨some 25, .mv, [.t 27], none, []⟩,
   ⟨some 28, .extract 0, [.t 25], none, []⟩,
   ⟨some 29, .extract 1, [.t 25], none, []⟩,
   ⟨some 6, .mv, [.t 28], none, []⟩,
   ⟨some 7, .mv, [.t 29], none, []⟩])
 (.clean (.seq (.reg false [
   ⟨some 31, .mv, [.t 1], none, []⟩,
   ⟨some 32, .call 22, [.int .i64 3, .t 31, .int .i64 2, .int .i64 75], none, []⟩,
   ⟨some 30, .mv, [.t 32], none, []⟩,
   ⟨some 33, .extract 0, [.t 30], none, []⟩,
   ⟨some 34, .extract 1, [.t 30], none, []⟩,
   ⟨some 8, .mv, [.t 33], none, []⟩,
   ⟨some 9, .mv, [.t 34], none, []⟩])
 (.clean (.seq (.reg false [
   ⟨some 36, .mv, [.t 1], none, []⟩,
   ⟨some 37, .call 22, [.int .i64 3, .t 36, .int .i64 2, .int .i64 29], none, []⟩,
   ⟨some 35, .mv, [.t 37], none, []⟩,
   ⟨some 38, .extract 0, [.t 35], none, []⟩,
   ⟨some 39, .extract 1, [.t 35], none, []⟩,
   ⟨some 10, .mv, [.t 38], none, []⟩,
   ⟨some 11, .mv, [.t 39], none, []⟩])
 (.clean (.seq (.reg false [
   ⟨some 40, .mv, [.t 3], none, []⟩,
   ⟨some 41, .bin .eql, [.t 40, .int .i64 0], none, []⟩,
   ⟨some 42, .mv, [.t 41], none, []⟩,
   ⟨some 43, .mv, [.t 5], some (2, 42, true), []⟩,
   ⟨some 44, .bin .eql, [.t 43, .int .i64 0], some (2, 42, true), []⟩,
   ⟨some 45, .pick, [.t 42, .t 44, .bool false], none, []⟩,
   ⟨some 46, .mv, [.t 45], none, []⟩,
   ⟨some 47, .mv, [.t 7], some (6, 46, true), []⟩,
   ⟨some 48, .bin .eql, [.t 47, .int .i64 0], some (6, 46, true), []⟩,
   ⟨some 49, .pick, [.t 46, .t 48, .bool false], none, []⟩,
   ⟨some 50, .mv, [.t 49], none, []⟩,
   ⟨some 51, .mv, [.t 9], some (10, 50, true), []⟩,
   ⟨some 52, .bin .eql, [.t 51, .int .i64 0], some (10, 50, true), []⟩,
   ⟨some 53, .pick, [.t 50, .t 52, .bool false], none, []⟩,
   ⟨some 54, .mv, [.t 53], none, []⟩,
   ⟨some 55, .mv, [.t 11], some (14, 54, true), []⟩,
   ⟨some 56, .bin .eql, [.t 55, .int .i64 0], some (14, 54, true), []⟩,
   ⟨some 57, .pick, [.t 54, .t 56, .bool false], none, []⟩,
   ⟨some 58, .mv, [.t 57], none, []⟩,
   ⟨some 59, .mv, [.t 2], some (18, 58, true), []⟩,
   ⟨some 60, .build (.st (.cons (.int .i64) (.int .i64))) [(0, (.int .i64)), (1, (.int .i64))], [.int .i64 0, .int .i64 (-1)], some (18, 58, true), []⟩,
   ⟨some 61, .build (.st (.cons (.int .i64) (.int .i64))) [(0, (.int .i64)), (1, (.int .i64))], [.int .i64 10, .int .i64 0], some (18, 58, true), []⟩,
   ⟨some 62, .build (.st (.cons (.int .i64) (.int .i64))) [(0, (.int .i64)), (1, (.int .i64))], [.int .i64 20, .int .i64 1], some (18, 58, true), []⟩,
   ⟨some 63, .bslice 43 (.st (.cons (.int .i64) (.int .i64))) 3 [0, 1, 2], [.t 60, .t 61, .t 62], some (18, 58, true), []⟩,
   ⟨some 64, .call 24, [.t 59, .t 63], some (18, 58, true), []⟩,
   ⟨some 65, .pick, [.t 58, .t 64, .bool false], none, []⟩,
   ⟨some 66, .mv, [.t 65], none, []⟩,
   ⟨some 67, .mv, [.t 4], some (26, 66, true), []⟩,
   ⟨some 68, .build (.st (.cons (.int .i64) (.int .i64))) [(0, (.int .i64)), (1, (.int .i64))], [.int .i64 50, .int .i64 (-1)], some (26, 66, true), []⟩,
   ⟨some 69, .build (.st (.cons (.int .i64) (.int .i64))) [(0, (.int .i64)), (1, (.int .i64))], [.int .i64 65, .int .i64 0], some (26, 66, true), []⟩,
   ⟨some 70, .build (.st (.cons (.int .i64) (.int .i64))) [(0, (.int .i64)), (1, (.int .i64))], [.int .i64 75, .int .i64 1], some (26, 66, true), []⟩,
   ⟨some 71, .bslice 43 (.st (.cons (.int .i64) (.int .i64))) 3 [0, 1, 2], [.t 68, .t 69, .t 70], some (26, 66, true), []⟩,
   ⟨some 72, .call 24, [.t 67, .t 71], some (26, 66, true), []⟩,
   ⟨some 73, .pick, [.t 66, .t 72, .bool false], none, []⟩,
   ⟨some 12, .mv, [.t 73], none, []⟩])
 (.clean (.seq (.reg false [
   ⟨some 74, .mv, [.t 6], none, []⟩,
   ⟨some 75, .build (.st (.cons (.int .i64) (.int .i64))) [(0, (.int .i64)), (1, (.int .i64))], [.int .i64 (-1), .int .i64 (-1)], none, []⟩,
   ⟨some 76, .build (.st (.cons (.int .i64) (.int .i64))) [(0, (.int .i64)), (1, (.int .i64))], [.int .i64 (-1), .int .i64 (-1)], none, []⟩,
   ⟨some 77, .build (.st (.cons (.int .i64) (.int .i64))) [(0, (.int .i64)), (1, (.int .i64))], [.int .i64 0, .int .i64 (-1)], none, []⟩,
   ⟨some 78, .bslice 43 (.st (.cons (.int .i64) (.int .i64))) 3 [0, 1, 2], [.t 75, .t 76, .t 77], none, []⟩,
   ⟨some 79, .call 24, [.t 74, .t 78], none, []⟩,
   ⟨some 80, .mv, [.t 79], none, []⟩,
   ⟨some 81, .mv, [.t 8], some (6, 80, true), []⟩,
   ⟨some 82, .build (.st (.cons (.int .i64) (.int .i64))) [(0, (.int .i64)), (1, (.int .i64))], [.int .i64 60, .int .i64 0], some (6, 80, true), []⟩,
   ⟨some 83, .build (.st (.cons (.int .i64) (.int .i64))) [(0, (.int .i64)), (1, (.int .i64))], [.int .i64 65, .int .i64 1], some (6, 80, true), []⟩,
   ⟨some 84, .build (.st (.cons (.int .i64) (.int .i64))) [(0, (.int .i64)), (1, (.int .i64))], [.int .i64 75, .int .i64 (-1)], some (6, 80, true), []⟩,
   ⟨some 85, .bslice 43 (.st (.cons (.int .i64) (.int .i64))) 3 [0, 1, 2], [.t 82, .t 83, .t 84], some (6, 80, true), []⟩,
   ⟨some 86, .call 24, [.t 81, .t 85], some (6, 80, true), []⟩,
   ⟨some 87, .pick, [.t 80, .t 86, .bool false], none, []⟩,
   ⟨some 88, .mv, [.t 87], none, []⟩,
   ⟨some 89, .mv, [.t 10], some (14, 88, true), []⟩,
   ⟨some 90, .build (.st (.cons (.int .i64) (.int .i64))) [(0, (.int .i64)), (1, (.int .i64))], [.int .i64 (-1), .int .i64 (-1)], some (14, 88, true), []⟩,
   ⟨some 91, .build (.st (.cons (.int .i64) (.int .i64))) [(0, (.int .i64)), (1, (.int .i64))], [.int .i64 19, .int .i64 1], some (14, 88, true), []⟩,
   ⟨some 92, .build (.st (.cons (.int .i64) (.int .i64))) [(0, (.int .i64)), (1, (.int .i64))], [.int .i64 29, .int .i64 (-1)], some (14, 88, true), []⟩,
   ⟨some 93, .bslice 43 (.st (.cons (.int .i64) (.int .i64))) 3 [0, 1, 2], [.t 90, .t 91, .t 92], some (14, 88, true), []⟩,
   ⟨some 94, .call 24, [.t 89, .t 93], some (14, 88, true), []⟩,
   ⟨some 95, .pick, [.t 88, .t 94, .bool false], none, []⟩,
   ⟨some 13, .mv, [.t 95], none, []⟩])
 (.clean (.seq (.reg false [
   ⟨some 96, .mv, [.t 12], none, []⟩,
   ⟨some 97, .mv, [.t 96], none, []⟩,
   ⟨some 98, .mv, [.t 13], some (1, 97, true), []⟩,
   ⟨some 99, .pick, [.t 97, .t 98, .bool false], none, []⟩,
   ⟨some 100, .mv, [.t 99], none, []⟩,
   ⟨some 101, .mv, [.t 2], some (4, 100, true), []⟩,
   ⟨some 102, .mv, [.t 1], some (4, 100, true), []⟩,
   ⟨some 103, .call 28, [.t 101, .t 102, .int .i64 2], some (4, 100, true), []⟩,
   ⟨some 104, .bslice 3 (.int .i64) 2 [0, 1], [.int .i64 0, .int .i64 1], some (4, 100, true), []⟩,
   ⟨some 105, .call 27, [.t 103, .t 104], some (4, 100, true), []⟩,
   ⟨some 106, .pick, [.t 100, .t 105, .bool false], none, []⟩,
   ⟨some 107, .mv, [.t 106], none, []⟩,
   ⟨some 108, .mv, [.t 1], some (11, 107, true), []⟩,
   ⟨some 109, .call 25, [.int .i64 3, .t 108], some (11, 107, true), []⟩,
   ⟨some 110, .pick, [.t 107, .t 109, .bool false], none, []⟩,
   ⟨some 111, .mv, [.t 110], none, []⟩,
   ⟨some 112, .mv, [.t 1], some (15, 111, true), []⟩,
   ⟨some 113, .call 25, [.int .i64 2, .t 112], some (15, 111, true), []⟩,
   ⟨some 114, .not, [.t 113], some (15, 111, true), []⟩,
   ⟨some 115, .pick, [.t 111, .t 114, .bool false], none, []⟩,
   ⟨some 0, .mv, [.t 115], none, []⟩])
 .ret)))))))))))))))))⟩
/- 0= 1=l 2=a 3=e 4=b 5=f 6=c 7=g 8=d 9=h 10=x 11=i 12=one 13=two -/
/-! tonneau/tonneauref11.Few -/
def x19_0 : XC := (.seq (.seq (.reg false [
   ⟨some 6, .mv, [.t 5], none, []⟩,
   ⟨some 7, .mv, [.t 1], none, []⟩,
   ⟨some 8, .len false, [.t 7], none, []⟩,
   ⟨some 9, .bin .lss, [.t 6, .t 8], none, []⟩,
   ⟨some 10, .mv, [.t 9], none, []⟩,
   ⟨some 11, .mv, [.t 5], some (4, 10, true), []⟩,
   ⟨some 12, .bin .leq, [.t 11, .int .i64 30], some (4, 10, true), []⟩,
   ⟨some 13, .pick, [.t 10, .t 12, .bool false], none, []⟩])
 (.cond (.t 13)
  .skip
  (.exit 0)))
 (.clean (.seq (.block 1 (.seq (.reg false [
    ⟨some 16, .mv, [.t 1], none, []⟩,
    ⟨some 17, .mv, [.t 5], none, []⟩,
    ⟨some 18, .iaddr (.st (.cons (.int .i64) (.cons (.int .i64) (.cons (.sl (.int .i64)) (.sl (.int .i64)))))), [.t 16, .t 17], none, []⟩,
    ⟨some 19, .faddr 2 (.sl (.int .i64)), [.t 18], none, []⟩,
    ⟨some 20, .load (.sl (.int .i64)), [.t 19], none, []⟩,
    ⟨some 21, .len false, [.t 20], none, []⟩,
    ⟨some 22, .bin .gtr, [.t 21, .int .i64 30], none, []⟩,
    ⟨some 23, .mv, [.t 22], none, []⟩,
    ⟨some 24, .mv, [.t 1], some (7, 23, false), []⟩,
    ⟨some 25, .mv, [.t 5], some (7, 23, false), []⟩,
    ⟨some 26, .iaddr (.st (.cons (.int .i64) (.cons (.int .i64) (.cons (.sl (.int .i64)) (.sl (.int .i64)))))), [.t 24, .t 25], some (7, 23, false), []⟩,
    ⟨some 27, .faddr 3 (.sl (.int .i64)), [.t 26], some (7, 23, false), []⟩,
    ⟨some 28, .load (.sl (.int .i64)), [.t 27], some (7, 23, false), []⟩,
    ⟨some 29, .len false, [.t 28], some (7, 23, false), []⟩,
    ⟨some 30, .bin .gtr, [.t 29, .int .i64 30], some (7, 23, false), []⟩,
    ⟨some 31, .pick, [.t 23, .bool true, .t 30], none, []⟩])
  (.cond (.t 31)
   (.seq (.reg false [
     ⟨some 4, .mv, [.bool false], none, []⟩])
   .ret)
   .skip)))
 (.clean (.reg false [
   ⟨some 14, .mv, [.t 5], none, []⟩,
   ⟨some 15, .bin .add, [.t 14, .int .i64 1], none, []⟩,
   ⟨some 5, .mv, [.t 15], none, []⟩])))))
def x19_0d : List Nat := [4, 5]
def x19 : XF := ⟨43, [.tmp 4], [0, 1, 4, 5],
 (.seq (.reg false [
   ⟨some 4, .mv, [.bool false], none, []⟩])
 (.seq (.seq (.reg false [
   ⟨some 5, .mv, [.int .i64 0], none, []⟩])
 (.block 0 (.loop x19_0)))
 (.clean (.seq (.reg false [
   ⟨some 32, .mv, [.t 1], none, []⟩,
   ⟨some 33, .len false, [.t 32], none, []⟩,
   ⟨some 34, .bin .leq, [.t 33, .int .i64 30], none, []⟩,
   ⟨some 35, .mv, [.t 34], none, []⟩,
   ⟨some 36, .mv, [.t 0], some (3, 35, true), []⟩,
   ⟨some 37, .bin .leq, [.t 36, .int .i64 12], some (3, 35, true), []⟩,
   ⟨some 38, .mv, [.t 37], some (3, 35, true), []⟩,
   ⟨some 39, .mv, [.t 0], some (6, 38, false), []⟩,
   ⟨some 40, .bin .gtr, [.t 39, .int .i64 2000], some (6, 38, false), []⟩,
   ⟨some 41, .pick, [.t 38, .bool true, .t 40], some (3, 35, true), []⟩,
   ⟨some 42, .pick, [.t 35, .t 41, .bool false], none, []⟩,
   ⟨some 4, .mv, [.t 42], none, []⟩])
 .ret))))⟩
/- 0=n 1=arcs 4= 5=i -/
/-! tonneau/road.Early -/
def x20_0 : XC := (.seq (.reg false [
   ⟨some 42, .bin .lss, [.t 41, .t 40], none, []⟩])
 (.seq (.cond (.t 42)
  .skip
  (.exit 0))
 (.seq (.block 1 (.seq (.reg false [
    ⟨some 43, .mv, [.t 41], none, []⟩,
    ⟨some 44, .iaddr (.st (.cons (.int .i64) (.cons (.int .i64) (.cons (.sl (.int .i64)) (.sl (.int .i64)))))), [.t 39, .t 41], none, []⟩,
    ⟨some 45, .load (.st (.cons (.int .i64) (.cons (.int .i64) (.cons (.sl (.int .i64)) (.sl (.int .i64)))))), [.t 44], none, []⟩,
    ⟨some 14, .alloc 45 (.st (.cons (.int .i64) (.cons (.int .i64) (.cons (.sl (.int .i64)) (.sl (.int .i64)))))), [], none, []⟩,
    ⟨some 13, .mv, [.t 43], none, []⟩,
    ⟨none, .store (.st (.cons (.int .i64) (.cons (.int .i64) (.cons (.sl (.int .i64)) (.sl (.int .i64)))))), [.t 14, .t 45], none, []⟩])
  (.reg true [
    ⟨some 46, .load (.sl (.sl (.int .i64))), [.t 12], none, []⟩,
    ⟨some 47, .faddr 0 (.int .i64), [.t 14], none, []⟩,
    ⟨some 48, .load (.int .i64), [.t 47], none, [1]⟩,
    ⟨some 49, .load (.sl (.sl (.int .i64))), [.t 12], none, []⟩,
    ⟨some 50, .faddr 0 (.int .i64), [.t 14], none, []⟩,
    ⟨some 51, .load (.int .i64), [.t 50], none, [4]⟩,
    ⟨some 52, .iaddr (.sl (.int .i64)), [.t 49, .t 51], none, [3, 5, 4]⟩,
    ⟨some 53, .load (.sl (.int .i64)), [.t 52], none, [6, 3, 5, 4]⟩,
    ⟨some 54, .mv, [.t 13], none, []⟩,
    ⟨some 55, .bslice 3 (.int .i64) 1 [0], [.t 54], none, [8]⟩,
    ⟨some 56, .append 3 (.int .i64) 8, [.t 53, .t 55], none, [7, 6, 3, 5, 4, 9, 8]⟩,
    ⟨some 57, .iaddr (.sl (.int .i64)), [.t 46, .t 48], none, [0, 2, 1, 3, 4, 5, 6, 7, 8, 9, 10]⟩,
    ⟨none, .store (.sl (.int .i64)), [.t 57, .t 56], none, [11, 0, 2, 1, 3, 4, 5, 6, 7, 8, 9, 10]⟩])))
 (.reg false [
   ⟨some 58, .bin .add, [.t 41, .int .i64 1], none, []⟩,
   ⟨some 41, .mv, [.t 58], none, []⟩]))))
def x20_0d : List Nat := [13, 14, 41]
def x20_1 : XC := (.seq (.reg false [
   ⟨some 72, .bin .lss, [.t 71, .t 70], none, []⟩])
 (.seq (.cond (.t 72)
  .skip
  (.exit 4))
 (.seq (.block 5 (.seq (.reg false [
    ⟨some 73, .iaddr (.int .i64), [.t 69, .t 71], none, []⟩,
    ⟨some 74, .load (.int .i64), [.t 73], none, []⟩,
    ⟨some 18, .mv, [.t 74], none, []⟩])
  (.icall true [
    ⟨some 75, .load (.ptr (.st (.cons (.sl (.st (.cons (.int .i64) (.int .i64)))) (.cons (.sl .bool) .bool)))), [.t 15], none, []⟩,
    ⟨some 76, .load (.sl (.st (.cons (.int .i64) (.cons (.int .i64) (.cons (.sl (.int .i64)) (.sl (.int .i64))))))), [.t 6], none, []⟩,
    ⟨some 77, .mv, [.t 18], none, []⟩,
    ⟨some 78, .iaddr (.st (.cons (.int .i64) (.cons (.int .i64) (.cons (.sl (.int .i64)) (.sl (.int .i64)))))), [.t 76, .t 77], none, [1, 2]⟩,
    ⟨some 79, .faddr 1 (.int .i64), [.t 78], none, [3, 1, 2]⟩,
    ⟨some 80, .load (.int .i64), [.t 79], none, [4, 3, 1, 2]⟩,
    ⟨some 81, .load (.sl (.st (.cons (.int .i64) (.cons (.int .i64) (.cons (.sl (.int .i64)) (.sl (.int .i64))))))), [.t 6], none, []⟩,
    ⟨some 82, .mv, [.t 18], none, []⟩,
    ⟨some 83, .iaddr (.st (.cons (.int .i64) (.cons (.int .i64) (.cons (.sl (.int .i64)) (.sl (.int .i64)))))), [.t 81, .t 82], none, [6, 7]⟩,
    ⟨some 84, .load (.st (.cons (.int .i64) (.cons (.int .i64) (.cons (.sl (.int .i64)) (.sl (.int .i64)))))), [.t 83], none, [8, 6, 7]⟩,
    ⟨some 85, .load (.ptr (.st (.cons (.sl (.st (.cons (.int .i64) (.int .i64)))) (.cons (.sl .bool) .bool)))), [.t 15], none, []⟩,
    ⟨some 86, .nilck, [.t 85], none, [10]⟩,
    ⟨some 87, .faddr 0 (.sl (.st (.cons (.int .i64) (.int .i64)))), [.t 86], none, [11, 10]⟩,
    ⟨some 88, .load (.sl (.st (.cons (.int .i64) (.int .i64)))), [.t 87], none, [12, 11, 10]⟩,
    ⟨some 89, .mv, [.t 16], none, []⟩,
    ⟨some 90, .iaddr (.st (.cons (.int .i64) (.int .i64))), [.t 88, .t 89], none, [13, 12, 11, 10, 14]⟩,
    ⟨some 91, .faddr 0 (.int .i64), [.t 90], none, [15, 13, 12, 11, 10, 14]⟩,
    ⟨some 92, .load (.int .i64), [.t 91], none, [16, 15, 13, 12, 11, 10, 14]⟩,
    ⟨some 93, .load .bool, [.t 9], none, []⟩,
    ⟨some 94, .call 31, [.t 84, .t 92, .t 93], none, [9, 8, 6, 7, 17, 16, 15, 13, 12, 11, 10, 14, 18]⟩,
    ⟨some 95, .mv, [.t 18], none, []⟩] ⟨some 96, .callv, [.fn 49, .t 75, .t 80, .t 94, .t 95], none, [0, 5, 4, 3, 1, 2, 19, 9, 8, 6, 7, 17, 16, 15, 13, 12, 11, 10, 14, 18, 20]⟩ [] 49 x49.n x49.res x49.kv x49.code)))
 (.reg false [
   ⟨some 97, .bin .add, [.t 71, .int .i64 1], none, []⟩,
   ⟨some 71, .mv, [.t 97], none, []⟩]))))
def x20_1d : List Nat := [18, 71]
def x20_A : XC := (.reg false [
   ⟨some 16, .mv, [.t 65], none, []⟩])
def x20_B : XC := (.block 3 (.seq (.reg false [
    ⟨some 66, .load (.sl (.sl (.int .i64))), [.t 12], none, []⟩,
    ⟨some 67, .mv, [.t 16], none, []⟩,
    ⟨some 68, .iaddr (.sl (.int .i64)), [.t 66, .t 67], none, []⟩,
    ⟨some 69, .load (.sl (.int .i64)), [.t 68], none, []⟩,
    ⟨some 70, .len false, [.t 69], none, []⟩,
    ⟨some 71, .mv, [.int .i64 0], none, []⟩])
  (.clean (.block 4 (.loop x20_1)))))
def x20 : XF := ⟨102, [.tmp 10, .tmp 11], [0, 1, 2, 3, 4, 6, 9, 10, 11, 12, 13, 14, 15, 16, 18, 39, 40, 41, 64, 69, 70, 71],
 (.seq (.reg false [
   ⟨some 6, .box 22, [.t 1], none, []⟩,
   ⟨some 9, .box 4, [.t 4], none, []⟩,
   ⟨some 10, .nilrow 43 (.st (.cons (.int .i64) (.int .i64))), [], none, []⟩,
   ⟨some 11, .mv, [.int .i64 0], none, []⟩])
 (.seq (.seq (.reg false [
   ⟨some 19, .mv, [.t 0], none, []⟩,
   ⟨some 20, .load (.sl (.st (.cons (.int .i64) (.cons (.int .i64) (.cons (.sl (.int .i64)) (.sl (.int .i64))))))), [.t 6], none, []⟩,
   ⟨some 21, .call 25, [.t 19, .t 20], none, []⟩,
   ⟨some 22, .not, [.t 21], none, []⟩,
   ⟨some 23, .mv, [.t 22], none, []⟩,
   ⟨some 24, .mv, [.t 2], some (4, 23, false), []⟩,
   ⟨some 25, .bin .lss, [.t 24, .int .i64 0], some (4, 23, false), []⟩,
   ⟨some 26, .pick, [.t 23, .bool true, .t 25], none, []⟩,
   ⟨some 27, .mv, [.t 26], none, []⟩,
   ⟨some 28, .mv, [.t 2], some (8, 27, false), []⟩,
   ⟨some 29, .mv, [.t 0], some (8, 27, false), []⟩,
   ⟨some 30, .bin .geq, [.t 28, .t 29], some (8, 27, false), []⟩,
   ⟨some 31, .pick, [.t 27, .bool true, .t 30], none, []⟩,
   ⟨some 32, .mv, [.t 31], none, []⟩,
   ⟨some 33, .mv, [.t 3], some (13, 32, false), []⟩,
   ⟨some 34, .call 46, [.t 33], some (13, 32, false), []⟩,
   ⟨some 35, .not, [.t 34], some (13, 32, false), []⟩,
   ⟨some 36, .pick, [.t 32, .bool true, .t 35], none, []⟩])
 (.cond (.t 36)
  (.seq (.reg false [
    ⟨some 10, .nilrow 43 (.st (.cons (.int .i64) (.int .i64))), [], none, []⟩,
    ⟨some 11, .mv, [.int .i64 1], none, []⟩])
  .ret)
  .skip))
 (.clean (.seq (.reg false [
   ⟨some 37, .mv, [.t 0], none, []⟩,
   ⟨some 38, .mkarr 24 24, [.t 37, .t 37], none, []⟩,
   ⟨some 12, .alloc 63 (.sl (.sl (.int .i64))), [], none, []⟩,
   ⟨none, .store (.sl (.sl (.int .i64))), [.t 12, .t 38], none, []⟩])
 (.seq (.seq (.reg false [
   ⟨some 39, .load (.sl (.st (.cons (.int .i64) (.cons (.int .i64) (.cons (.sl (.int .i64)) (.sl (.int .i64))))))), [.t 6], none, []⟩,
   ⟨some 40, .len false, [.t 39], none, []⟩,
   ⟨some 41, .mv, [.int .i64 0], none, []⟩])
 (.block 0 (.top (.loop x20_0))))
 (.clean (.seq (.icall false [
   ⟨some 59, .mv, [.t 0], none, []⟩,
   ⟨some 60, .mv, [.t 2], none, []⟩,
   ⟨some 61, .mv, [.t 3], none, []⟩] ⟨some 62, .callv, [.fn 47, .t 59, .t 60, .t 61, .bool false], none, []⟩ [
   ⟨some 15, .allocz 64 false, [], none, []⟩,
   ⟨none, .store (.ptr (.st (.cons (.sl (.st (.cons (.int .i64) (.int .i64)))) (.cons (.sl .bool) .bool)))), [.t 15, .t 62], none, []⟩] 47 x47.n x47.res x47.kv x47.code)
 (.seq (.seq (.reg false [
   ⟨some 63, .load (.ptr (.st (.cons (.sl (.st (.cons (.int .i64) (.int .i64)))) (.cons (.sl .bool) .bool)))), [.t 15], none, []⟩,
   ⟨some 64, .mkbnd 48, [.t 63], none, []⟩])
 (.block 2 (.rfor (.t 64) 65 x20_A x20_B 48 62 [0, 1, 4, 5, 6, 10, 11, 12] (y48 102 65 [0, 1, 2, 3, 4, 6, 9, 10, 11, 12, 13, 14, 15, 16, 18, 39, 40, 41, 64, 69, 70, 71] x20_A x20_B))))
 (.clean (.seq (.reg false [
   ⟨some 98, .load (.ptr (.st (.cons (.sl (.st (.cons (.int .i64) (.int .i64)))) (.cons (.sl .bool) .bool)))), [.t 15], none, []⟩,
   ⟨some 99, .nilck, [.t 98], none, []⟩,
   ⟨some 100, .faddr 0 (.sl (.st (.cons (.int .i64) (.int .i64)))), [.t 99], none, []⟩,
   ⟨some 101, .load (.sl (.st (.cons (.int .i64) (.int .i64)))), [.t 100], none, []⟩,
   ⟨some 10, .mv, [.t 101], none, []⟩,
   ⟨some 11, .mv, [.int .i64 0], none, []⟩])
 .ret))))))))))⟩
/- 0=n 1=arcs 2=from 3=start 4=high 6=arcs 9=high 10= 11= 12=out 13=i 14=a 15=s 16=u 18=i 39= 40= 41= 64= 69= 70= 71= -/
/-! tonneau/tonneauref11.Early -/
def x21_1 : XC := (.seq (.seq (.reg false [
   ⟨some 46, .mv, [.t 15], none, []⟩,
   ⟨some 47, .mv, [.t 0], none, []⟩,
   ⟨some 48, .bin .lss, [.t 46, .t 47], none, []⟩])
 (.cond (.t 48)
  .skip
  (.exit 2)))
 (.seq (.block 3 (.seq (.reg true [
    ⟨some 51, .mv, [.t 13], none, []⟩,
    ⟨some 52, .mv, [.t 15], none, []⟩,
    ⟨some 53, .iaddr .bool, [.t 51, .t 52], none, [0, 1]⟩,
    ⟨some 54, .load .bool, [.t 53], none, [2, 0, 1]⟩,
    ⟨some 55, .not, [.t 54], none, [3, 2, 0, 1]⟩,
    ⟨some 56, .mv, [.t 55], none, [4, 3, 2, 0, 1]⟩,
    ⟨some 57, .mv, [.t 12], some (5, 56, true), [5, 4, 3, 2, 0, 1]⟩,
    ⟨some 58, .mv, [.t 15], some (5, 56, true), [5, 4, 3, 2, 0, 1]⟩,
    ⟨some 59, .iaddr (.st (.cons (.int .i64) (.int .i64))), [.t 57, .t 58], some (5, 56, true), [6, 5, 4, 3, 2, 0, 1, 7]⟩,
    ⟨some 60, .faddr 0 (.int .i64), [.t 59], some (5, 56, true), [8, 6, 5, 4, 3, 2, 0, 1, 7]⟩,
    ⟨some 61, .load (.int .i64), [.t 60], some (5, 56, true), [9, 8, 6, 5, 4, 3, 2, 0, 1, 7]⟩,
    ⟨some 62, .bin .geq, [.t 61, .int .i64 0], some (5, 56, true), [10, 9, 8, 6, 5, 4, 3, 2, 0, 1, 7]⟩,
    ⟨some 63, .pick, [.t 56, .t 62, .bool false], none, [5, 4, 3, 2, 0, 1, 11, 10, 9, 8, 6, 7]⟩,
    ⟨some 64, .mv, [.t 63], none, [12, 5, 4, 3, 2, 0, 1, 11, 10, 9, 8, 6, 7]⟩,
    ⟨some 65, .mv, [.t 14], some (13, 64, true), [13, 12, 5, 4, 3, 2, 0, 1, 11, 10, 9, 8, 6, 7]⟩,
    ⟨some 66, .bin .lss, [.t 65, .int .i64 0], some (13, 64, true), [14, 13, 12, 5, 4, 3, 2, 0, 1, 11, 10, 9, 8, 6, 7]⟩,
    ⟨some 67, .mv, [.t 66], some (13, 64, true), [15, 14, 13, 12, 5, 4, 3, 2, 0, 1, 11, 10, 9, 8, 6, 7]⟩,
    ⟨some 68, .mv, [.t 12], some (16, 67, false), [16, 15, 14, 13, 12, 5, 4, 3, 2, 0, 1, 11, 10, 9, 8, 6, 7]⟩,
    ⟨some 69, .mv, [.t 15], some (16, 67, false), [16, 15, 14, 13, 12, 5, 4, 3, 2, 0, 1, 11, 10, 9, 8, 6, 7]⟩,
    ⟨some 70, .iaddr (.st (.cons (.int .i64) (.int .i64))), [.t 68, .t 69], some (16, 67, false), [17, 16, 15, 14, 13, 12, 5, 4, 3, 2, 0, 1, 11, 10, 9, 8, 6, 7, 18]⟩,
    ⟨some 71, .faddr 0 (.int .i64), [.t 70], some (16, 67, false), [19, 17, 16, 15, 14, 13, 12, 5, 4, 3, 2, 0, 1, 11, 10, 9, 8, 6, 7, 18]⟩,
    ⟨some 72, .load (.int .i64), [.t 71], some (16, 67, false), [20, 19, 17, 16, 15, 14, 13, 12, 5, 4, 3, 2, 0, 1, 11, 10, 9, 8, 6, 7, 18]⟩,
    ⟨some 73, .mv, [.t 12], some (16, 67, false), [16, 15, 14, 13, 12, 5, 4, 3, 2, 0, 1, 11, 10, 9, 8, 6, 7]⟩,
    ⟨some 74, .mv, [.t 14], some (16, 67, false), [16, 15, 14, 13, 12, 5, 4, 3, 2, 0, 1, 11, 10, 9, 8, 6, 7]⟩,
    ⟨some 75, .max, [.t 74, .int .i64 0], some (16, 67, false), [23, 16, 15, 14, 13, 12, 5, 4, 3, 2, 0, 1, 11, 10, 9, 8, 6, 7]⟩,
    ⟨some 76, .iaddr (.st (.cons (.int .i64) (.int .i64))), [.t 73, .t 75], some (16, 67, false), [22, 16, 15, 14, 13, 12, 5, 4, 3, 2, 0, 1, 11, 10, 9, 8, 6, 7, 24, 23]⟩,
    ⟨some 77, .faddr 0 (.int .i64), [.t 76], some (16, 67, false), [25, 22, 16, 15, 14, 13, 12, 5, 4, 3, 2, 0, 1, 11, 10, 9, 8, 6, 7, 24, 23]⟩,
    ⟨some 78, .load (.int .i64), [.t 77], some (16, 67, false), [26, 25, 22, 16, 15, 14, 13, 12, 5, 4, 3, 2, 0, 1, 11, 10, 9, 8, 6, 7, 24, 23]⟩,
    ⟨some 79, .bin .lss, [.t 72, .t 78], some (16, 67, false), [21, 20, 19, 17, 16, 15, 14, 13, 12, 5, 4, 3, 2, 0, 1, 11, 10, 9, 8, 6, 7, 18, 27, 26, 25, 22, 24, 23]⟩,
    ⟨some 80, .pick, [.t 67, .bool true, .t 79], some (13, 64, true), [16, 15, 14, 13, 12, 5, 4, 3, 2, 0, 1, 11, 10, 9, 8, 6, 7, 28, 21, 20, 19, 17, 18, 27, 26, 25, 22, 24, 23]⟩,
    ⟨some 81, .pick, [.t 64, .t 80, .bool false], none, [13, 12, 5, 4, 3, 2, 0, 1, 11, 10, 9, 8, 6, 7, 29, 16, 15, 14, 28, 21, 20, 19, 17, 18, 27, 26, 25, 22, 24, 23]⟩])
  (.cond (.t 81)
   (.reg false [
     ⟨some 82, .mv, [.t 15], none, []⟩,
     ⟨some 14, .mv, [.t 82], none, []⟩])
   .skip)))
 (.clean (.reg false [
   ⟨some 49, .mv, [.t 15], none, []⟩,
   ⟨some 50, .bin .add, [.t 49, .int .i64 1], none, []⟩,
   ⟨some 15, .mv, [.t 50], none, []⟩]))))
def x21_1d : List Nat := [14, 15]
def x21_2 : XC := (.seq (.seq (.reg false [
   ⟨some 89, .mv, [.t 16], none, []⟩,
   ⟨some 90, .mv, [.t 1], none, []⟩,
   ⟨some 91, .len false, [.t 90], none, []⟩,
   ⟨some 92, .bin .lss, [.t 89, .t 91], none, []⟩])
 (.cond (.t 92)
  .skip
  (.exit 4)))
 (.seq (.block 5 (.seq (.reg false [
    ⟨some 95, .mv, [.t 1], none, []⟩,
    ⟨some 96, .mv, [.t 16], none, []⟩,
    ⟨some 97, .iaddr (.st (.cons (.int .i64) (.cons (.int .i64) (.cons (.sl (.int .i64)) (.sl (.int .i64)))))), [.t 95, .t 96], none, []⟩,
    ⟨some 98, .faddr 1 (.int .i64), [.t 97], none, []⟩,
    ⟨some 99, .load (.int .i64), [.t 98], none, []⟩,
    ⟨some 17, .mv, [.t 99], none, []⟩])
  (.clean (.seq (.seq (.reg false [
    ⟨some 100, .mv, [.t 1], none, []⟩,
    ⟨some 101, .mv, [.t 16], none, []⟩,
    ⟨some 102, .iaddr (.st (.cons (.int .i64) (.cons (.int .i64) (.cons (.sl (.int .i64)) (.sl (.int .i64)))))), [.t 100, .t 101], none, []⟩,
    ⟨some 103, .faddr 0 (.int .i64), [.t 102], none, []⟩,
    ⟨some 104, .load (.int .i64), [.t 103], none, []⟩,
    ⟨some 105, .mv, [.t 14], none, []⟩,
    ⟨some 106, .bin .neq, [.t 104, .t 105], none, []⟩,
    ⟨some 107, .mv, [.t 106], none, []⟩,
    ⟨some 108, .mv, [.t 13], some (7, 107, false), []⟩,
    ⟨some 109, .mv, [.t 17], some (7, 107, false), []⟩,
    ⟨some 110, .iaddr .bool, [.t 108, .t 109], some (7, 107, false), []⟩,
    ⟨some 111, .load .bool, [.t 110], some (7, 107, false), []⟩,
    ⟨some 112, .pick, [.t 107, .bool true, .t 111], none, []⟩])
  (.cond (.t 112)
   (.exit 5)
   .skip))
  (.clean (.seq (.reg true [
    ⟨some 113, .mv, [.t 1], none, []⟩,
    ⟨some 114, .mv, [.t 16], none, []⟩,
    ⟨some 115, .iaddr (.st (.cons (.int .i64) (.cons (.int .i64) (.cons (.sl (.int .i64)) (.sl (.int .i64)))))), [.t 113, .t 114], none, [0, 1]⟩,
    ⟨some 116, .load (.st (.cons (.int .i64) (.cons (.int .i64) (.cons (.sl (.int .i64)) (.sl (.int .i64)))))), [.t 115], none, [2, 0, 1]⟩,
    ⟨some 117, .mv, [.t 12], none, []⟩,
    ⟨some 118, .mv, [.t 14], none, []⟩,
    ⟨some 119, .iaddr (.st (.cons (.int .i64) (.int .i64))), [.t 117, .t 118], none, [4, 5]⟩,
    ⟨some 120, .faddr 0 (.int .i64), [.t 119], none, [6, 4, 5]⟩,
    ⟨some 121, .load (.int .i64), [.t 120], none, [7, 6, 4, 5]⟩,
    ⟨some 122, .mv, [.t 4], none, []⟩,
    ⟨some 123, .call 41, [.t 116, .t 121, .t 122], none, [3, 2, 0, 1, 8, 7, 6, 4, 5, 9]⟩,
    ⟨some 18, .mv, [.t 123], none, [10, 3, 2, 0, 1, 8, 7, 6, 4, 5, 9]⟩])
  (.clean (.seq (.reg false [
    ⟨some 124, .mv, [.t 18], none, []⟩,
    ⟨some 125, .call 30, [.t 124], none, []⟩,
    ⟨some 126, .mv, [.t 125], none, []⟩,
    ⟨some 127, .mv, [.t 12], some (2, 126, true), []⟩,
    ⟨some 128, .mv, [.t 17], some (2, 126, true), []⟩,
    ⟨some 129, .iaddr (.st (.cons (.int .i64) (.int .i64))), [.t 127, .t 128], some (2, 126, true), []⟩,
    ⟨some 130, .faddr 0 (.int .i64), [.t 129], some (2, 126, true), []⟩,
    ⟨some 131, .load (.int .i64), [.t 130], some (2, 126, true), []⟩,
    ⟨some 132, .bin .lss, [.t 131, .int .i64 0], some (2, 126, true), []⟩,
    ⟨some 133, .mv, [.t 132], some (2, 126, true), []⟩,
    ⟨some 134, .mv, [.t 18], some (9, 133, false), []⟩,
    ⟨some 135, .mv, [.t 12], some (9, 133, false), []⟩,
    ⟨some 136, .mv, [.t 17], some (9, 133, false), []⟩,
    ⟨some 137, .iaddr (.st (.cons (.int .i64) (.int .i64))), [.t 135, .t 136], some (9, 133, false), []⟩,
    ⟨some 138, .faddr 0 (.int .i64), [.t 137], some (9, 133, false), []⟩,
    ⟨some 139, .load (.int .i64), [.t 138], some (9, 133, false), []⟩,
    ⟨some 140, .bin .lss, [.t 134, .t 139], some (9, 133, false), []⟩,
    ⟨some 141, .pick, [.t 133, .bool true, .t 140], some (2, 126, true), []⟩,
    ⟨some 142, .mv, [.t 141], some (2, 126, true), []⟩,
    ⟨some 143, .mv, [.t 18], some (18, 142, false), []⟩,
    ⟨some 144, .mv, [.t 12], some (18, 142, false), []⟩,
    ⟨some 145, .mv, [.t 17], some (18, 142, false), []⟩,
    ⟨some 146, .iaddr (.st (.cons (.int .i64) (.int .i64))), [.t 144, .t 145], some (18, 142, false), []⟩,
    ⟨some 147, .faddr 0 (.int .i64), [.t 146], some (18, 142, false), []⟩,
    ⟨some 148, .load (.int .i64), [.t 147], some (18, 142, false), []⟩,
    ⟨some 149, .bin .eql, [.t 143, .t 148], some (18, 142, false), []⟩,
    ⟨some 150, .mv, [.t 149], some (18, 142, false), []⟩,
    ⟨some 151, .mv, [.t 16], some (26, 150, true), []⟩,
    ⟨some 152, .mv, [.t 12], some (26, 150, true), []⟩,
    ⟨some 153, .mv, [.t 17], some (26, 150, true), []⟩,
    ⟨some 154, .iaddr (.st (.cons (.int .i64) (.int .i64))), [.t 152, .t 153], some (26, 150, true), []⟩,
    ⟨some 155, .faddr 1 (.int .i64), [.t 154], some (26, 150, true), []⟩,
    ⟨some 156, .load (.int .i64), [.t 155], some (26, 150, true), []⟩,
    ⟨some 157, .bin .lss, [.t 151, .t 156], some (26, 150, true), []⟩,
    ⟨some 158, .pick, [.t 150, .t 157, .bool false], some (18, 142, false), []⟩,
    ⟨some 159, .pick, [.t 142, .bool true, .t 158], some (2, 126, true), []⟩,
    ⟨some 160, .pick, [.t 126, .t 159, .bool false], none, []⟩])
  (.cond (.t 160)
   (.reg false [
     ⟨some 161, .mv, [.t 12], none, []⟩,
     ⟨some 162, .mv, [.t 17], none, []⟩,
     ⟨some 163, .mv, [.t 18], none, []⟩,
     ⟨some 164, .mv, [.t 16], none, []⟩,
     ⟨some 165, .build (.st (.cons (.int .i64) (.int .i64))) [(0, (.int .i64)), (1, (.int .i64))], [.t 163, .t 164], none, []⟩,
     ⟨some 166, .iaddr (.st (.cons (.int .i64) (.int .i64))), [.t 161, .t 162], none, []⟩,
     ⟨none, .store (.st (.cons (.int .i64) (.int .i64))), [.t 166, .t 165], none, []⟩])
   .skip)))))))))
 (.clean (.reg false [
   ⟨some 93, .mv, [.t 16], none, []⟩,
   ⟨some 94, .bin .add, [.t 93, .int .i64 1], none, []⟩,
   ⟨some 16, .mv, [.t 94], none, []⟩]))))
def x21_2d : List Nat := [16, 17, 18]
def x21_0 : XC := (.block 1 (.seq (.reg false [
    ⟨some 14, .mv, [.int .i64 (-1)], none, []⟩])
  (.seq (.seq (.reg false [
    ⟨some 15, .mv, [.int .i64 0], none, []⟩])
  (.block 2 (.loop x21_1)))
  (.clean (.seq (.seq (.reg false [
    ⟨some 83, .mv, [.t 14], none, []⟩,
    ⟨some 84, .bin .lss, [.t 83, .int .i64 0], none, []⟩])
  (.cond (.t 84)
   (.seq (.reg false [
     ⟨some 85, .mv, [.t 12], none, []⟩,
     ⟨some 10, .mv, [.t 85], none, []⟩,
     ⟨some 11, .mv, [.int .i64 0], none, []⟩])
   .ret)
   .skip))
  (.clean (.seq (.reg false [
    ⟨some 86, .mv, [.t 13], none, []⟩,
    ⟨some 87, .mv, [.t 14], none, []⟩,
    ⟨some 88, .iaddr .bool, [.t 86, .t 87], none, []⟩,
    ⟨none, .store .bool, [.t 88, .bool true], none, []⟩])
  (.seq (.reg false [
    ⟨some 16, .mv, [.int .i64 0], none, []⟩])
  (.block 4 (.loop x21_2))))))))))
def x21_0d : List Nat := [10, 11, 14, 15, 16, 17, 18]
def x21 : XF := ⟨167, [.tmp 10, .tmp 11], [0, 1, 2, 3, 4, 10, 11, 12, 13, 14, 15, 16, 17, 18],
 (.seq (.reg false [
   ⟨some 10, .nilrow 43 (.st (.cons (.int .i64) (.int .i64))), [], none, []⟩,
   ⟨some 11, .mv, [.int .i64 0], none, []⟩])
 (.seq (.seq (.reg false [
   ⟨some 19, .mv, [.t 0], none, []⟩,
   ⟨some 20, .mv, [.t 1], none, []⟩,
   ⟨some 21, .call 26, [.t 19, .t 20], none, []⟩,
   ⟨some 22, .not, [.t 21], none, []⟩,
   ⟨some 23, .mv, [.t 22], none, []⟩,
   ⟨some 24, .mv, [.t 2], some (4, 23, false), []⟩,
   ⟨some 25, .bin .lss, [.t 24, .int .i64 0], some (4, 23, false), []⟩,
   ⟨some 26, .pick, [.t 23, .bool true, .t 25], none, []⟩,
   ⟨some 27, .mv, [.t 26], none, []⟩,
   ⟨some 28, .mv, [.t 2], some (8, 27, false), []⟩,
   ⟨some 29, .mv, [.t 0], some (8, 27, false), []⟩,
   ⟨some 30, .bin .geq, [.t 28, .t 29], some (8, 27, false), []⟩,
   ⟨some 31, .pick, [.t 27, .bool true, .t 30], none, []⟩,
   ⟨some 32, .mv, [.t 31], none, []⟩,
   ⟨some 33, .mv, [.t 3], some (13, 32, false), []⟩,
   ⟨some 34, .call 30, [.t 33], some (13, 32, false), []⟩,
   ⟨some 35, .not, [.t 34], some (13, 32, false), []⟩,
   ⟨some 36, .pick, [.t 32, .bool true, .t 35], none, []⟩])
 (.cond (.t 36)
  (.seq (.reg false [
    ⟨some 10, .nilrow 43 (.st (.cons (.int .i64) (.int .i64))), [], none, []⟩,
    ⟨some 11, .mv, [.int .i64 1], none, []⟩])
  .ret)
  .skip))
 (.clean (.seq (.reg false [
   ⟨some 37, .mv, [.t 0], none, []⟩,
   ⟨some 38, .call 50, [.t 37], none, []⟩,
   ⟨some 12, .mv, [.t 38], none, []⟩])
 (.seq (.reg false [
   ⟨some 39, .mv, [.t 0], none, []⟩,
   ⟨some 40, .mkslice 4 .bool 1, [.t 39, .t 39], none, []⟩,
   ⟨some 13, .mv, [.t 40], none, []⟩])
 (.seq (.reg false [
   ⟨some 41, .mv, [.t 12], none, []⟩,
   ⟨some 42, .mv, [.t 2], none, []⟩,
   ⟨some 43, .mv, [.t 3], none, []⟩,
   ⟨some 44, .iaddr (.st (.cons (.int .i64) (.int .i64))), [.t 41, .t 42], none, []⟩,
   ⟨some 45, .faddr 0 (.int .i64), [.t 44], none, []⟩,
   ⟨none, .store (.int .i64), [.t 45, .t 43], none, []⟩])
 (.block 0 (.loop x21_0))))))))⟩
/- 0=n 1=arcs 2=from 3=start 4=high 10= 11= 12=out 13=done 14=u 15=i 16=i 17=v 18=t -/
/-! tonneau/road.Late -/
def x22_0 : XC := (.seq (.reg false [
   ⟨some 40, .bin .lss, [.t 39, .t 38], none, []⟩])
 (.seq (.cond (.t 40)
  .skip
  (.exit 0))
 (.seq (.block 1 (.seq (.reg false [
    ⟨some 41, .mv, [.t 39], none, []⟩,
    ⟨some 42, .iaddr (.st (.cons (.int .i64) (.cons (.int .i64) (.cons (.sl (.int .i64)) (.sl (.int .i64)))))), [.t 37, .t 39], none, []⟩,
    ⟨some 43, .load (.st (.cons (.int .i64) (.cons (.int .i64) (.cons (.sl (.int .i64)) (.sl (.int .i64)))))), [.t 42], none, []⟩,
    ⟨some 12, .alloc 45 (.st (.cons (.int .i64) (.cons (.int .i64) (.cons (.sl (.int .i64)) (.sl (.int .i64)))))), [], none, []⟩,
    ⟨some 11, .mv, [.t 41], none, []⟩,
    ⟨none, .store (.st (.cons (.int .i64) (.cons (.int .i64) (.cons (.sl (.int .i64)) (.sl (.int .i64)))))), [.t 12, .t 43], none, []⟩])
  (.reg true [
    ⟨some 44, .load (.sl (.sl (.int .i64))), [.t 10], none, []⟩,
    ⟨some 45, .faddr 1 (.int .i64), [.t 12], none, []⟩,
    ⟨some 46, .load (.int .i64), [.t 45], none, [1]⟩,
    ⟨some 47, .load (.sl (.sl (.int .i64))), [.t 10], none, []⟩,
    ⟨some 48, .faddr 1 (.int .i64), [.t 12], none, []⟩,
    ⟨some 49, .load (.int .i64), [.t 48], none, [4]⟩,
    ⟨some 50, .iaddr (.sl (.int .i64)), [.t 47, .t 49], none, [3, 5, 4]⟩,
    ⟨some 51, .load (.sl (.int .i64)), [.t 50], none, [6, 3, 5, 4]⟩,
    ⟨some 52, .mv, [.t 11], none, []⟩,
    ⟨some 53, .bslice 3 (.int .i64) 1 [0], [.t 52], none, [8]⟩,
    ⟨some 54, .append 3 (.int .i64) 8, [.t 51, .t 53], none, [7, 6, 3, 5, 4, 9, 8]⟩,
    ⟨some 55, .iaddr (.sl (.int .i64)), [.t 44, .t 46], none, [0, 2, 1, 3, 4, 5, 6, 7, 8, 9, 10]⟩,
    ⟨none, .store (.sl (.int .i64)), [.t 55, .t 54], none, [11, 0, 2, 1, 3, 4, 5, 6, 7, 8, 9, 10]⟩])))
 (.reg false [
   ⟨some 56, .bin .add, [.t 39, .int .i64 1], none, []⟩,
   ⟨some 39, .mv, [.t 56], none, []⟩]))))
def x22_0d : List Nat := [11, 12, 39]
def x22_1 : XC := (.seq (.reg false [
   ⟨some 70, .bin .lss, [.t 69, .t 68], none, []⟩])
 (.seq (.cond (.t 70)
  .skip
  (.exit 4))
 (.seq (.block 5 (.seq (.reg false [
    ⟨some 71, .iaddr (.int .i64), [.t 67, .t 69], none, []⟩,
    ⟨some 72, .load (.int .i64), [.t 71], none, []⟩,
    ⟨some 16, .mv, [.t 72], none, []⟩])
  (.icall true [
    ⟨some 73, .load (.ptr (.st (.cons (.sl (.st (.cons (.int .i64) (.int .i64)))) (.cons (.sl .bool) .bool)))), [.t 13], none, []⟩,
    ⟨some 74, .load (.sl (.st (.cons (.int .i64) (.cons (.int .i64) (.cons (.sl (.int .i64)) (.sl (.int .i64))))))), [.t 5], none, []⟩,
    ⟨some 75, .mv, [.t 16], none, []⟩,
    ⟨some 76, .iaddr (.st (.cons (.int .i64) (.cons (.int .i64) (.cons (.sl (.int .i64)) (.sl (.int .i64)))))), [.t 74, .t 75], none, [1, 2]⟩,
    ⟨some 77, .faddr 0 (.int .i64), [.t 76], none, [3, 1, 2]⟩,
    ⟨some 78, .load (.int .i64), [.t 77], none, [4, 3, 1, 2]⟩,
    ⟨some 79, .load (.sl (.st (.cons (.int .i64) (.cons (.int .i64) (.cons (.sl (.int .i64)) (.sl (.int .i64))))))), [.t 5], none, []⟩,
    ⟨some 80, .mv, [.t 16], none, []⟩,
    ⟨some 81, .iaddr (.st (.cons (.int .i64) (.cons (.int .i64) (.cons (.sl (.int .i64)) (.sl (.int .i64)))))), [.t 79, .t 80], none, [6, 7]⟩,
    ⟨some 82, .load (.st (.cons (.int .i64) (.cons (.int .i64) (.cons (.sl (.int .i64)) (.sl (.int .i64)))))), [.t 81], none, [8, 6, 7]⟩,
    ⟨some 83, .load (.ptr (.st (.cons (.sl (.st (.cons (.int .i64) (.int .i64)))) (.cons (.sl .bool) .bool)))), [.t 13], none, []⟩,
    ⟨some 84, .nilck, [.t 83], none, [10]⟩,
    ⟨some 85, .faddr 0 (.sl (.st (.cons (.int .i64) (.int .i64)))), [.t 84], none, [11, 10]⟩,
    ⟨some 86, .load (.sl (.st (.cons (.int .i64) (.int .i64)))), [.t 85], none, [12, 11, 10]⟩,
    ⟨some 87, .mv, [.t 14], none, []⟩,
    ⟨some 88, .iaddr (.st (.cons (.int .i64) (.int .i64))), [.t 86, .t 87], none, [13, 12, 11, 10, 14]⟩,
    ⟨some 89, .faddr 0 (.int .i64), [.t 88], none, [15, 13, 12, 11, 10, 14]⟩,
    ⟨some 90, .load (.int .i64), [.t 89], none, [16, 15, 13, 12, 11, 10, 14]⟩,
    ⟨some 91, .call 51, [.t 82, .t 90, .bool true], none, [9, 8, 6, 7, 17, 16, 15, 13, 12, 11, 10, 14]⟩,
    ⟨some 92, .mv, [.t 16], none, []⟩] ⟨some 93, .callv, [.fn 49, .t 73, .t 78, .t 91, .t 92], none, [0, 5, 4, 3, 1, 2, 18, 9, 8, 6, 7, 17, 16, 15, 13, 12, 11, 10, 14, 19]⟩ [] 49 x49.n x49.res x49.kv x49.code)))
 (.reg false [
   ⟨some 94, .bin .add, [.t 69, .int .i64 1], none, []⟩,
   ⟨some 69, .mv, [.t 94], none, []⟩]))))
def x22_1d : List Nat := [16, 69]
def x22_A : XC := (.reg false [
   ⟨some 14, .mv, [.t 63], none, []⟩])
def x22_B : XC := (.block 3 (.seq (.reg false [
    ⟨some 64, .load (.sl (.sl (.int .i64))), [.t 10], none, []⟩,
    ⟨some 65, .mv, [.t 14], none, []⟩,
    ⟨some 66, .iaddr (.sl (.int .i64)), [.t 64, .t 65], none, []⟩,
    ⟨some 67, .load (.sl (.int .i64)), [.t 66], none, []⟩,
    ⟨some 68, .len false, [.t 67], none, []⟩,
    ⟨some 69, .mv, [.int .i64 0], none, []⟩])
  (.clean (.block 4 (.loop x22_1)))))
def x22 : XF := ⟨99, [.tmp 8, .tmp 9], [0, 1, 2, 3, 5, 8, 9, 10, 11, 12, 13, 14, 16, 37, 38, 39, 62, 67, 68, 69],
 (.seq (.reg false [
   ⟨some 5, .box 22, [.t 1], none, []⟩,
   ⟨some 8, .nilrow 43 (.st (.cons (.int .i64) (.int .i64))), [], none, []⟩,
   ⟨some 9, .mv, [.int .i64 0], none, []⟩])
 (.seq (.seq (.reg false [
   ⟨some 17, .mv, [.t 0], none, []⟩,
   ⟨some 18, .load (.sl (.st (.cons (.int .i64) (.cons (.int .i64) (.cons (.sl (.int .i64)) (.sl (.int .i64))))))), [.t 5], none, []⟩,
   ⟨some 19, .call 25, [.t 17, .t 18], none, []⟩,
   ⟨some 20, .not, [.t 19], none, []⟩,
   ⟨some 21, .mv, [.t 20], none, []⟩,
   ⟨some 22, .mv, [.t 2], some (4, 21, false), []⟩,
   ⟨some 23, .bin .lss, [.t 22, .int .i64 0], some (4, 21, false), []⟩,
   ⟨some 24, .pick, [.t 21, .bool true, .t 23], none, []⟩,
   ⟨some 25, .mv, [.t 24], none, []⟩,
   ⟨some 26, .mv, [.t 2], some (8, 25, false), []⟩,
   ⟨some 27, .mv, [.t 0], some (8, 25, false), []⟩,
   ⟨some 28, .bin .geq, [.t 26, .t 27], some (8, 25, false), []⟩,
   ⟨some 29, .pick, [.t 25, .bool true, .t 28], none, []⟩,
   ⟨some 30, .mv, [.t 29], none, []⟩,
   ⟨some 31, .mv, [.t 3], some (13, 30, false), []⟩,
   ⟨some 32, .call 46, [.t 31], some (13, 30, false), []⟩,
   ⟨some 33, .not, [.t 32], some (13, 30, false), []⟩,
   ⟨some 34, .pick, [.t 30, .bool true, .t 33], none, []⟩])
 (.cond (.t 34)
  (.seq (.reg false [
    ⟨some 8, .nilrow 43 (.st (.cons (.int .i64) (.int .i64))), [], none, []⟩,
    ⟨some 9, .mv, [.int .i64 1], none, []⟩])
  .ret)
  .skip))
 (.clean (.seq (.reg false [
   ⟨some 35, .mv, [.t 0], none, []⟩,
   ⟨some 36, .mkarr 24 24, [.t 35, .t 35], none, []⟩,
   ⟨some 10, .alloc 63 (.sl (.sl (.int .i64))), [], none, []⟩,
   ⟨none, .store (.sl (.sl (.int .i64))), [.t 10, .t 36], none, []⟩])
 (.seq (.seq (.reg false [
   ⟨some 37, .load (.sl (.st (.cons (.int .i64) (.cons (.int .i64) (.cons (.sl (.int .i64)) (.sl (.int .i64))))))), [.t 5], none, []⟩,
   ⟨some 38, .len false, [.t 37], none, []⟩,
   ⟨some 39, .mv, [.int .i64 0], none, []⟩])
 (.block 0 (.top (.loop x22_0))))
 (.clean (.seq (.icall false [
   ⟨some 57, .mv, [.t 0], none, []⟩,
   ⟨some 58, .mv, [.t 2], none, []⟩,
   ⟨some 59, .mv, [.t 3], none, []⟩] ⟨some 60, .callv, [.fn 47, .t 57, .t 58, .t 59, .bool true], none, []⟩ [
   ⟨some 13, .allocz 64 false, [], none, []⟩,
   ⟨none, .store (.ptr (.st (.cons (.sl (.st (.cons (.int .i64) (.int .i64)))) (.cons (.sl .bool) .bool)))), [.t 13, .t 60], none, []⟩] 47 x47.n x47.res x47.kv x47.code)
 (.seq (.seq (.reg false [
   ⟨some 61, .load (.ptr (.st (.cons (.sl (.st (.cons (.int .i64) (.int .i64)))) (.cons (.sl .bool) .bool)))), [.t 13], none, []⟩,
   ⟨some 62, .mkbnd 48, [.t 61], none, []⟩])
 (.block 2 (.rfor (.t 62) 63 x22_A x22_B 48 62 [0, 1, 4, 5, 6, 10, 11, 12] (y48 99 63 [0, 1, 2, 3, 5, 8, 9, 10, 11, 12, 13, 14, 16, 37, 38, 39, 62, 67, 68, 69] x22_A x22_B))))
 (.clean (.seq (.reg false [
   ⟨some 95, .load (.ptr (.st (.cons (.sl (.st (.cons (.int .i64) (.int .i64)))) (.cons (.sl .bool) .bool)))), [.t 13], none, []⟩,
   ⟨some 96, .nilck, [.t 95], none, []⟩,
   ⟨some 97, .faddr 0 (.sl (.st (.cons (.int .i64) (.int .i64)))), [.t 96], none, []⟩,
   ⟨some 98, .load (.sl (.st (.cons (.int .i64) (.int .i64)))), [.t 97], none, []⟩,
   ⟨some 8, .mv, [.t 98], none, []⟩,
   ⟨some 9, .mv, [.int .i64 0], none, []⟩])
 .ret))))))))))⟩
/- 0=n 1=arcs 2=to 3=by 5=arcs 8= 9= 10=in 11=i 12=a 13=s 14=u 16=i 37= 38= 39= 62= 67= 68= 69= -/
/-! tonneau/tonneauref11.Late -/
def x23_1 : XC := (.seq (.seq (.reg false [
   ⟨some 44, .mv, [.t 13], none, []⟩,
   ⟨some 45, .mv, [.t 0], none, []⟩,
   ⟨some 46, .bin .lss, [.t 44, .t 45], none, []⟩])
 (.cond (.t 46)
  .skip
  (.exit 2)))
 (.seq (.block 3 (.seq (.reg true [
    ⟨some 49, .mv, [.t 11], none, []⟩,
    ⟨some 50, .mv, [.t 13], none, []⟩,
    ⟨some 51, .iaddr .bool, [.t 49, .t 50], none, [0, 1]⟩,
    ⟨some 52, .load .bool, [.t 51], none, [2, 0, 1]⟩,
    ⟨some 53, .not, [.t 52], none, [3, 2, 0, 1]⟩,
    ⟨some 54, .mv, [.t 53], none, [4, 3, 2, 0, 1]⟩,
    ⟨some 55, .mv, [.t 10], some (5, 54, true), [5, 4, 3, 2, 0, 1]⟩,
    ⟨some 56, .mv, [.t 13], some (5, 54, true), [5, 4, 3, 2, 0, 1]⟩,
    ⟨some 57, .iaddr (.st (.cons (.int .i64) (.int .i64))), [.t 55, .t 56], some (5, 54, true), [6, 5, 4, 3, 2, 0, 1, 7]⟩,
    ⟨some 58, .faddr 0 (.int .i64), [.t 57], some (5, 54, true), [8, 6, 5, 4, 3, 2, 0, 1, 7]⟩,
    ⟨some 59, .load (.int .i64), [.t 58], some (5, 54, true), [9, 8, 6, 5, 4, 3, 2, 0, 1, 7]⟩,
    ⟨some 60, .bin .geq, [.t 59, .int .i64 0], some (5, 54, true), [10, 9, 8, 6, 5, 4, 3, 2, 0, 1, 7]⟩,
    ⟨some 61, .pick, [.t 54, .t 60, .bool false], none, [5, 4, 3, 2, 0, 1, 11, 10, 9, 8, 6, 7]⟩,
    ⟨some 62, .mv, [.t 61], none, [12, 5, 4, 3, 2, 0, 1, 11, 10, 9, 8, 6, 7]⟩,
    ⟨some 63, .mv, [.t 12], some (13, 62, true), [13, 12, 5, 4, 3, 2, 0, 1, 11, 10, 9, 8, 6, 7]⟩,
    ⟨some 64, .bin .lss, [.t 63, .int .i64 0], some (13, 62, true), [14, 13, 12, 5, 4, 3, 2, 0, 1, 11, 10, 9, 8, 6, 7]⟩,
    ⟨some 65, .mv, [.t 64], some (13, 62, true), [15, 14, 13, 12, 5, 4, 3, 2, 0, 1, 11, 10, 9, 8, 6, 7]⟩,
    ⟨some 66, .mv, [.t 10], some (16, 65, false), [16, 15, 14, 13, 12, 5, 4, 3, 2, 0, 1, 11, 10, 9, 8, 6, 7]⟩,
    ⟨some 67, .mv, [.t 13], some (16, 65, false), [16, 15, 14, 13, 12, 5, 4, 3, 2, 0, 1, 11, 10, 9, 8, 6, 7]⟩,
    ⟨some 68, .iaddr (.st (.cons (.int .i64) (.int .i64))), [.t 66, .t 67], some (16, 65, false), [17, 16, 15, 14, 13, 12, 5, 4, 3, 2, 0, 1, 11, 10, 9, 8, 6, 7, 18]⟩,
    ⟨some 69, .faddr 0 (.int .i64), [.t 68], some (16, 65, false), [19, 17, 16, 15, 14, 13, 12, 5, 4, 3, 2, 0, 1, 11, 10, 9, 8, 6, 7, 18]⟩,
    ⟨some 70, .load (.int .i64), [.t 69], some (16, 65, false), [20, 19, 17, 16, 15, 14, 13, 12, 5, 4, 3, 2, 0, 1, 11, 10, 9, 8, 6, 7, 18]⟩,
    ⟨some 71, .mv, [.t 10], some (16, 65, false), [16, 15, 14, 13, 12, 5, 4, 3, 2, 0, 1, 11, 10, 9, 8, 6, 7]⟩,
    ⟨some 72, .mv, [.t 12], some (16, 65, false), [16, 15, 14, 13, 12, 5, 4, 3, 2, 0, 1, 11, 10, 9, 8, 6, 7]⟩,
    ⟨some 73, .max, [.t 72, .int .i64 0], some (16, 65, false), [23, 16, 15, 14, 13, 12, 5, 4, 3, 2, 0, 1, 11, 10, 9, 8, 6, 7]⟩,
    ⟨some 74, .iaddr (.st (.cons (.int .i64) (.int .i64))), [.t 71, .t 73], some (16, 65, false), [22, 16, 15, 14, 13, 12, 5, 4, 3, 2, 0, 1, 11, 10, 9, 8, 6, 7, 24, 23]⟩,
    ⟨some 75, .faddr 0 (.int .i64), [.t 74], some (16, 65, false), [25, 22, 16, 15, 14, 13, 12, 5, 4, 3, 2, 0, 1, 11, 10, 9, 8, 6, 7, 24, 23]⟩,
    ⟨some 76, .load (.int .i64), [.t 75], some (16, 65, false), [26, 25, 22, 16, 15, 14, 13, 12, 5, 4, 3, 2, 0, 1, 11, 10, 9, 8, 6, 7, 24, 23]⟩,
    ⟨some 77, .bin .gtr, [.t 70, .t 76], some (16, 65, false), [21, 20, 19, 17, 16, 15, 14, 13, 12, 5, 4, 3, 2, 0, 1, 11, 10, 9, 8, 6, 7, 18, 27, 26, 25, 22, 24, 23]⟩,
    ⟨some 78, .pick, [.t 65, .bool true, .t 77], some (13, 62, true), [16, 15, 14, 13, 12, 5, 4, 3, 2, 0, 1, 11, 10, 9, 8, 6, 7, 28, 21, 20, 19, 17, 18, 27, 26, 25, 22, 24, 23]⟩,
    ⟨some 79, .pick, [.t 62, .t 78, .bool false], none, [13, 12, 5, 4, 3, 2, 0, 1, 11, 10, 9, 8, 6, 7, 29, 16, 15, 14, 28, 21, 20, 19, 17, 18, 27, 26, 25, 22, 24, 23]⟩])
  (.cond (.t 79)
   (.reg false [
     ⟨some 80, .mv, [.t 13], none, []⟩,
     ⟨some 12, .mv, [.t 80], none, []⟩])
   .skip)))
 (.clean (.reg false [
   ⟨some 47, .mv, [.t 13], none, []⟩,
   ⟨some 48, .bin .add, [.t 47, .int .i64 1], none, []⟩,
   ⟨some 13, .mv, [.t 48], none, []⟩]))))
def x23_1d : List Nat := [12, 13]
def x23_2 : XC := (.seq (.seq (.reg false [
   ⟨some 87, .mv, [.t 14], none, []⟩,
   ⟨some 88, .mv, [.t 1], none, []⟩,
   ⟨some 89, .len false, [.t 88], none, []⟩,
   ⟨some 90, .bin .lss, [.t 87, .t 89], none, []⟩])
 (.cond (.t 90)
  .skip
  (.exit 4)))
 (.seq (.block 5 (.seq (.reg false [
    ⟨some 93, .mv, [.t 1], none, []⟩,
    ⟨some 94, .mv, [.t 14], none, []⟩,
    ⟨some 95, .iaddr (.st (.cons (.int .i64) (.cons (.int .i64) (.cons (.sl (.int .i64)) (.sl (.int .i64)))))), [.t 93, .t 94], none, []⟩,
    ⟨some 96, .faddr 0 (.int .i64), [.t 95], none, []⟩,
    ⟨some 97, .load (.int .i64), [.t 96], none, []⟩,
    ⟨some 15, .mv, [.t 97], none, []⟩])
  (.clean (.seq (.seq (.reg false [
    ⟨some 98, .mv, [.t 1], none, []⟩,
    ⟨some 99, .mv, [.t 14], none, []⟩,
    ⟨some 100, .iaddr (.st (.cons (.int .i64) (.cons (.int .i64) (.cons (.sl (.int .i64)) (.sl (.int .i64)))))), [.t 98, .t 99], none, []⟩,
    ⟨some 101, .faddr 1 (.int .i64), [.t 100], none, []⟩,
    ⟨some 102, .load (.int .i64), [.t 101], none, []⟩,
    ⟨some 103, .mv, [.t 12], none, []⟩,
    ⟨some 104, .bin .neq, [.t 102, .t 103], none, []⟩,
    ⟨some 105, .mv, [.t 104], none, []⟩,
    ⟨some 106, .mv, [.t 11], some (7, 105, false), []⟩,
    ⟨some 107, .mv, [.t 15], some (7, 105, false), []⟩,
    ⟨some 108, .iaddr .bool, [.t 106, .t 107], some (7, 105, false), []⟩,
    ⟨some 109, .load .bool, [.t 108], some (7, 105, false), []⟩,
    ⟨some 110, .pick, [.t 105, .bool true, .t 109], none, []⟩])
  (.cond (.t 110)
   (.exit 5)
   .skip))
  (.clean (.seq (.reg true [
    ⟨some 111, .mv, [.t 1], none, []⟩,
    ⟨some 112, .mv, [.t 14], none, []⟩,
    ⟨some 113, .iaddr (.st (.cons (.int .i64) (.cons (.int .i64) (.cons (.sl (.int .i64)) (.sl (.int .i64)))))), [.t 111, .t 112], none, [0, 1]⟩,
    ⟨some 114, .load (.st (.cons (.int .i64) (.cons (.int .i64) (.cons (.sl (.int .i64)) (.sl (.int .i64)))))), [.t 113], none, [2, 0, 1]⟩,
    ⟨some 115, .mv, [.t 10], none, []⟩,
    ⟨some 116, .mv, [.t 12], none, []⟩,
    ⟨some 117, .iaddr (.st (.cons (.int .i64) (.int .i64))), [.t 115, .t 116], none, [4, 5]⟩,
    ⟨some 118, .faddr 0 (.int .i64), [.t 117], none, [6, 4, 5]⟩,
    ⟨some 119, .load (.int .i64), [.t 118], none, [7, 6, 4, 5]⟩,
    ⟨some 120, .call 52, [.t 114, .t 119, .bool true], none, [3, 2, 0, 1, 8, 7, 6, 4, 5]⟩,
    ⟨some 16, .mv, [.t 120], none, [9, 3, 2, 0, 1, 8, 7, 6, 4, 5]⟩])
  (.clean (.seq (.reg false [
    ⟨some 121, .mv, [.t 16], none, []⟩,
    ⟨some 122, .mv, [.t 10], none, []⟩,
    ⟨some 123, .mv, [.t 15], none, []⟩,
    ⟨some 124, .iaddr (.st (.cons (.int .i64) (.int .i64))), [.t 122, .t 123], none, []⟩,
    ⟨some 125, .faddr 0 (.int .i64), [.t 124], none, []⟩,
    ⟨some 126, .load (.int .i64), [.t 125], none, []⟩,
    ⟨some 127, .bin .gtr, [.t 121, .t 126], none, []⟩,
    ⟨some 128, .mv, [.t 127], none, []⟩,
    ⟨some 129, .mv, [.t 16], some (7, 128, false), []⟩,
    ⟨some 130, .bin .geq, [.t 129, .int .i64 0], some (7, 128, false), []⟩,
    ⟨some 131, .mv, [.t 130], some (7, 128, false), []⟩,
    ⟨some 132, .mv, [.t 16], some (10, 131, true), []⟩,
    ⟨some 133, .mv, [.t 10], some (10, 131, true), []⟩,
    ⟨some 134, .mv, [.t 15], some (10, 131, true), []⟩,
    ⟨some 135, .iaddr (.st (.cons (.int .i64) (.int .i64))), [.t 133, .t 134], some (10, 131, true), []⟩,
    ⟨some 136, .faddr 0 (.int .i64), [.t 135], some (10, 131, true), []⟩,
    ⟨some 137, .load (.int .i64), [.t 136], some (10, 131, true), []⟩,
    ⟨some 138, .bin .eql, [.t 132, .t 137], some (10, 131, true), []⟩,
    ⟨some 139, .pick, [.t 131, .t 138, .bool false], some (7, 128, false), []⟩,
    ⟨some 140, .mv, [.t 139], some (7, 128, false), []⟩,
    ⟨some 141, .mv, [.t 14], some (19, 140, true), []⟩,
    ⟨some 142, .mv, [.t 10], some (19, 140, true), []⟩,
    ⟨some 143, .mv, [.t 15], some (19, 140, true), []⟩,
    ⟨some 144, .iaddr (.st (.cons (.int .i64) (.int .i64))), [.t 142, .t 143], some (19, 140, true), []⟩,
    ⟨some 145, .faddr 1 (.int .i64), [.t 144], some (19, 140, true), []⟩,
    ⟨some 146, .load (.int .i64), [.t 145], some (19, 140, true), []⟩,
    ⟨some 147, .bin .lss, [.t 141, .t 146], some (19, 140, true), []⟩,
    ⟨some 148, .pick, [.t 140, .t 147, .bool false], some (7, 128, false), []⟩,
    ⟨some 149, .pick, [.t 128, .bool true, .t 148], none, []⟩])
  (.cond (.t 149)
   (.reg false [
     ⟨some 150, .mv, [.t 10], none, []⟩,
     ⟨some 151, .mv, [.t 15], none, []⟩,
     ⟨some 152, .mv, [.t 16], none, []⟩,
     ⟨some 153, .mv, [.t 14], none, []⟩,
     ⟨some 154, .build (.st (.cons (.int .i64) (.int .i64))) [(0, (.int .i64)), (1, (.int .i64))], [.t 152, .t 153], none, []⟩,
     ⟨some 155, .iaddr (.st (.cons (.int .i64) (.int .i64))), [.t 150, .t 151], none, []⟩,
     ⟨none, .store (.st (.cons (.int .i64) (.int .i64))), [.t 155, .t 154], none, []⟩])
   .skip)))))))))
 (.clean (.reg false [
   ⟨some 91, .mv, [.t 14], none, []⟩,
   ⟨some 92, .bin .add, [.t 91, .int .i64 1], none, []⟩,
   ⟨some 14, .mv, [.t 92], none, []⟩]))))
def x23_2d : List Nat := [14, 15, 16]
def x23_0 : XC := (.block 1 (.seq (.reg false [
    ⟨some 12, .mv, [.int .i64 (-1)], none, []⟩])
  (.seq (.seq (.reg false [
    ⟨some 13, .mv, [.int .i64 0], none, []⟩])
  (.block 2 (.loop x23_1)))
  (.clean (.seq (.seq (.reg false [
    ⟨some 81, .mv, [.t 12], none, []⟩,
    ⟨some 82, .bin .lss, [.t 81, .int .i64 0], none, []⟩])
  (.cond (.t 82)
   (.seq (.reg false [
     ⟨some 83, .mv, [.t 10], none, []⟩,
     ⟨some 8, .mv, [.t 83], none, []⟩,
     ⟨some 9, .mv, [.int .i64 0], none, []⟩])
   .ret)
   .skip))
  (.clean (.seq (.reg false [
    ⟨some 84, .mv, [.t 11], none, []⟩,
    ⟨some 85, .mv, [.t 12], none, []⟩,
    ⟨some 86, .iaddr .bool, [.t 84, .t 85], none, []⟩,
    ⟨none, .store .bool, [.t 86, .bool true], none, []⟩])
  (.seq (.reg false [
    ⟨some 14, .mv, [.int .i64 0], none, []⟩])
  (.block 4 (.loop x23_2))))))))))
def x23_0d : List Nat := [8, 9, 12, 13, 14, 15, 16]
def x23 : XF := ⟨156, [.tmp 8, .tmp 9], [0, 1, 2, 3, 8, 9, 10, 11, 12, 13, 14, 15, 16],
 (.seq (.reg false [
   ⟨some 8, .nilrow 43 (.st (.cons (.int .i64) (.int .i64))), [], none, []⟩,
   ⟨some 9, .mv, [.int .i64 0], none, []⟩])
 (.seq (.seq (.reg false [
   ⟨some 17, .mv, [.t 0], none, []⟩,
   ⟨some 18, .mv, [.t 1], none, []⟩,
   ⟨some 19, .call 26, [.t 17, .t 18], none, []⟩,
   ⟨some 20, .not, [.t 19], none, []⟩,
   ⟨some 21, .mv, [.t 20], none, []⟩,
   ⟨some 22, .mv, [.t 2], some (4, 21, false), []⟩,
   ⟨some 23, .bin .lss, [.t 22, .int .i64 0], some (4, 21, false), []⟩,
   ⟨some 24, .pick, [.t 21, .bool true, .t 23], none, []⟩,
   ⟨some 25, .mv, [.t 24], none, []⟩,
   ⟨some 26, .mv, [.t 2], some (8, 25, false), []⟩,
   ⟨some 27, .mv, [.t 0], some (8, 25, false), []⟩,
   ⟨some 28, .bin .geq, [.t 26, .t 27], some (8, 25, false), []⟩,
   ⟨some 29, .pick, [.t 25, .bool true, .t 28], none, []⟩,
   ⟨some 30, .mv, [.t 29], none, []⟩,
   ⟨some 31, .mv, [.t 3], some (13, 30, false), []⟩,
   ⟨some 32, .call 30, [.t 31], some (13, 30, false), []⟩,
   ⟨some 33, .not, [.t 32], some (13, 30, false), []⟩,
   ⟨some 34, .pick, [.t 30, .bool true, .t 33], none, []⟩])
 (.cond (.t 34)
  (.seq (.reg false [
    ⟨some 8, .nilrow 43 (.st (.cons (.int .i64) (.int .i64))), [], none, []⟩,
    ⟨some 9, .mv, [.int .i64 1], none, []⟩])
  .ret)
  .skip))
 (.clean (.seq (.reg false [
   ⟨some 35, .mv, [.t 0], none, []⟩,
   ⟨some 36, .call 50, [.t 35], none, []⟩,
   ⟨some 10, .mv, [.t 36], none, []⟩])
 (.seq (.reg false [
   ⟨some 37, .mv, [.t 0], none, []⟩,
   ⟨some 38, .mkslice 4 .bool 1, [.t 37, .t 37], none, []⟩,
   ⟨some 11, .mv, [.t 38], none, []⟩])
 (.seq (.reg false [
   ⟨some 39, .mv, [.t 10], none, []⟩,
   ⟨some 40, .mv, [.t 2], none, []⟩,
   ⟨some 41, .mv, [.t 3], none, []⟩,
   ⟨some 42, .iaddr (.st (.cons (.int .i64) (.int .i64))), [.t 39, .t 40], none, []⟩,
   ⟨some 43, .faddr 0 (.int .i64), [.t 42], none, []⟩,
   ⟨none, .store (.int .i64), [.t 43, .t 41], none, []⟩])
 (.block 0 (.loop x23_0))))))))⟩
/- 0=n 1=arcs 2=to 3=by 8= 9= 10=out 11=done 12=u 13=i 14=i 15=v 16=t -/
/-! tonneau/tonneauref11.Same -/
def x24_0 : XC := (.seq (.seq (.reg false [
   ⟨some 11, .mv, [.t 5], none, []⟩,
   ⟨some 12, .mv, [.t 0], none, []⟩,
   ⟨some 13, .len false, [.t 12], none, []⟩,
   ⟨some 14, .bin .lss, [.t 11, .t 13], none, []⟩])
 (.cond (.t 14)
  .skip
  (.exit 0)))
 (.seq (.block 1 (.seq (.reg true [
    ⟨some 17, .mv, [.t 0], none, []⟩,
    ⟨some 18, .mv, [.t 5], none, []⟩,
    ⟨some 19, .iaddr (.st (.cons (.int .i64) (.int .i64))), [.t 17, .t 18], none, [0, 1]⟩,
    ⟨some 20, .load (.st (.cons (.int .i64) (.int .i64))), [.t 19], none, [2, 0, 1]⟩,
    ⟨some 21, .mv, [.t 1], none, []⟩,
    ⟨some 22, .mv, [.t 5], none, []⟩,
    ⟨some 23, .iaddr (.st (.cons (.int .i64) (.int .i64))), [.t 21, .t 22], none, [4, 5]⟩,
    ⟨some 24, .load (.st (.cons (.int .i64) (.int .i64))), [.t 23], none, [6, 4, 5]⟩,
    ⟨some 25, .steq true (.st (.cons (.int .i64) (.int .i64))), [.t 20, .t 24], none, [3, 2, 0, 1, 7, 6, 4, 5]⟩])
  (.cond (.t 25)
   (.seq (.reg false [
     ⟨some 4, .mv, [.bool false], none, []⟩])
   .ret)
   .skip)))
 (.clean (.reg false [
   ⟨some 15, .mv, [.t 5], none, []⟩,
   ⟨some 16, .bin .add, [.t 15, .int .i64 1], none, []⟩,
   ⟨some 5, .mv, [.t 16], none, []⟩]))))
def x24_0d : List Nat := [4, 5]
def x24 : XF := ⟨26, [.tmp 4], [0, 1, 4, 5],
 (.seq (.reg false [
   ⟨some 4, .mv, [.bool false], none, []⟩])
 (.seq (.seq (.reg false [
   ⟨some 6, .mv, [.t 0], none, []⟩,
   ⟨some 7, .len false, [.t 6], none, []⟩,
   ⟨some 8, .mv, [.t 1], none, []⟩,
   ⟨some 9, .len false, [.t 8], none, []⟩,
   ⟨some 10, .bin .neq, [.t 7, .t 9], none, []⟩])
 (.cond (.t 10)
  (.seq (.reg false [
    ⟨some 4, .mv, [.bool false], none, []⟩])
  .ret)
  .skip))
 (.clean (.seq (.seq (.reg false [
   ⟨some 5, .mv, [.int .i64 0], none, []⟩])
 (.block 0 (.loop x24_0)))
 (.seq (.reg false [
   ⟨some 4, .mv, [.bool true], none, []⟩])
 .ret)))))⟩
/- 0=a 1=b 4= 5=i -/
/-! tonneau/road.Right -/
def x25 : XF := ⟨24, [.tmp 4], [0, 1, 2, 4, 5],
 (.seq (.reg false [
   ⟨some 2, .box 3, [.t 0], none, []⟩,
   ⟨some 4, .mv, [.bool false], none, []⟩])
 (.seq (.reg false [
   ⟨some 6, .mkfn 53, [.t 2], none, []⟩,
   ⟨some 5, .mv, [.t 6], none, []⟩])
 (.seq (.reg false [
   ⟨some 7, .load (.int .i64), [.t 2], none, []⟩,
   ⟨some 8, .bin .geq, [.t 7, .int .i64 1], none, []⟩,
   ⟨some 9, .mv, [.t 8], none, []⟩,
   ⟨some 10, .load (.int .i64), [.t 2], some (2, 9, true), []⟩,
   ⟨some 11, .bin .leq, [.t 10, .int .i64 2000], some (2, 9, true), []⟩,
   ⟨some 12, .pick, [.t 9, .t 11, .bool false], none, []⟩,
   ⟨some 13, .mv, [.t 12], none, []⟩,
   ⟨some 14, .mv, [.t 1], some (6, 13, true), []⟩,
   ⟨some 15, .len false, [.t 14], some (6, 13, true), []⟩,
   ⟨some 16, .bin .leq, [.t 15, .int .i64 20000], some (6, 13, true), []⟩,
   ⟨some 17, .pick, [.t 13, .t 16, .bool false], none, []⟩,
   ⟨some 18, .mv, [.t 17], none, []⟩,
   ⟨some 19, .mv, [.t 1], some (11, 18, true), []⟩,
   ⟨some 20, .mv, [.t 5], some (11, 18, true), []⟩,
   ⟨some 21, .call 54, [.t 19, .t 20], some (11, 18, true), []⟩,
   ⟨some 22, .not, [.t 21], some (11, 18, true), []⟩,
   ⟨some 23, .pick, [.t 18, .t 22, .bool false], none, []⟩,
   ⟨some 4, .mv, [.t 23], none, []⟩])
 .ret)))⟩
/- 0=n 1=arcs 2=n 4= 5=bad -/
/-! tonneau/tonneauref11.Right -/
def x26_0 : XC := (.seq (.seq (.reg false [
   ⟨some 17, .mv, [.t 5], none, []⟩,
   ⟨some 18, .mv, [.t 1], none, []⟩,
   ⟨some 19, .len false, [.t 18], none, []⟩,
   ⟨some 20, .bin .lss, [.t 17, .t 19], none, []⟩])
 (.cond (.t 20)
  .skip
  (.exit 0)))
 (.seq (.block 1 (.seq (.seq (.reg false [
    ⟨some 23, .mv, [.t 1], none, []⟩,
    ⟨some 24, .mv, [.t 5], none, []⟩,
    ⟨some 25, .iaddr (.st (.cons (.int .i64) (.cons (.int .i64) (.cons (.sl (.int .i64)) (.sl (.int .i64)))))), [.t 23, .t 24], none, []⟩,
    ⟨some 26, .load (.st (.cons (.int .i64) (.cons (.int .i64) (.cons (.sl (.int .i64)) (.sl (.int .i64)))))), [.t 25], none, []⟩,
    ⟨some 27, .call 40, [.t 26], none, []⟩,
    ⟨some 28, .not, [.t 27], none, []⟩])
  (.cond (.t 28)
   (.seq (.reg false [
     ⟨some 4, .mv, [.bool false], none, []⟩])
   .ret)
   .skip))
  (.clean (.seq (.reg false [
    ⟨some 29, .mv, [.t 1], none, []⟩,
    ⟨some 30, .mv, [.t 5], none, []⟩,
    ⟨some 31, .iaddr (.st (.cons (.int .i64) (.cons (.int .i64) (.cons (.sl (.int .i64)) (.sl (.int .i64)))))), [.t 29, .t 30], none, []⟩,
    ⟨some 32, .faddr 0 (.int .i64), [.t 31], none, []⟩,
    ⟨some 33, .load (.int .i64), [.t 32], none, []⟩,
    ⟨some 34, .mv, [.t 0], none, []⟩,
    ⟨some 35, .bin .geq, [.t 33, .t 34], none, []⟩,
    ⟨some 36, .mv, [.t 35], none, []⟩,
    ⟨some 37, .mv, [.t 1], some (7, 36, false), []⟩,
    ⟨some 38, .mv, [.t 5], some (7, 36, false), []⟩,
    ⟨some 39, .iaddr (.st (.cons (.int .i64) (.cons (.int .i64) (.cons (.sl (.int .i64)) (.sl (.int .i64)))))), [.t 37, .t 38], some (7, 36, false), []⟩,
    ⟨some 40, .faddr 1 (.int .i64), [.t 39], some (7, 36, false), []⟩,
    ⟨some 41, .load (.int .i64), [.t 40], some (7, 36, false), []⟩,
    ⟨some 42, .mv, [.t 0], some (7, 36, false), []⟩,
    ⟨some 43, .bin .geq, [.t 41, .t 42], some (7, 36, false), []⟩,
    ⟨some 44, .pick, [.t 36, .bool true, .t 43], none, []⟩])
  (.cond (.t 44)
   (.seq (.reg false [
     ⟨some 4, .mv, [.bool false], none, []⟩])
   .ret)
   .skip)))))
 (.clean (.reg false [
   ⟨some 21, .mv, [.t 5], none, []⟩,
   ⟨some 22, .bin .add, [.t 21, .int .i64 1], none, []⟩,
   ⟨some 5, .mv, [.t 22], none, []⟩]))))
def x26_0d : List Nat := [4, 5]
def x26 : XF := ⟨45, [.tmp 4], [0, 1, 4, 5],
 (.seq (.reg false [
   ⟨some 4, .mv, [.bool false], none, []⟩])
 (.seq (.seq (.reg false [
   ⟨some 6, .mv, [.t 0], none, []⟩,
   ⟨some 7, .bin .lss, [.t 6, .int .i64 1], none, []⟩,
   ⟨some 8, .mv, [.t 7], none, []⟩,
   ⟨some 9, .mv, [.t 0], some (2, 8, false), []⟩,
   ⟨some 10, .bin .gtr, [.t 9, .int .i64 2000], some (2, 8, false), []⟩,
   ⟨some 11, .pick, [.t 8, .bool true, .t 10], none, []⟩,
   ⟨some 12, .mv, [.t 11], none, []⟩,
   ⟨some 13, .mv, [.t 1], some (6, 12, false), []⟩,
   ⟨some 14, .len false, [.t 13], some (6, 12, false), []⟩,
   ⟨some 15, .bin .gtr, [.t 14, .int .i64 20000], some (6, 12, false), []⟩,
   ⟨some 16, .pick, [.t 12, .bool true, .t 15], none, []⟩])
 (.cond (.t 16)
  (.seq (.reg false [
    ⟨some 4, .mv, [.bool false], none, []⟩])
  .ret)
  .skip))
 (.clean (.seq (.seq (.reg false [
   ⟨some 5, .mv, [.int .i64 0], none, []⟩])
 (.block 0 (.loop x26_0)))
 (.seq (.reg false [
   ⟨some 4, .mv, [.bool true], none, []⟩])
 .ret)))))⟩
/- 0=n 1=arcs 4= 5=i -/
/-! tonneau/tonneauref11.Ints -/
def x27_0 : XC := (.seq (.seq (.reg false [
   ⟨some 11, .mv, [.t 5], none, []⟩,
   ⟨some 12, .mv, [.t 0], none, []⟩,
   ⟨some 13, .len false, [.t 12], none, []⟩,
   ⟨some 14, .bin .lss, [.t 11, .t 13], none, []⟩])
 (.cond (.t 14)
  .skip
  (.exit 0)))
 (.seq (.block 1 (.seq (.reg true [
    ⟨some 17, .mv, [.t 0], none, []⟩,
    ⟨some 18, .mv, [.t 5], none, []⟩,
    ⟨some 19, .iaddr (.int .i64), [.t 17, .t 18], none, [0, 1]⟩,
    ⟨some 20, .load (.int .i64), [.t 19], none, [2, 0, 1]⟩,
    ⟨some 21, .mv, [.t 1], none, []⟩,
    ⟨some 22, .mv, [.t 5], none, []⟩,
    ⟨some 23, .iaddr (.int .i64), [.t 21, .t 22], none, [4, 5]⟩,
    ⟨some 24, .load (.int .i64), [.t 23], none, [6, 4, 5]⟩,
    ⟨some 25, .bin .neq, [.t 20, .t 24], none, [3, 2, 0, 1, 7, 6, 4, 5]⟩])
  (.cond (.t 25)
   (.seq (.reg false [
     ⟨some 4, .mv, [.bool false], none, []⟩])
   .ret)
   .skip)))
 (.clean (.reg false [
   ⟨some 15, .mv, [.t 5], none, []⟩,
   ⟨some 16, .bin .add, [.t 15, .int .i64 1], none, []⟩,
   ⟨some 5, .mv, [.t 16], none, []⟩]))))
def x27_0d : List Nat := [4, 5]
def x27 : XF := ⟨26, [.tmp 4], [0, 1, 4, 5],
 (.seq (.reg false [
   ⟨some 4, .mv, [.bool false], none, []⟩])
 (.seq (.seq (.reg false [
   ⟨some 6, .mv, [.t 0], none, []⟩,
   ⟨some 7, .len false, [.t 6], none, []⟩,
   ⟨some 8, .mv, [.t 1], none, []⟩,
   ⟨some 9, .len false, [.t 8], none, []⟩,
   ⟨some 10, .bin .neq, [.t 7, .t 9], none, []⟩])
 (.cond (.t 10)
  (.seq (.reg false [
    ⟨some 4, .mv, [.bool false], none, []⟩])
  .ret)
  .skip))
 (.clean (.seq (.seq (.reg false [
   ⟨some 5, .mv, [.int .i64 0], none, []⟩])
 (.block 0 (.loop x27_0)))
 (.seq (.reg false [
   ⟨some 4, .mv, [.bool true], none, []⟩])
 .ret)))))⟩
/- 0=a 1=b 4= 5=i -/
/-! tonneau/road.Way -/
def x28_0 : XC := (.seq (.seq (.reg false [
   ⟨some 25, .mv, [.t 0], none, []⟩,
   ⟨some 26, .mv, [.t 2], none, []⟩,
   ⟨some 27, .iaddr (.st (.cons (.int .i64) (.int .i64))), [.t 25, .t 26], none, []⟩,
   ⟨some 28, .faddr 1 (.int .i64), [.t 27], none, []⟩,
   ⟨some 29, .load (.int .i64), [.t 28], none, []⟩,
   ⟨some 30, .bin .neq, [.t 29, .int .i64 (-1)], none, []⟩])
 (.cond (.t 30)
  .skip
  (.exit 0)))
 (.clean (.block 1 (.seq (.reg false [
    ⟨some 31, .mv, [.t 0], none, []⟩,
    ⟨some 32, .mv, [.t 2], none, []⟩,
    ⟨some 33, .iaddr (.st (.cons (.int .i64) (.int .i64))), [.t 31, .t 32], none, []⟩,
    ⟨some 34, .faddr 1 (.int .i64), [.t 33], none, []⟩,
    ⟨some 35, .load (.int .i64), [.t 34], none, []⟩,
    ⟨some 8, .mv, [.t 35], none, []⟩])
  (.clean (.seq (.seq (.reg false [
    ⟨some 36, .mv, [.t 8], none, []⟩,
    ⟨some 37, .bin .lss, [.t 36, .int .i64 0], none, []⟩,
    ⟨some 38, .mv, [.t 37], none, []⟩,
    ⟨some 39, .mv, [.t 8], some (2, 38, false), []⟩,
    ⟨some 40, .mv, [.t 1], some (2, 38, false), []⟩,
    ⟨some 41, .len false, [.t 40], some (2, 38, false), []⟩,
    ⟨some 42, .bin .geq, [.t 39, .t 41], some (2, 38, false), []⟩,
    ⟨some 43, .pick, [.t 38, .bool true, .t 42], none, []⟩,
    ⟨some 44, .mv, [.t 43], none, []⟩,
    ⟨some 45, .mv, [.t 1], some (8, 44, false), []⟩,
    ⟨some 46, .mv, [.t 8], some (8, 44, false), []⟩,
    ⟨some 47, .iaddr (.st (.cons (.int .i64) (.cons (.int .i64) (.cons (.sl (.int .i64)) (.sl (.int .i64)))))), [.t 45, .t 46], some (8, 44, false), []⟩,
    ⟨some 48, .faddr 1 (.int .i64), [.t 47], some (8, 44, false), []⟩,
    ⟨some 49, .load (.int .i64), [.t 48], some (8, 44, false), []⟩,
    ⟨some 50, .mv, [.t 2], some (8, 44, false), []⟩,
    ⟨some 51, .bin .neq, [.t 49, .t 50], some (8, 44, false), []⟩,
    ⟨some 52, .pick, [.t 44, .bool true, .t 51], none, []⟩,
    ⟨some 53, .mv, [.t 52], none, []⟩,
    ⟨some 54, .mv, [.t 1], some (17, 53, false), []⟩,
    ⟨some 55, .mv, [.t 8], some (17, 53, false), []⟩,
    ⟨some 56, .iaddr (.st (.cons (.int .i64) (.cons (.int .i64) (.cons (.sl (.int .i64)) (.sl (.int .i64)))))), [.t 54, .t 55], some (17, 53, false), []⟩,
    ⟨some 57, .faddr 0 (.int .i64), [.t 56], some (17, 53, false), []⟩,
    ⟨some 58, .load (.int .i64), [.t 57], some (17, 53, false), []⟩,
    ⟨some 59, .bin .lss, [.t 58, .int .i64 0], some (17, 53, false), []⟩,
    ⟨some 60, .pick, [.t 53, .bool true, .t 59], none, []⟩,
    ⟨some 61, .mv, [.t 60], none, []⟩,
    ⟨some 62, .mv, [.t 1], some (25, 61, false), []⟩,
    ⟨some 63, .mv, [.t 8], some (25, 61, false), []⟩,
    ⟨some 64, .iaddr (.st (.cons (.int .i64) (.cons (.int .i64) (.cons (.sl (.int .i64)) (.sl (.int .i64)))))), [.t 62, .t 63], some (25, 61, false), []⟩,
    ⟨some 65, .faddr 0 (.int .i64), [.t 64], some (25, 61, false), []⟩,
    ⟨some 66, .load (.int .i64), [.t 65], some (25, 61, false), []⟩,
    ⟨some 67, .mv, [.t 0], some (25, 61, false), []⟩,
    ⟨some 68, .len false, [.t 67], some (25, 61, false), []⟩,
    ⟨some 69, .bin .geq, [.t 66, .t 68], some (25, 61, false), []⟩,
    ⟨some 70, .pick, [.t 61, .bool true, .t 69], none, []⟩,
    ⟨some 71, .mv, [.t 70], none, []⟩,
    ⟨some 72, .mv, [.t 7], some (35, 71, false), []⟩,
    ⟨some 73, .len false, [.t 72], some (35, 71, false), []⟩,
    ⟨some 74, .mv, [.t 0], some (35, 71, false), []⟩,
    ⟨some 75, .len false, [.t 74], some (35, 71, false), []⟩,
    ⟨some 76, .bin .eql, [.t 73, .t 75], some (35, 71, false), []⟩,
    ⟨some 77, .pick, [.t 71, .bool true, .t 76], none, []⟩])
  (.cond (.t 77)
   (.seq (.reg false [
     ⟨some 6, .nilrow 3 (.int .i64), [], none, []⟩])
   .ret)
   .skip))
  (.clean (.seq (.reg false [
    ⟨some 78, .mv, [.t 7], none, []⟩,
    ⟨some 79, .mv, [.t 8], none, []⟩,
    ⟨some 80, .bslice 3 (.int .i64) 1 [0], [.t 79], none, []⟩,
    ⟨some 81, .append 3 (.int .i64) 8, [.t 78, .t 80], none, []⟩,
    ⟨some 7, .mv, [.t 81], none, []⟩])
  (.reg false [
    ⟨some 82, .mv, [.t 1], none, []⟩,
    ⟨some 83, .mv, [.t 8], none, []⟩,
    ⟨some 84, .iaddr (.st (.cons (.int .i64) (.cons (.int .i64) (.cons (.sl (.int .i64)) (.sl (.int .i64)))))), [.t 82, .t 83], none, []⟩,
    ⟨some 85, .faddr 0 (.int .i64), [.t 84], none, []⟩,
    ⟨some 86, .load (.int .i64), [.t 85], none, []⟩,
    ⟨some 2, .mv, [.t 86], none, []⟩])))))))))
def x28_0d : List Nat := [2, 6, 7, 8]
def x28 : XF := ⟨90, [.tmp 6], [0, 1, 2, 6, 7, 8],
 (.seq (.reg false [
   ⟨some 6, .nilrow 3 (.int .i64), [], none, []⟩])
 (.seq (.seq (.reg false [
   ⟨some 9, .mv, [.t 2], none, []⟩,
   ⟨some 10, .bin .lss, [.t 9, .int .i64 0], none, []⟩,
   ⟨some 11, .mv, [.t 10], none, []⟩,
   ⟨some 12, .mv, [.t 2], some (2, 11, false), []⟩,
   ⟨some 13, .mv, [.t 0], some (2, 11, false), []⟩,
   ⟨some 14, .len false, [.t 13], some (2, 11, false), []⟩,
   ⟨some 15, .bin .geq, [.t 12, .t 14], some (2, 11, false), []⟩,
   ⟨some 16, .pick, [.t 11, .bool true, .t 15], none, []⟩,
   ⟨some 17, .mv, [.t 16], none, []⟩,
   ⟨some 18, .mv, [.t 0], some (8, 17, false), []⟩,
   ⟨some 19, .mv, [.t 2], some (8, 17, false), []⟩,
   ⟨some 20, .iaddr (.st (.cons (.int .i64) (.int .i64))), [.t 18, .t 19], some (8, 17, false), []⟩,
   ⟨some 21, .faddr 0 (.int .i64), [.t 20], some (8, 17, false), []⟩,
   ⟨some 22, .load (.int .i64), [.t 21], some (8, 17, false), []⟩,
   ⟨some 23, .bin .eql, [.t 22, .int .i64 (-1)], some (8, 17, false), []⟩,
   ⟨some 24, .pick, [.t 17, .bool true, .t 23], none, []⟩])
 (.cond (.t 24)
  (.seq (.reg false [
    ⟨some 6, .nilrow 3 (.int .i64), [], none, []⟩])
  .ret)
  .skip))
 (.clean (.seq (.reg false [
   ⟨some 7, .nilrow 3 (.int .i64), [], none, []⟩])
 (.seq (.block 0 (.loop x28_0))
 (.clean (.seq (.icall false [
   ⟨some 87, .mv, [.t 7], none, []⟩] ⟨some 88, .callv, [.fn 55, .t 87], none, []⟩ [] 55 x55.n x55.res x55.kv x55.code)
 (.seq (.reg false [
   ⟨some 89, .mv, [.t 7], none, []⟩,
   ⟨some 6, .mv, [.t 89], none, []⟩])
 .ret))))))))⟩
/- 0=labels 1=arcs 2=to 6= 7=out 8=i -/
/-! tonneau/tonneauref11.Way -/
def x29_0 : XC := (.block 1 (.seq (.seq (.reg false [
    ⟨some 9, .mv, [.t 2], none, []⟩,
    ⟨some 10, .bin .lss, [.t 9, .int .i64 0], none, []⟩,
    ⟨some 11, .mv, [.t 10], none, []⟩,
    ⟨some 12, .mv, [.t 2], some (2, 11, false), []⟩,
    ⟨some 13, .mv, [.t 0], some (2, 11, false), []⟩,
    ⟨some 14, .len false, [.t 13], some (2, 11, false), []⟩,
    ⟨some 15, .bin .geq, [.t 12, .t 14], some (2, 11, false), []⟩,
    ⟨some 16, .pick, [.t 11, .bool true, .t 15], none, []⟩,
    ⟨some 17, .mv, [.t 16], none, []⟩,
    ⟨some 18, .mv, [.t 7], some (8, 17, false), []⟩,
    ⟨some 19, .len false, [.t 18], some (8, 17, false), []⟩,
    ⟨some 20, .mv, [.t 0], some (8, 17, false), []⟩,
    ⟨some 21, .len false, [.t 20], some (8, 17, false), []⟩,
    ⟨some 22, .bin .gtr, [.t 19, .t 21], some (8, 17, false), []⟩,
    ⟨some 23, .pick, [.t 17, .bool true, .t 22], none, []⟩])
  (.cond (.t 23)
   (.seq (.reg false [
     ⟨some 6, .nilrow 3 (.int .i64), [], none, []⟩])
   .ret)
   .skip))
  (.clean (.seq (.reg false [
    ⟨some 24, .mv, [.t 0], none, []⟩,
    ⟨some 25, .mv, [.t 2], none, []⟩,
    ⟨some 26, .iaddr (.st (.cons (.int .i64) (.int .i64))), [.t 24, .t 25], none, []⟩,
    ⟨some 27, .load (.st (.cons (.int .i64) (.int .i64))), [.t 26], none, []⟩,
    ⟨some 8, .alloc 43 (.st (.cons (.int .i64) (.int .i64))), [], none, []⟩,
    ⟨none, .store (.st (.cons (.int .i64) (.int .i64))), [.t 8, .t 27], none, []⟩])
  (.seq (.seq (.reg false [
    ⟨some 28, .mv, [.t 7], none, []⟩,
    ⟨some 29, .len false, [.t 28], none, []⟩,
    ⟨some 30, .bin .eql, [.t 29, .int .i64 0], none, []⟩,
    ⟨some 31, .mv, [.t 30], none, []⟩,
    ⟨some 32, .faddr 0 (.int .i64), [.t 8], some (3, 31, true), []⟩,
    ⟨some 33, .load (.int .i64), [.t 32], some (3, 31, true), []⟩,
    ⟨some 34, .bin .eql, [.t 33, .int .i64 (-1)], some (3, 31, true), []⟩,
    ⟨some 35, .pick, [.t 31, .t 34, .bool false], none, []⟩])
  (.cond (.t 35)
   (.seq (.reg false [
     ⟨some 6, .nilrow 3 (.int .i64), [], none, []⟩])
   .ret)
   .skip))
  (.clean (.seq (.seq (.reg false [
    ⟨some 36, .faddr 1 (.int .i64), [.t 8], none, []⟩,
    ⟨some 37, .load (.int .i64), [.t 36], none, []⟩,
    ⟨some 38, .bin .eql, [.t 37, .int .i64 (-1)], none, []⟩])
  (.cond (.t 38)
   (.seq (.reg false [
     ⟨some 39, .mv, [.t 7], none, []⟩,
     ⟨some 6, .mv, [.t 39], none, []⟩])
   .ret)
   .skip))
  (.clean (.seq (.seq (.reg false [
    ⟨some 40, .faddr 1 (.int .i64), [.t 8], none, []⟩,
    ⟨some 41, .load (.int .i64), [.t 40], none, []⟩,
    ⟨some 42, .bin .lss, [.t 41, .int .i64 0], none, []⟩,
    ⟨some 43, .mv, [.t 42], none, []⟩,
    ⟨some 44, .faddr 1 (.int .i64), [.t 8], some (3, 43, false), []⟩,
    ⟨some 45, .load (.int .i64), [.t 44], some (3, 43, false), []⟩,
    ⟨some 46, .mv, [.t 1], some (3, 43, false), []⟩,
    ⟨some 47, .len false, [.t 46], some (3, 43, false), []⟩,
    ⟨some 48, .bin .geq, [.t 45, .t 47], some (3, 43, false), []⟩,
    ⟨some 49, .pick, [.t 43, .bool true, .t 48], none, []⟩,
    ⟨some 50, .mv, [.t 49], none, []⟩,
    ⟨some 51, .mv, [.t 7], some (10, 50, false), []⟩,
    ⟨some 52, .len false, [.t 51], some (10, 50, false), []⟩,
    ⟨some 53, .mv, [.t 0], some (10, 50, false), []⟩,
    ⟨some 54, .len false, [.t 53], some (10, 50, false), []⟩,
    ⟨some 55, .bin .eql, [.t 52, .t 54], some (10, 50, false), []⟩,
    ⟨some 56, .pick, [.t 50, .bool true, .t 55], none, []⟩])
  (.cond (.t 56)
   (.seq (.reg false [
     ⟨some 6, .nilrow 3 (.int .i64), [], none, []⟩])
   .ret)
   .skip))
  (.clean (.seq (.seq (.reg false [
    ⟨some 57, .mv, [.t 1], none, []⟩,
    ⟨some 58, .faddr 1 (.int .i64), [.t 8], none, []⟩,
    ⟨some 59, .load (.int .i64), [.t 58], none, []⟩,
    ⟨some 60, .iaddr (.st (.cons (.int .i64) (.cons (.int .i64) (.cons (.sl (.int .i64)) (.sl (.int .i64)))))), [.t 57, .t 59], none, []⟩,
    ⟨some 61, .faddr 1 (.int .i64), [.t 60], none, []⟩,
    ⟨some 62, .load (.int .i64), [.t 61], none, []⟩,
    ⟨some 63, .mv, [.t 2], none, []⟩,
    ⟨some 64, .bin .neq, [.t 62, .t 63], none, []⟩])
  (.cond (.t 64)
   (.seq (.reg false [
     ⟨some 6, .nilrow 3 (.int .i64), [], none, []⟩])
   .ret)
   .skip))
  (.clean (.seq (.reg false [
    ⟨some 65, .faddr 1 (.int .i64), [.t 8], none, []⟩,
    ⟨some 66, .load (.int .i64), [.t 65], none, []⟩,
    ⟨some 67, .bslice 3 (.int .i64) 1 [0], [.t 66], none, []⟩,
    ⟨some 68, .mv, [.t 7], none, []⟩,
    ⟨some 69, .append 3 (.int .i64) 8, [.t 67, .t 68], none, []⟩,
    ⟨some 7, .mv, [.t 69], none, []⟩])
  (.clean (.reg false [
    ⟨some 70, .mv, [.t 1], none, []⟩,
    ⟨some 71, .faddr 1 (.int .i64), [.t 8], none, []⟩,
    ⟨some 72, .load (.int .i64), [.t 71], none, []⟩,
    ⟨some 73, .iaddr (.st (.cons (.int .i64) (.cons (.int .i64) (.cons (.sl (.int .i64)) (.sl (.int .i64)))))), [.t 70, .t 72], none, []⟩,
    ⟨some 74, .faddr 0 (.int .i64), [.t 73], none, []⟩,
    ⟨some 75, .load (.int .i64), [.t 74], none, []⟩,
    ⟨some 2, .mv, [.t 75], none, []⟩])))))))))))))))
def x29_0d : List Nat := [2, 6, 7, 8]
def x29 : XF := ⟨76, [.tmp 6], [0, 1, 2, 6, 7, 8],
 (.seq (.reg false [
   ⟨some 6, .nilrow 3 (.int .i64), [], none, []⟩])
 (.seq (.reg false [
   ⟨some 7, .nilrow 3 (.int .i64), [], none, []⟩])
 (.block 0 (.loop x29_0))))⟩
/- 0=labels 1=arcs 2=to 6= 7=out 8=l -/
/-! tonneau/tonneauref10.Time -/
def x30 : XF := ⟨9, [.tmp 2], [0, 2],
 (.seq (.reg false [
   ⟨some 2, .mv, [.bool false], none, []⟩])
 (.seq (.reg false [
   ⟨some 3, .mv, [.t 0], none, []⟩,
   ⟨some 4, .bin .geq, [.t 3, .int .i64 0], none, []⟩,
   ⟨some 5, .mv, [.t 4], none, []⟩,
   ⟨some 6, .mv, [.t 0], some (2, 5, true), []⟩,
   ⟨some 7, .bin .leq, [.t 6, .int .i64 1048576], some (2, 5, true), []⟩,
   ⟨some 8, .pick, [.t 5, .t 7, .bool false], none, []⟩,
   ⟨some 2, .mv, [.t 8], none, []⟩])
 .ret))⟩
/- 0=t 2= -/
/-! tonneau/clock.Pass -/
def x31 : XF := ⟨15, [.tmp 6], [0, 1, 2, 3, 6],
 (.seq (.reg false [
   ⟨some 3, .box 45, [.t 0], none, []⟩,
   ⟨some 6, .mv, [.int .i64 0], none, []⟩])
 (.seq (.seq (.reg false [
   ⟨some 7, .load (.st (.cons (.int .i64) (.cons (.int .i64) (.cons (.sl (.int .i64)) (.sl (.int .i64)))))), [.t 3], none, []⟩,
   ⟨some 8, .mv, [.t 1], none, []⟩,
   ⟨some 9, .call 56, [.t 7, .t 8], none, []⟩,
   ⟨some 10, .not, [.t 9], none, []⟩])
 (.cond (.t 10)
  (.seq (.reg false [
    ⟨some 6, .mv, [.int .i64 (-1)], none, []⟩])
  .ret)
  .skip))
 (.clean (.seq (.reg false [
   ⟨some 11, .load (.st (.cons (.int .i64) (.cons (.int .i64) (.cons (.sl (.int .i64)) (.sl (.int .i64)))))), [.t 3], none, []⟩,
   ⟨some 12, .mv, [.t 1], none, []⟩,
   ⟨some 13, .mv, [.t 2], none, []⟩,
   ⟨some 14, .call 57, [.t 11, .t 12, .t 13], none, []⟩,
   ⟨some 6, .mv, [.t 14], none, []⟩])
 .ret))))⟩
/- 0=a 1=t 2=high 3=a 6= -/
/-! tonneau/tonneaulaw11.sooner -/
def x32 : XF := ⟨16, [.tmp 4], [0, 1, 4],
 (.seq (.reg false [
   ⟨some 4, .mv, [.bool false], none, []⟩])
 (.seq (.reg false [
   ⟨some 5, .mv, [.t 1], none, []⟩,
   ⟨some 6, .bin .lss, [.t 5, .int .i64 0], none, []⟩,
   ⟨some 7, .mv, [.t 6], none, []⟩,
   ⟨some 8, .mv, [.t 0], some (2, 7, false), []⟩,
   ⟨some 9, .bin .geq, [.t 8, .int .i64 0], some (2, 7, false), []⟩,
   ⟨some 10, .mv, [.t 9], some (2, 7, false), []⟩,
   ⟨some 11, .mv, [.t 0], some (5, 10, true), []⟩,
   ⟨some 12, .mv, [.t 1], some (5, 10, true), []⟩,
   ⟨some 13, .bin .leq, [.t 11, .t 12], some (5, 10, true), []⟩,
   ⟨some 14, .pick, [.t 10, .t 13, .bool false], some (2, 7, false), []⟩,
   ⟨some 15, .pick, [.t 7, .bool true, .t 14], none, []⟩,
   ⟨some 4, .mv, [.t 15], none, []⟩])
 .ret))⟩
/- 0=a 1=b 4= -/
/-! tonneau/clock.Right -/
def x37_0 : XC := (.seq (.reg false [
   ⟨some 29, .bin .lss, [.t 28, .t 27], none, []⟩])
 (.seq (.cond (.t 29)
  .skip
  (.exit 0))
 (.seq (.block 1 (.seq (.reg false [
    ⟨some 30, .mv, [.t 28], none, []⟩,
    ⟨some 31, .iaddr (.int .i64), [.t 26, .t 28], none, []⟩,
    ⟨some 32, .load (.int .i64), [.t 31], none, []⟩,
    ⟨some 3, .mv, [.t 30], none, []⟩,
    ⟨some 4, .mv, [.t 32], none, []⟩])
  (.seq (.reg false [
    ⟨some 33, .mv, [.t 4], none, []⟩,
    ⟨some 34, .bin .lss, [.t 33, .int .i64 0], none, []⟩,
    ⟨some 35, .mv, [.t 34], none, []⟩,
    ⟨some 36, .mv, [.t 4], some (2, 35, false), []⟩,
    ⟨some 37, .faddr 3 (.sl (.int .i64)), [.t 1], some (2, 35, false), []⟩,
    ⟨some 38, .load (.sl (.int .i64)), [.t 37], some (2, 35, false), []⟩,
    ⟨some 39, .mv, [.t 3], some (2, 35, false), []⟩,
    ⟨some 40, .iaddr (.int .i64), [.t 38, .t 39], some (2, 35, false), []⟩,
    ⟨some 41, .load (.int .i64), [.t 40], some (2, 35, false), []⟩,
    ⟨some 42, .bin .gtr, [.t 36, .t 41], some (2, 35, false), []⟩,
    ⟨some 43, .pick, [.t 35, .bool true, .t 42], none, []⟩,
    ⟨some 44, .mv, [.t 43], none, []⟩,
    ⟨some 45, .faddr 3 (.sl (.int .i64)), [.t 1], some (11, 44, false), []⟩,
    ⟨some 46, .load (.sl (.int .i64)), [.t 45], some (11, 44, false), []⟩,
    ⟨some 47, .mv, [.t 3], some (11, 44, false), []⟩,
    ⟨some 48, .iaddr (.int .i64), [.t 46, .t 47], some (11, 44, false), []⟩,
    ⟨some 49, .load (.int .i64), [.t 48], some (11, 44, false), []⟩,
    ⟨some 50, .bin .gtr, [.t 49, .int .i64 600], some (11, 44, false), []⟩,
    ⟨some 51, .pick, [.t 44, .bool true, .t 50], none, []⟩])
  (.cond (.t 51)
   (.seq (.reg false [
     ⟨some 2, .mv, [.bool false], none, []⟩])
   .ret)
   .skip))))
 (.reg false [
   ⟨some 52, .bin .add, [.t 28, .int .i64 1], none, []⟩,
   ⟨some 28, .mv, [.t 52], none, []⟩]))))
def x37_0d : List Nat := [2, 3, 4, 28]
def x37 : XF := ⟨53, [.tmp 2], [0, 1, 2, 3, 4, 26, 27, 28],
 (.seq (.reg false [
   ⟨some 1, .box 45, [.t 0], none, []⟩,
   ⟨some 2, .mv, [.bool false], none, []⟩])
 (.seq (.seq (.reg false [
   ⟨some 5, .faddr 0 (.int .i64), [.t 1], none, []⟩,
   ⟨some 6, .load (.int .i64), [.t 5], none, []⟩,
   ⟨some 7, .bin .lss, [.t 6, .int .i64 0], none, []⟩,
   ⟨some 8, .mv, [.t 7], none, []⟩,
   ⟨some 9, .faddr 1 (.int .i64), [.t 1], some (3, 8, false), []⟩,
   ⟨some 10, .load (.int .i64), [.t 9], some (3, 8, false), []⟩,
   ⟨some 11, .bin .lss, [.t 10, .int .i64 0], some (3, 8, false), []⟩,
   ⟨some 12, .pick, [.t 8, .bool true, .t 11], none, []⟩,
   ⟨some 13, .mv, [.t 12], none, []⟩,
   ⟨some 14, .faddr 2 (.sl (.int .i64)), [.t 1], some (8, 13, false), []⟩,
   ⟨some 15, .load (.sl (.int .i64)), [.t 14], some (8, 13, false), []⟩,
   ⟨some 16, .len false, [.t 15], some (8, 13, false), []⟩,
   ⟨some 17, .bin .neq, [.t 16, .int .i64 24], some (8, 13, false), []⟩,
   ⟨some 18, .pick, [.t 13, .bool true, .t 17], none, []⟩,
   ⟨some 19, .mv, [.t 18], none, []⟩,
   ⟨some 20, .faddr 3 (.sl (.int .i64)), [.t 1], some (14, 19, false), []⟩,
   ⟨some 21, .load (.sl (.int .i64)), [.t 20], some (14, 19, false), []⟩,
   ⟨some 22, .len false, [.t 21], some (14, 19, false), []⟩,
   ⟨some 23, .bin .neq, [.t 22, .int .i64 24], some (14, 19, false), []⟩,
   ⟨some 24, .pick, [.t 19, .bool true, .t 23], none, []⟩])
 (.cond (.t 24)
  (.seq (.reg false [
    ⟨some 2, .mv, [.bool false], none, []⟩])
  .ret)
  .skip))
 (.clean (.seq (.seq (.reg false [
   ⟨some 25, .faddr 2 (.sl (.int .i64)), [.t 1], none, []⟩,
   ⟨some 26, .load (.sl (.int .i64)), [.t 25], none, []⟩,
   ⟨some 27, .len false, [.t 26], none, []⟩,
   ⟨some 28, .mv, [.int .i64 0], none, []⟩])
 (.block 0 (.loop x37_0)))
 (.seq (.reg false [
   ⟨some 2, .mv, [.bool true], none, []⟩])
 .ret)))))⟩
/- 0=a 1=a 2= 3=h 4=low 26= 27= 28= -/
/-! tonneau/tonneauref10.Right -/
def x40_0 : XC := (.seq (.seq (.reg false [
   ⟨some 24, .mv, [.t 3], none, []⟩,
   ⟨some 25, .bin .lss, [.t 24, .int .i64 24], none, []⟩])
 (.cond (.t 25)
  .skip
  (.exit 0)))
 (.seq (.block 1 (.seq (.reg true [
    ⟨some 28, .faddr 2 (.sl (.int .i64)), [.t 1], none, []⟩,
    ⟨some 29, .load (.sl (.int .i64)), [.t 28], none, [0]⟩,
    ⟨some 30, .mv, [.t 3], none, []⟩,
    ⟨some 31, .iaddr (.int .i64), [.t 29, .t 30], none, [1, 0, 2]⟩,
    ⟨some 32, .load (.int .i64), [.t 31], none, [3, 1, 0, 2]⟩,
    ⟨some 33, .bin .lss, [.t 32, .int .i64 0], none, [4, 3, 1, 0, 2]⟩,
    ⟨some 34, .mv, [.t 33], none, [5, 4, 3, 1, 0, 2]⟩,
    ⟨some 35, .faddr 2 (.sl (.int .i64)), [.t 1], some (6, 34, false), [6, 5, 4, 3, 1, 0, 2]⟩,
    ⟨some 36, .load (.sl (.int .i64)), [.t 35], some (6, 34, false), [7, 6, 5, 4, 3, 1, 0, 2]⟩,
    ⟨some 37, .mv, [.t 3], some (6, 34, false), [6, 5, 4, 3, 1, 0, 2]⟩,
    ⟨some 38, .iaddr (.int .i64), [.t 36, .t 37], some (6, 34, false), [8, 7, 6, 5, 4, 3, 1, 0, 2, 9]⟩,
    ⟨some 39, .load (.int .i64), [.t 38], some (6, 34, false), [10, 8, 7, 6, 5, 4, 3, 1, 0, 2, 9]⟩,
    ⟨some 40, .faddr 3 (.sl (.int .i64)), [.t 1], some (6, 34, false), [6, 5, 4, 3, 1, 0, 2]⟩,
    ⟨some 41, .load (.sl (.int .i64)), [.t 40], some (6, 34, false), [12, 6, 5, 4, 3, 1, 0, 2]⟩,
    ⟨some 42, .mv, [.t 3], some (6, 34, false), [6, 5, 4, 3, 1, 0, 2]⟩,
    ⟨some 43, .iaddr (.int .i64), [.t 41, .t 42], some (6, 34, false), [13, 12, 6, 5, 4, 3, 1, 0, 2, 14]⟩,
    ⟨some 44, .load (.int .i64), [.t 43], some (6, 34, false), [15, 13, 12, 6, 5, 4, 3, 1, 0, 2, 14]⟩,
    ⟨some 45, .bin .gtr, [.t 39, .t 44], some (6, 34, false), [11, 10, 8, 7, 6, 5, 4, 3, 1, 0, 2, 9, 16, 15, 13, 12, 14]⟩,
    ⟨some 46, .pick, [.t 34, .bool true, .t 45], none, [6, 5, 4, 3, 1, 0, 2, 17, 11, 10, 8, 7, 9, 16, 15, 13, 12, 14]⟩,
    ⟨some 47, .mv, [.t 46], none, [18, 6, 5, 4, 3, 1, 0, 2, 17, 11, 10, 8, 7, 9, 16, 15, 13, 12, 14]⟩,
    ⟨some 48, .faddr 3 (.sl (.int .i64)), [.t 1], some (19, 47, false), [19, 18, 6, 5, 4, 3, 1, 0, 2, 17, 11, 10, 8, 7, 9, 16, 15, 13, 12, 14]⟩,
    ⟨some 49, .load (.sl (.int .i64)), [.t 48], some (19, 47, false), [20, 19, 18, 6, 5, 4, 3, 1, 0, 2, 17, 11, 10, 8, 7, 9, 16, 15, 13, 12, 14]⟩,
    ⟨some 50, .mv, [.t 3], some (19, 47, false), [19, 18, 6, 5, 4, 3, 1, 0, 2, 17, 11, 10, 8, 7, 9, 16, 15, 13, 12, 14]⟩,
    ⟨some 51, .iaddr (.int .i64), [.t 49, .t 50], some (19, 47, false), [21, 20, 19, 18, 6, 5, 4, 3, 1, 0, 2, 17, 11, 10, 8, 7, 9, 16, 15, 13, 12, 14, 22]⟩,
    ⟨some 52, .load (.int .i64), [.t 51], some (19, 47, false), [23, 21, 20, 19, 18, 6, 5, 4, 3, 1, 0, 2, 17, 11, 10, 8, 7, 9, 16, 15, 13, 12, 14, 22]⟩,
    ⟨some 53, .bin .gtr, [.t 52, .int .i64 600], some (19, 47, false), [24, 23, 21, 20, 19, 18, 6, 5, 4, 3, 1, 0, 2, 17, 11, 10, 8, 7, 9, 16, 15, 13, 12, 14, 22]⟩,
    ⟨some 54, .pick, [.t 47, .bool true, .t 53], none, [19, 18, 6, 5, 4, 3, 1, 0, 2, 17, 11, 10, 8, 7, 9, 16, 15, 13, 12, 14, 25, 24, 23, 21, 20, 22]⟩])
  (.cond (.t 54)
   (.seq (.reg false [
     ⟨some 2, .mv, [.bool false], none, []⟩])
   .ret)
   .skip)))
 (.clean (.reg false [
   ⟨some 26, .mv, [.t 3], none, []⟩,
   ⟨some 27, .bin .add, [.t 26, .int .i64 1], none, []⟩,
   ⟨some 3, .mv, [.t 27], none, []⟩]))))
def x40_0d : List Nat := [2, 3]
def x40 : XF := ⟨55, [.tmp 2], [0, 1, 2, 3],
 (.seq (.reg false [
   ⟨some 1, .box 45, [.t 0], none, []⟩,
   ⟨some 2, .mv, [.bool false], none, []⟩])
 (.seq (.seq (.reg false [
   ⟨some 4, .faddr 0 (.int .i64), [.t 1], none, []⟩,
   ⟨some 5, .load (.int .i64), [.t 4], none, []⟩,
   ⟨some 6, .bin .lss, [.t 5, .int .i64 0], none, []⟩,
   ⟨some 7, .mv, [.t 6], none, []⟩,
   ⟨some 8, .faddr 1 (.int .i64), [.t 1], some (3, 7, false), []⟩,
   ⟨some 9, .load (.int .i64), [.t 8], some (3, 7, false), []⟩,
   ⟨some 10, .bin .lss, [.t 9, .int .i64 0], some (3, 7, false), []⟩,
   ⟨some 11, .pick, [.t 7, .bool true, .t 10], none, []⟩,
   ⟨some 12, .mv, [.t 11], none, []⟩,
   ⟨some 13, .faddr 2 (.sl (.int .i64)), [.t 1], some (8, 12, false), []⟩,
   ⟨some 14, .load (.sl (.int .i64)), [.t 13], some (8, 12, false), []⟩,
   ⟨some 15, .len false, [.t 14], some (8, 12, false), []⟩,
   ⟨some 16, .bin .neq, [.t 15, .int .i64 24], some (8, 12, false), []⟩,
   ⟨some 17, .pick, [.t 12, .bool true, .t 16], none, []⟩,
   ⟨some 18, .mv, [.t 17], none, []⟩,
   ⟨some 19, .faddr 3 (.sl (.int .i64)), [.t 1], some (14, 18, false), []⟩,
   ⟨some 20, .load (.sl (.int .i64)), [.t 19], some (14, 18, false), []⟩,
   ⟨some 21, .len false, [.t 20], some (14, 18, false), []⟩,
   ⟨some 22, .bin .neq, [.t 21, .int .i64 24], some (14, 18, false), []⟩,
   ⟨some 23, .pick, [.t 18, .bool true, .t 22], none, []⟩])
 (.cond (.t 23)
  (.seq (.reg false [
    ⟨some 2, .mv, [.bool false], none, []⟩])
  .ret)
  .skip))
 (.clean (.seq (.seq (.reg false [
   ⟨some 3, .mv, [.int .i64 0], none, []⟩])
 (.block 0 (.loop x40_0)))
 (.seq (.reg false [
   ⟨some 2, .mv, [.bool true], none, []⟩])
 .ret)))))⟩
/- 0=a 1=a 2= 3=h -/
/-! tonneau/tonneauref10.Pass -/
def x41_0 : XC := (.seq (.seq (.reg false [
   ⟨some 21, .mv, [.t 9], none, []⟩,
   ⟨some 22, .mv, [.t 8], none, []⟩,
   ⟨some 23, .bin .leq, [.t 21, .t 22], none, []⟩,
   ⟨some 24, .mv, [.t 23], none, []⟩,
   ⟨some 25, .mv, [.t 9], some (3, 24, true), []⟩,
   ⟨some 26, .bin .leq, [.t 25, .int .i64 1048576], some (3, 24, true), []⟩,
   ⟨some 27, .pick, [.t 24, .t 26, .bool false], none, []⟩])
 (.cond (.t 27)
  .skip
  (.exit 0)))
 (.clean (.seq (.block 1 (.reg false [
    ⟨some 30, .mv, [.t 8], none, []⟩,
    ⟨some 31, .mv, [.t 9], none, []⟩,
    ⟨some 32, .load (.st (.cons (.int .i64) (.cons (.int .i64) (.cons (.sl (.int .i64)) (.sl (.int .i64)))))), [.t 3], none, []⟩,
    ⟨some 33, .mv, [.t 9], none, []⟩,
    ⟨some 34, .mv, [.t 2], none, []⟩,
    ⟨some 35, .call 59, [.t 32, .t 33, .t 34], none, []⟩,
    ⟨some 36, .bin .add, [.t 31, .t 35], none, []⟩,
    ⟨some 37, .min, [.t 30, .t 36], none, []⟩,
    ⟨some 8, .mv, [.t 37], none, []⟩]))
 (.clean (.reg false [
   ⟨some 28, .mv, [.t 9], none, []⟩,
   ⟨some 29, .bin .add, [.t 28, .int .i64 1], none, []⟩,
   ⟨some 9, .mv, [.t 29], none, []⟩])))))
def x41_0d : List Nat := [8, 9]
def x41 : XF := ⟨39, [.tmp 6], [0, 1, 2, 3, 6, 7, 8, 9],
 (.seq (.reg false [
   ⟨some 3, .box 45, [.t 0], none, []⟩,
   ⟨some 6, .mv, [.int .i64 0], none, []⟩])
 (.seq (.reg false [
   ⟨some 10, .load (.st (.cons (.int .i64) (.cons (.int .i64) (.cons (.sl (.int .i64)) (.sl (.int .i64)))))), [.t 3], none, []⟩,
   ⟨some 11, .mv, [.t 1], none, []⟩,
   ⟨some 12, .mv, [.t 2], none, []⟩,
   ⟨some 13, .call 59, [.t 10, .t 11, .t 12], none, []⟩,
   ⟨some 7, .mv, [.t 13], none, []⟩])
 (.seq (.seq (.reg false [
   ⟨some 14, .mv, [.t 7], none, []⟩,
   ⟨some 15, .bin .lss, [.t 14, .int .i64 0], none, []⟩])
 (.cond (.t 15)
  (.seq (.reg false [
    ⟨some 6, .mv, [.int .i64 (-1)], none, []⟩])
  .ret)
  .skip))
 (.seq (.reg false [
   ⟨some 16, .mv, [.t 1], none, []⟩,
   ⟨some 17, .mv, [.t 7], none, []⟩,
   ⟨some 18, .bin .add, [.t 16, .t 17], none, []⟩,
   ⟨some 8, .mv, [.t 18], none, []⟩])
 (.seq (.seq (.reg false [
   ⟨some 19, .mv, [.t 1], none, []⟩,
   ⟨some 20, .bin .add, [.t 19, .int .i64 1], none, []⟩,
   ⟨some 9, .mv, [.t 20], none, []⟩])
 (.block 0 (.loop x41_0)))
 (.seq (.reg false [
   ⟨some 38, .mv, [.t 8], none, []⟩,
   ⟨some 6, .mv, [.t 38], none, []⟩])
 .ret))))))⟩
/- 0=a 1=t 2=high 3=a 6= 7=first 8=best 9=u -/
/-! tonneau/tonneaulaw11.some -/
def x45 : XF := ⟨11, [.tmp 0], [0],
 (.seq (.reg false [
   ⟨some 0, .nilrow 45 (.st (.cons (.int .i64) (.cons (.int .i64) (.cons (.sl (.int .i64)) (.sl (.int .i64)))))), [], none, []⟩])
 (.seq (.reg false [
   ⟨some 1, .call 62, [.int .i64 10, .int .i64 5], none, []⟩,
   ⟨some 2, .call 62, [.int .i64 20, .int .i64 5], none, []⟩,
   ⟨some 3, .build (.st (.cons (.int .i64) (.cons (.int .i64) (.cons (.sl (.int .i64)) (.sl (.int .i64)))))) [(0, (.int .i64)), (1, (.int .i64)), (2, (.sl (.int .i64))), (3, (.sl (.int .i64)))], [.int .i64 0, .int .i64 1, .t 1, .t 2], none, []⟩,
   ⟨some 4, .call 62, [.int .i64 10, .int .i64 10], none, []⟩,
   ⟨some 5, .call 62, [.int .i64 10, .int .i64 10], none, []⟩,
   ⟨some 6, .build (.st (.cons (.int .i64) (.cons (.int .i64) (.cons (.sl (.int .i64)) (.sl (.int .i64)))))) [(0, (.int .i64)), (1, (.int .i64)), (2, (.sl (.int .i64))), (3, (.sl (.int .i64)))], [.int .i64 1, .int .i64 2, .t 4, .t 5], none, []⟩,
   ⟨some 7, .call 62, [.int .i64 40, .int .i64 40], none, []⟩,
   ⟨some 8, .call 62, [.int .i64 40, .int .i64 40], none, []⟩,
   ⟨some 9, .build (.st (.cons (.int .i64) (.cons (.int .i64) (.cons (.sl (.int .i64)) (.sl (.int .i64)))))) [(0, (.int .i64)), (1, (.int .i64)), (2, (.sl (.int .i64))), (3, (.sl (.int .i64)))], [.int .i64 0, .int .i64 2, .t 7, .t 8], none, []⟩,
   ⟨some 10, .bslice 45 (.st (.cons (.int .i64) (.cons (.int .i64) (.cons (.sl (.int .i64)) (.sl (.int .i64)))))) 3 [0, 1, 2], [.t 3, .t 6, .t 9], none, []⟩,
   ⟨some 0, .mv, [.t 10], none, []⟩])
 .ret))⟩
/- 0= -/
/-! tonneau/road.isTime -/
def x46 : XF := ⟨9, [.tmp 2], [0, 2],
 (.seq (.reg false [
   ⟨some 2, .mv, [.bool false], none, []⟩])
 (.seq (.reg false [
   ⟨some 3, .mv, [.t 0], none, []⟩,
   ⟨some 4, .bin .geq, [.t 3, .int .i64 0], none, []⟩,
   ⟨some 5, .mv, [.t 4], none, []⟩,
   ⟨some 6, .mv, [.t 0], some (2, 5, true), []⟩,
   ⟨some 7, .bin .leq, [.t 6, .int .i64 1048576], some (2, 5, true), []⟩,
   ⟨some 8, .pick, [.t 5, .t 7, .bool false], none, []⟩,
   ⟨some 2, .mv, [.t 8], none, []⟩])
 .ret))⟩
/- 0=t 2= -/
/-! tonneau/tonneauref11.none -/
def x50_0 : XC := (.seq (.seq (.reg false [
   ⟨some 5, .mv, [.t 4], none, []⟩,
   ⟨some 6, .mv, [.t 0], none, []⟩,
   ⟨some 7, .bin .lss, [.t 5, .t 6], none, []⟩])
 (.cond (.t 7)
  .skip
  (.exit 0)))
 (.seq (.block 1 (.reg false [
    ⟨some 10, .mv, [.t 3], none, []⟩,
    ⟨some 11, .build (.st (.cons (.int .i64) (.int .i64))) [(0, (.int .i64)), (1, (.int .i64))], [.int .i64 (-1), .int .i64 (-1)], none, []⟩,
    ⟨some 12, .bslice 43 (.st (.cons (.int .i64) (.int .i64))) 1 [0], [.t 11], none, []⟩,
    ⟨some 13, .append 43 (.st (.cons (.int .i64) (.int .i64))) 16, [.t 10, .t 12], none, []⟩,
    ⟨some 3, .mv, [.t 13], none, []⟩]))
 (.reg false [
   ⟨some 8, .mv, [.t 4], none, []⟩,
   ⟨some 9, .bin .add, [.t 8, .int .i64 1], none, []⟩,
   ⟨some 4, .mv, [.t 9], none, []⟩])))
def x50_0d : List Nat := [3, 4]
def x50 : XF := ⟨15, [.tmp 2], [0, 2, 3, 4],
 (.seq (.reg false [
   ⟨some 2, .nilrow 43 (.st (.cons (.int .i64) (.int .i64))), [], none, []⟩])
 (.seq (.reg false [
   ⟨some 3, .nilrow 43 (.st (.cons (.int .i64) (.int .i64))), [], none, []⟩])
 (.seq (.seq (.reg false [
   ⟨some 4, .mv, [.int .i64 0], none, []⟩])
 (.block 0 (.loop x50_0)))
 (.seq (.reg false [
   ⟨some 14, .mv, [.t 3], none, []⟩,
   ⟨some 2, .mv, [.t 14], none, []⟩])
 .ret))))⟩
/- 0=n 2= 3=out 4=i -/
/-! tonneau/clock.Last -/
def x51_0 : XC := (.seq (.seq (.reg false [
   ⟨some 19, .mv, [.t 7], none, []⟩,
   ⟨some 20, .mv, [.t 8], none, []⟩,
   ⟨some 21, .bin .lss, [.t 19, .t 20], none, []⟩])
 (.cond (.t 21)
  .skip
  (.exit 0)))
 (.block 1 (.seq (.reg false [
    ⟨some 22, .mv, [.t 7], none, []⟩,
    ⟨some 23, .mv, [.t 8], none, []⟩,
    ⟨some 24, .bin .add, [.t 22, .t 23], none, []⟩,
    ⟨some 25, .bin .add, [.t 24, .int .i64 1], none, []⟩,
    ⟨some 26, .bin .quo, [.t 25, .int .i64 2], none, []⟩,
    ⟨some 9, .mv, [.t 26], none, []⟩])
  (.clean (.seq (.reg false [
    ⟨some 27, .load (.st (.cons (.int .i64) (.cons (.int .i64) (.cons (.sl (.int .i64)) (.sl (.int .i64)))))), [.t 3], none, []⟩,
    ⟨some 28, .mv, [.t 9], none, []⟩,
    ⟨some 29, .mv, [.t 2], none, []⟩,
    ⟨some 30, .call 57, [.t 27, .t 28, .t 29], none, []⟩,
    ⟨some 31, .mv, [.t 1], none, []⟩,
    ⟨some 32, .bin .leq, [.t 30, .t 31], none, []⟩])
  (.cond (.t 32)
   (.reg false [
     ⟨some 33, .mv, [.t 9], none, []⟩,
     ⟨some 7, .mv, [.t 33], none, []⟩])
   (.reg false [
     ⟨some 34, .mv, [.t 9], none, []⟩,
     ⟨some 35, .bin .sub, [.t 34, .int .i64 1], none, []⟩,
     ⟨some 8, .mv, [.t 35], none, []⟩])))))))
def x51_0d : List Nat := [7, 8, 9]
def x51 : XF := ⟨37, [.tmp 6], [0, 1, 2, 3, 6, 7, 8, 9],
 (.seq (.reg false [
   ⟨some 3, .box 45, [.t 0], none, []⟩,
   ⟨some 6, .mv, [.int .i64 0], none, []⟩])
 (.seq (.seq (.reg false [
   ⟨some 10, .mv, [.t 1], none, []⟩,
   ⟨some 11, .bin .lss, [.t 10, .int .i64 0], none, []⟩,
   ⟨some 12, .mv, [.t 11], none, []⟩,
   ⟨some 13, .load (.st (.cons (.int .i64) (.cons (.int .i64) (.cons (.sl (.int .i64)) (.sl (.int .i64)))))), [.t 3], some (2, 12, false), []⟩,
   ⟨some 14, .call 37, [.t 13], some (2, 12, false), []⟩,
   ⟨some 15, .not, [.t 14], some (2, 12, false), []⟩,
   ⟨some 16, .pick, [.t 12, .bool true, .t 15], none, []⟩])
 (.cond (.t 16)
  (.seq (.reg false [
    ⟨some 6, .mv, [.int .i64 (-1)], none, []⟩])
  .ret)
  .skip))
 (.clean (.seq (.reg false [
   ⟨some 17, .mv, [.t 1], none, []⟩,
   ⟨some 18, .min, [.t 17, .int .i64 1048576], none, []⟩,
   ⟨some 7, .mv, [.int .i64 (-1)], none, []⟩,
   ⟨some 8, .mv, [.t 18], none, []⟩])
 (.seq (.block 0 (.loop x51_0))
 (.seq (.reg false [
   ⟨some 36, .mv, [.t 7], none, []⟩,
   ⟨some 6, .mv, [.t 36], none, []⟩])
 .ret))))))⟩
/- 0=a 1=by 2=high 3=a 6= 7=low 8=up 9=mid -/
/-! tonneau/tonneauref10.Last -/
def x52_0 : XC := (.seq (.seq (.reg false [
   ⟨some 13, .mv, [.t 7], none, []⟩,
   ⟨some 14, .bin .geq, [.t 13, .int .i64 0], none, []⟩])
 (.cond (.t 14)
  .skip
  (.exit 0)))
 (.seq (.block 1 (.seq (.reg false [
    ⟨some 17, .load (.st (.cons (.int .i64) (.cons (.int .i64) (.cons (.sl (.int .i64)) (.sl (.int .i64)))))), [.t 3], none, []⟩,
    ⟨some 18, .mv, [.t 7], none, []⟩,
    ⟨some 19, .mv, [.t 2], none, []⟩,
    ⟨some 20, .call 41, [.t 17, .t 18, .t 19], none, []⟩,
    ⟨some 21, .mv, [.t 1], none, []⟩,
    ⟨some 22, .bin .leq, [.t 20, .t 21], none, []⟩])
  (.cond (.t 22)
   (.seq (.reg false [
     ⟨some 23, .mv, [.t 7], none, []⟩,
     ⟨some 6, .mv, [.t 23], none, []⟩])
   .ret)
   .skip)))
 (.clean (.reg false [
   ⟨some 15, .mv, [.t 7], none, []⟩,
   ⟨some 16, .bin .sub, [.t 15, .int .i64 1], none, []⟩,
   ⟨some 7, .mv, [.t 16], none, []⟩]))))
def x52_0d : List Nat := [6, 7]
def x52 : XF := ⟨24, [.tmp 6], [0, 1, 2, 3, 6, 7],
 (.seq (.reg false [
   ⟨some 3, .box 45, [.t 0], none, []⟩,
   ⟨some 6, .mv, [.int .i64 0], none, []⟩])
 (.seq (.seq (.reg false [
   ⟨some 8, .load (.st (.cons (.int .i64) (.cons (.int .i64) (.cons (.sl (.int .i64)) (.sl (.int .i64)))))), [.t 3], none, []⟩,
   ⟨some 9, .call 40, [.t 8], none, []⟩,
   ⟨some 10, .not, [.t 9], none, []⟩])
 (.cond (.t 10)
  (.seq (.reg false [
    ⟨some 6, .mv, [.int .i64 (-1)], none, []⟩])
  .ret)
  .skip))
 (.seq (.seq (.reg false [
   ⟨some 11, .mv, [.t 1], none, []⟩,
   ⟨some 12, .min, [.t 11, .int .i64 1048576], none, []⟩,
   ⟨some 7, .mv, [.t 12], none, []⟩])
 (.block 0 (.loop x52_0)))
 (.seq (.reg false [
   ⟨some 6, .mv, [.int .i64 (-1)], none, []⟩])
 .ret))))⟩
/- 0=a 1=by 2=high 3=a 6= 7=t -/
/-! tonneau/road.Right$1 -/
def x53 : XF := ⟨19, [.tmp 3], [0, 1, 2, 3],
 (.seq (.reg false [
   ⟨some 2, .box 45, [.t 0], none, []⟩,
   ⟨some 3, .mv, [.bool false], none, []⟩])
 (.seq (.reg false [
   ⟨some 4, .load (.st (.cons (.int .i64) (.cons (.int .i64) (.cons (.sl (.int .i64)) (.sl (.int .i64)))))), [.t 2], none, []⟩,
   ⟨some 5, .call 37, [.t 4], none, []⟩,
   ⟨some 6, .not, [.t 5], none, []⟩,
   ⟨some 7, .mv, [.t 6], none, []⟩,
   ⟨some 8, .faddr 0 (.int .i64), [.t 2], some (3, 7, false), []⟩,
   ⟨some 9, .load (.int .i64), [.t 8], some (3, 7, false), []⟩,
   ⟨some 10, .load (.int .i64), [.t 1], some (3, 7, false), []⟩,
   ⟨some 11, .bin .geq, [.t 9, .t 10], some (3, 7, false), []⟩,
   ⟨some 12, .pick, [.t 7, .bool true, .t 11], none, []⟩,
   ⟨some 13, .mv, [.t 12], none, []⟩,
   ⟨some 14, .faddr 1 (.int .i64), [.t 2], some (9, 13, false), []⟩,
   ⟨some 15, .load (.int .i64), [.t 14], some (9, 13, false), []⟩,
   ⟨some 16, .load (.int .i64), [.t 1], some (9, 13, false), []⟩,
   ⟨some 17, .bin .geq, [.t 15, .t 16], some (9, 13, false), []⟩,
   ⟨some 18, .pick, [.t 13, .bool true, .t 17], none, []⟩,
   ⟨some 3, .mv, [.t 18], none, []⟩])
 .ret))⟩
/- 0=a 1= 2=a 3= -/
/-! slices.ContainsFunc[[]tonneau/api.Arc,tonneau/api.Arc] -/
def x54 : XF := ⟨9, [.tmp 4], [0, 1, 4],
 (.seq (.reg false [
   ⟨some 4, .mv, [.bool false], none, []⟩])
 (.seq (.reg false [
   ⟨some 5, .mv, [.t 0], none, []⟩,
   ⟨some 6, .mv, [.t 1], none, []⟩,
   ⟨some 7, .call 65, [.t 5, .t 6], none, []⟩,
   ⟨some 8, .bin .geq, [.t 7, .int .i64 0], none, []⟩,
   ⟨some 4, .mv, [.t 8], none, []⟩])
 .ret))⟩
/- 0=s 1=f 4= -/
/-! tonneau/clock.valid -/
def x56 : XF := ⟨15, [.tmp 4], [0, 1, 2, 4],
 (.seq (.reg false [
   ⟨some 2, .box 45, [.t 0], none, []⟩,
   ⟨some 4, .mv, [.bool false], none, []⟩])
 (.seq (.reg false [
   ⟨some 5, .mv, [.t 1], none, []⟩,
   ⟨some 6, .bin .geq, [.t 5, .int .i64 0], none, []⟩,
   ⟨some 7, .mv, [.t 6], none, []⟩,
   ⟨some 8, .mv, [.t 1], some (2, 7, true), []⟩,
   ⟨some 9, .bin .leq, [.t 8, .int .i64 1048576], some (2, 7, true), []⟩,
   ⟨some 10, .pick, [.t 7, .t 9, .bool false], none, []⟩,
   ⟨some 11, .mv, [.t 10], none, []⟩,
   ⟨some 12, .load (.st (.cons (.int .i64) (.cons (.int .i64) (.cons (.sl (.int .i64)) (.sl (.int .i64)))))), [.t 2], some (6, 11, true), []⟩,
   ⟨some 13, .call 37, [.t 12], some (6, 11, true), []⟩,
   ⟨some 14, .pick, [.t 11, .t 13, .bool false], none, []⟩,
   ⟨some 4, .mv, [.t 14], none, []⟩])
 .ret))⟩
/- 0=a 1=t 2=a 4= -/
/-! tonneau/clock.arrival -/
def x57_0 : XC := (.seq (.seq (.reg false [
   ⟨some 19, .mv, [.t 8], none, []⟩,
   ⟨some 20, .mv, [.t 7], none, []⟩,
   ⟨some 21, .bin .lss, [.t 19, .t 20], none, []⟩,
   ⟨some 22, .mv, [.t 21], none, []⟩,
   ⟨some 23, .mv, [.t 8], some (3, 22, true), []⟩,
   ⟨some 24, .bin .leq, [.t 23, .int .i64 1048576], some (3, 22, true), []⟩,
   ⟨some 25, .pick, [.t 22, .t 24, .bool false], none, []⟩])
 (.cond (.t 25)
  .skip
  (.exit 0)))
 (.clean (.seq (.block 1 (.reg false [
    ⟨some 28, .mv, [.t 7], none, []⟩,
    ⟨some 29, .mv, [.t 8], none, []⟩,
    ⟨some 30, .load (.st (.cons (.int .i64) (.cons (.int .i64) (.cons (.sl (.int .i64)) (.sl (.int .i64)))))), [.t 3], none, []⟩,
    ⟨some 31, .mv, [.t 8], none, []⟩,
    ⟨some 32, .mv, [.t 2], none, []⟩,
    ⟨some 33, .call 66, [.t 30, .t 31, .t 32], none, []⟩,
    ⟨some 34, .bin .add, [.t 29, .t 33], none, []⟩,
    ⟨some 35, .min, [.t 28, .t 34], none, []⟩,
    ⟨some 7, .mv, [.t 35], none, []⟩]))
 (.clean (.reg false [
   ⟨some 26, .mv, [.t 8], none, []⟩,
   ⟨some 27, .bin .add, [.t 26, .int .i64 60], none, []⟩,
   ⟨some 8, .mv, [.t 27], none, []⟩])))))
def x57_0d : List Nat := [7, 8]
def x57 : XF := ⟨37, [.tmp 6], [0, 1, 2, 3, 6, 7, 8],
 (.seq (.reg false [
   ⟨some 3, .box 45, [.t 0], none, []⟩,
   ⟨some 6, .mv, [.int .i64 0], none, []⟩])
 (.seq (.reg false [
   ⟨some 9, .mv, [.t 1], none, []⟩,
   ⟨some 10, .load (.st (.cons (.int .i64) (.cons (.int .i64) (.cons (.sl (.int .i64)) (.sl (.int .i64)))))), [.t 3], none, []⟩,
   ⟨some 11, .mv, [.t 1], none, []⟩,
   ⟨some 12, .mv, [.t 2], none, []⟩,
   ⟨some 13, .call 66, [.t 10, .t 11, .t 12], none, []⟩,
   ⟨some 14, .bin .add, [.t 9, .t 13], none, []⟩,
   ⟨some 7, .mv, [.t 14], none, []⟩])
 (.clean (.seq (.seq (.reg false [
   ⟨some 15, .mv, [.t 1], none, []⟩,
   ⟨some 16, .bin .quo, [.t 15, .int .i64 60], none, []⟩,
   ⟨some 17, .bin .add, [.t 16, .int .i64 1], none, []⟩,
   ⟨some 18, .bin .mul, [.t 17, .int .i64 60], none, []⟩,
   ⟨some 8, .mv, [.t 18], none, []⟩])
 (.block 0 (.loop x57_0)))
 (.seq (.reg false [
   ⟨some 36, .mv, [.t 7], none, []⟩,
   ⟨some 6, .mv, [.t 36], none, []⟩])
 .ret)))))⟩
/- 0=a 1=t 2=high 3=a 6= 7=best 8=u -/
/-! tonneau/tonneauref10.Took -/
def x59 : XF := ⟨28, [.tmp 6], [0, 1, 2, 3, 6],
 (.seq (.reg false [
   ⟨some 3, .box 45, [.t 0], none, []⟩,
   ⟨some 6, .mv, [.int .i64 0], none, []⟩])
 (.seq (.seq (.reg false [
   ⟨some 7, .load (.st (.cons (.int .i64) (.cons (.int .i64) (.cons (.sl (.int .i64)) (.sl (.int .i64)))))), [.t 3], none, []⟩,
   ⟨some 8, .call 40, [.t 7], none, []⟩,
   ⟨some 9, .not, [.t 8], none, []⟩,
   ⟨some 10, .mv, [.t 9], none, []⟩,
   ⟨some 11, .mv, [.t 1], some (3, 10, false), []⟩,
   ⟨some 12, .call 30, [.t 11], some (3, 10, false), []⟩,
   ⟨some 13, .not, [.t 12], some (3, 10, false), []⟩,
   ⟨some 14, .pick, [.t 10, .bool true, .t 13], none, []⟩])
 (.cond (.t 14)
  (.seq (.reg false [
    ⟨some 6, .mv, [.int .i64 (-1)], none, []⟩])
  .ret)
  .skip))
 (.clean (.seq (.seq (.reg false [
   ⟨some 15, .mv, [.t 2], none, []⟩])
 (.cond (.t 15)
  (.seq (.reg true [
    ⟨some 16, .faddr 3 (.sl (.int .i64)), [.t 3], none, []⟩,
    ⟨some 17, .load (.sl (.int .i64)), [.t 16], none, [0]⟩,
    ⟨some 18, .mv, [.t 1], none, []⟩,
    ⟨some 19, .call 67, [.t 18], none, [2]⟩,
    ⟨some 20, .iaddr (.int .i64), [.t 17, .t 19], none, [1, 0, 3, 2]⟩,
    ⟨some 21, .load (.int .i64), [.t 20], none, [4, 1, 0, 3, 2]⟩,
    ⟨some 6, .mv, [.t 21], none, [5, 4, 1, 0, 3, 2]⟩])
  .ret)
  .skip))
 (.clean (.seq (.reg true [
   ⟨some 22, .faddr 2 (.sl (.int .i64)), [.t 3], none, []⟩,
   ⟨some 23, .load (.sl (.int .i64)), [.t 22], none, [0]⟩,
   ⟨some 24, .mv, [.t 1], none, []⟩,
   ⟨some 25, .call 67, [.t 24], none, [2]⟩,
   ⟨some 26, .iaddr (.int .i64), [.t 23, .t 25], none, [1, 0, 3, 2]⟩,
   ⟨some 27, .load (.int .i64), [.t 26], none, [4, 1, 0, 3, 2]⟩,
   ⟨some 6, .mv, [.t 27], none, [5, 4, 1, 0, 3, 2]⟩])
 .ret))))))⟩
/- 0=a 1=t 2=high 3=a 6= -/
/-! tonneau/tonneaulaw11.hours -/
def x62_0 : XC := (.seq (.seq (.reg false [
   ⟨some 9, .mv, [.t 6], none, []⟩,
   ⟨some 10, .bin .lss, [.t 9, .int .i64 24], none, []⟩])
 (.cond (.t 10)
  .skip
  (.exit 0)))
 (.seq (.block 1 (.reg false [
    ⟨some 13, .mv, [.t 5], none, []⟩,
    ⟨some 14, .mv, [.t 1], none, []⟩,
    ⟨some 15, .bslice 3 (.int .i64) 1 [0], [.t 14], none, []⟩,
    ⟨some 16, .append 3 (.int .i64) 8, [.t 13, .t 15], none, []⟩,
    ⟨some 5, .mv, [.t 16], none, []⟩]))
 (.reg false [
   ⟨some 11, .mv, [.t 6], none, []⟩,
   ⟨some 12, .bin .add, [.t 11, .int .i64 1], none, []⟩,
   ⟨some 6, .mv, [.t 12], none, []⟩])))
def x62_0d : List Nat := [5, 6]
def x62 : XF := ⟨18, [.tmp 4], [0, 1, 4, 5, 6],
 (.seq (.reg false [
   ⟨some 4, .nilrow 3 (.int .i64), [], none, []⟩])
 (.seq (.reg false [
   ⟨some 7, .mv, [.t 0], none, []⟩,
   ⟨some 8, .bslice 3 (.int .i64) 1 [0], [.t 7], none, []⟩,
   ⟨some 5, .mv, [.t 8], none, []⟩])
 (.seq (.seq (.reg false [
   ⟨some 6, .mv, [.int .i64 1], none, []⟩])
 (.block 0 (.loop x62_0)))
 (.seq (.reg false [
   ⟨some 17, .mv, [.t 5], none, []⟩,
   ⟨some 4, .mv, [.t 17], none, []⟩])
 .ret))))⟩
/- 0=first 1=all 4= 5=out 6=i -/
/-! slices.Repeat[[]tonneau/api.Label,tonneau/api.Label] -/
def x63_0 : XC := (.seq (.seq (.reg false [
   ⟨some 34, .mv, [.t 8], none, []⟩,
   ⟨some 35, .mv, [.t 7], none, []⟩,
   ⟨some 36, .len false, [.t 35], none, []⟩,
   ⟨some 37, .bin .lss, [.t 34, .t 36], none, []⟩])
 (.cond (.t 37)
  .skip
  (.exit 0)))
 (.block 1 (.reg true [
    ⟨some 38, .mv, [.t 8], none, []⟩,
    ⟨some 39, .mv, [.t 7], none, []⟩,
    ⟨some 40, .mv, [.t 8], none, []⟩,
    ⟨some 41, .slice (.st (.cons (.int .i64) (.int .i64))) true false true, [.t 39, .t 40], none, [1, 2]⟩,
    ⟨some 42, .mv, [.t 7], none, []⟩,
    ⟨some 43, .mv, [.t 8], none, []⟩,
    ⟨some 44, .slice (.st (.cons (.int .i64) (.int .i64))) false true true, [.t 42, .t 43], none, [4, 5]⟩,
    ⟨some 45, .copy 43 (.st (.cons (.int .i64) (.int .i64))), [.t 41, .t 44], none, [3, 1, 2, 6, 4, 5]⟩,
    ⟨some 46, .bin .add, [.t 38, .t 45], none, [0, 7, 3, 1, 2, 6, 4, 5]⟩,
    ⟨some 8, .mv, [.t 46], none, [8, 0, 7, 3, 1, 2, 6, 4, 5]⟩])))
def x63_0d : List Nat := [8]
def x63 : XF := ⟨48, [.tmp 4], [0, 1, 4, 5, 6, 7, 8],
 (.seq (.reg false [
   ⟨some 4, .nilrow 43 (.st (.cons (.int .i64) (.int .i64))), [], none, []⟩])
 (.seq (.seq (.reg false [
   ⟨some 9, .mv, [.t 1], none, []⟩,
   ⟨some 10, .bin .lss, [.t 9, .int .i64 0], none, []⟩])
 (.cond (.t 10)
  .dead /- op -/
  .skip))
 (.seq (.reg false [
   ⟨some 13, .mv, [.t 0], none, []⟩,
   ⟨some 14, .len false, [.t 13], none, []⟩,
   ⟨some 15, .conv .u64, [.t 14], none, []⟩,
   ⟨some 16, .mv, [.t 1], none, []⟩,
   ⟨some 17, .conv .u64, [.t 16], none, []⟩,
   ⟨some 18, .call 68, [.t 15, .t 17], none, []⟩,
   ⟨some 12, .mv, [.t 18], none, []⟩,
   ⟨some 19, .extract 0, [.t 12], none, []⟩,
   ⟨some 20, .extract 1, [.t 12], none, []⟩,
   ⟨some 5, .mv, [.t 19], none, []⟩,
   ⟨some 6, .mv, [.t 20], none, []⟩])
 (.clean (.seq (.seq (.reg false [
   ⟨some 21, .mv, [.t 5], none, []⟩,
   ⟨some 22, .bin .gtr, [.t 21, .int .u64 0], none, []⟩,
   ⟨some 23, .mv, [.t 22], none, []⟩,
   ⟨some 24, .mv, [.t 6], some (2, 23, false), []⟩,
   ⟨some 25, .bin .gtr, [.t 24, .int .u64 9223372036854775807], some (2, 23, false), []⟩,
   ⟨some 26, .pick, [.t 23, .bool true, .t 25], none, []⟩])
 (.cond (.t 26)
  .dead /- op -/
  .skip))
 (.clean (.seq (.reg false [
   ⟨some 28, .mv, [.t 6], none, []⟩,
   ⟨some 29, .conv .i64, [.t 28], none, []⟩,
   ⟨some 30, .mkslice 43 (.st (.cons (.int .i64) (.int .i64))) 16, [.t 29, .t 29], none, []⟩,
   ⟨some 7, .mv, [.t 30], none, []⟩])
 (.seq (.reg false [
   ⟨some 31, .mv, [.t 7], none, []⟩,
   ⟨some 32, .mv, [.t 0], none, []⟩,
   ⟨some 33, .copy 43 (.st (.cons (.int .i64) (.int .i64))), [.t 31, .t 32], none, []⟩,
   ⟨some 8, .mv, [.t 33], none, []⟩])
 (.seq (.block 0 (.loop x63_0))
 (.seq (.reg false [
   ⟨some 47, .mv, [.t 7], none, []⟩,
   ⟨some 4, .mv, [.t 47], none, []⟩])
 .ret))))))))))⟩
/- 0=x 1=count 4= 5=hi 6=lo 7=newslice 8=n -/
/-! (*tonneau/road.search).better -/
def x64 : XF := ⟨19, [.tmp 6], [0, 1, 2, 6],
 (.seq (.reg false [
   ⟨some 6, .mv, [.bool false], none, []⟩])
 (.seq (.seq (.reg false [
   ⟨some 7, .mv, [.t 2], none, []⟩,
   ⟨some 8, .bin .lss, [.t 7, .int .i64 0], none, []⟩])
 (.cond (.t 8)
  (.seq (.reg false [
    ⟨some 6, .mv, [.bool true], none, []⟩])
  .ret)
  .skip))
 (.seq (.seq (.reg false [
   ⟨some 9, .mv, [.t 0], none, []⟩,
   ⟨some 10, .nilck, [.t 9], none, []⟩,
   ⟨some 11, .faddr 2 .bool, [.t 10], none, []⟩,
   ⟨some 12, .load .bool, [.t 11], none, []⟩])
 (.cond (.t 12)
  (.seq (.reg false [
    ⟨some 13, .mv, [.t 1], none, []⟩,
    ⟨some 14, .mv, [.t 2], none, []⟩,
    ⟨some 15, .bin .gtr, [.t 13, .t 14], none, []⟩,
    ⟨some 6, .mv, [.t 15], none, []⟩])
  .ret)
  .skip))
 (.clean (.seq (.reg false [
   ⟨some 16, .mv, [.t 1], none, []⟩,
   ⟨some 17, .mv, [.t 2], none, []⟩,
   ⟨some 18, .bin .lss, [.t 16, .t 17], none, []⟩,
   ⟨some 6, .mv, [.t 18], none, []⟩])
 .ret)))))⟩
/- 0=s 1=a 2=b 6= -/
/-! slices.IndexFunc[[]tonneau/api.Arc,tonneau/api.Arc] -/
def x65_0 : XC := (.seq (.reg false [
   ⟨some 9, .bin .lss, [.t 8, .t 7], none, []⟩])
 (.seq (.cond (.t 9)
  .skip
  (.exit 0))
 (.seq (.block 1 (.seq (.reg false [
    ⟨some 10, .mv, [.t 8], none, []⟩,
    ⟨some 5, .mv, [.t 10], none, []⟩])
  (.seq (.reg false [
    ⟨some 11, .mv, [.t 1], none, []⟩,
    ⟨some 12, .mv, [.t 0], none, []⟩,
    ⟨some 13, .mv, [.t 5], none, []⟩,
    ⟨some 14, .iaddr (.st (.cons (.int .i64) (.cons (.int .i64) (.cons (.sl (.int .i64)) (.sl (.int .i64)))))), [.t 12, .t 13], none, []⟩,
    ⟨some 15, .load (.st (.cons (.int .i64) (.cons (.int .i64) (.cons (.sl (.int .i64)) (.sl (.int .i64)))))), [.t 14], none, []⟩,
    ⟨some 16, .callv, [.t 11, .t 15], none, []⟩])
  (.cond (.t 16)
   (.seq (.reg false [
     ⟨some 17, .mv, [.t 5], none, []⟩,
     ⟨some 4, .mv, [.t 17], none, []⟩])
   .ret)
   .skip))))
 (.reg false [
   ⟨some 18, .bin .add, [.t 8, .int .i64 1], none, []⟩,
   ⟨some 8, .mv, [.t 18], none, []⟩]))))
def x65_0d : List Nat := [4, 5, 8]
def x65 : XF := ⟨19, [.tmp 4], [0, 1, 4, 5, 7, 8],
 (.seq (.reg false [
   ⟨some 4, .mv, [.int .i64 0], none, []⟩])
 (.seq (.seq (.reg false [
   ⟨some 6, .mv, [.t 0], none, []⟩,
   ⟨some 7, .len false, [.t 6], none, []⟩,
   ⟨some 8, .mv, [.int .i64 0], none, []⟩])
 (.block 0 (.loop x65_0)))
 (.seq (.reg false [
   ⟨some 4, .mv, [.int .i64 (-1)], none, []⟩])
 .ret)))⟩
/- 0=s 1=f 4= 5=i 7= 8= -/
/-! tonneau/clock.took -/
def x66 : XF := ⟨22, [.tmp 6], [0, 1, 2, 3, 6],
 (.seq (.reg false [
   ⟨some 3, .box 45, [.t 0], none, []⟩,
   ⟨some 6, .mv, [.int .i64 0], none, []⟩])
 (.seq (.seq (.reg false [
   ⟨some 7, .mv, [.t 2], none, []⟩])
 (.cond (.t 7)
  (.seq (.reg false [
    ⟨some 8, .faddr 3 (.sl (.int .i64)), [.t 3], none, []⟩,
    ⟨some 9, .load (.sl (.int .i64)), [.t 8], none, []⟩,
    ⟨some 10, .mv, [.t 1], none, []⟩,
    ⟨some 11, .bin .quo, [.t 10, .int .i64 60], none, []⟩,
    ⟨some 12, .bin .rem, [.t 11, .int .i64 24], none, []⟩,
    ⟨some 13, .iaddr (.int .i64), [.t 9, .t 12], none, []⟩,
    ⟨some 14, .load (.int .i64), [.t 13], none, []⟩,
    ⟨some 6, .mv, [.t 14], none, []⟩])
  .ret)
  .skip))
 (.clean (.seq (.reg false [
   ⟨some 15, .faddr 2 (.sl (.int .i64)), [.t 3], none, []⟩,
   ⟨some 16, .load (.sl (.int .i64)), [.t 15], none, []⟩,
   ⟨some 17, .mv, [.t 1], none, []⟩,
   ⟨some 18, .bin .quo, [.t 17, .int .i64 60], none, []⟩,
   ⟨some 19, .bin .rem, [.t 18, .int .i64 24], none, []⟩,
   ⟨some 20, .iaddr (.int .i64), [.t 16, .t 19], none, []⟩,
   ⟨some 21, .load (.int .i64), [.t 20], none, []⟩,
   ⟨some 6, .mv, [.t 21], none, []⟩])
 .ret))))⟩
/- 0=a 1=t 2=high 3=a 6= -/
/-! tonneau/tonneauref10.Hour -/
def x67 : XF := ⟨6, [.tmp 2], [0, 2],
 (.seq (.reg false [
   ⟨some 2, .mv, [.int .i64 0], none, []⟩])
 (.seq (.reg false [
   ⟨some 3, .mv, [.t 0], none, []⟩,
   ⟨some 4, .bin .quo, [.t 3, .int .i64 60], none, []⟩,
   ⟨some 5, .bin .rem, [.t 4, .int .i64 24], none, []⟩,
   ⟨some 2, .mv, [.t 5], none, []⟩])
 .ret))⟩
/- 0=t 2= -/
/-! math/bits.Mul -/
def x68 : XF := ⟨30, [.tmp 4, .tmp 5], [0, 1, 4, 5, 6, 7, 8, 9],
 (.seq (.reg false [
   ⟨some 4, .mv, [.int .u64 0], none, []⟩,
   ⟨some 5, .mv, [.int .u64 0], none, []⟩])
 (.seq (.cond (.bool false)
  (.seq (.reg false [
    ⟨some 11, .mv, [.t 0], none, []⟩,
    ⟨some 12, .conv .u32, [.t 11], none, []⟩,
    ⟨some 13, .mv, [.t 1], none, []⟩,
    ⟨some 14, .conv .u32, [.t 13], none, []⟩,
    ⟨some 15, .call 69, [.t 12, .t 14], none, []⟩,
    ⟨some 10, .mv, [.t 15], none, []⟩,
    ⟨some 16, .extract 0, [.t 10], none, []⟩,
    ⟨some 17, .extract 1, [.t 10], none, []⟩,
    ⟨some 6, .mv, [.t 16], none, []⟩,
    ⟨some 7, .mv, [.t 17], none, []⟩])
  (.clean (.seq (.reg false [
    ⟨some 18, .mv, [.t 6], none, []⟩,
    ⟨some 19, .conv .u64, [.t 18], none, []⟩,
    ⟨some 20, .mv, [.t 7], none, []⟩,
    ⟨some 21, .conv .u64, [.t 20], none, []⟩,
    ⟨some 4, .mv, [.t 19], none, []⟩,
    ⟨some 5, .mv, [.t 21], none, []⟩])
  .ret)))
  .skip)
 (.clean (.seq (.reg false [
   ⟨some 23, .mv, [.t 0], none, []⟩,
   ⟨some 24, .mv, [.t 1], none, []⟩,
   ⟨some 25, .call 70, [.t 23, .t 24], none, []⟩,
   ⟨some 22, .mv, [.t 25], none, []⟩,
   ⟨some 26, .extract 0, [.t 22], none, []⟩,
   ⟨some 27, .extract 1, [.t 22], none, []⟩,
   ⟨some 8, .mv, [.t 26], none, []⟩,
   ⟨some 9, .mv, [.t 27], none, []⟩])
 (.clean (.seq (.reg false [
   ⟨some 28, .mv, [.t 8], none, []⟩,
   ⟨some 29, .mv, [.t 9], none, []⟩,
   ⟨some 4, .mv, [.t 28], none, []⟩,
   ⟨some 5, .mv, [.t 29], none, []⟩])
 .ret))))))⟩
/- 0=x 1=y 4=hi 5=lo 6=h 7=l 8=h 9=l -/
/-! math/bits.Mul32 -/
def x69 : XF := ⟨17, [.tmp 4, .tmp 5], [0, 1, 4, 5, 6],
 (.seq (.reg false [
   ⟨some 4, .mv, [.int .u32 0], none, []⟩,
   ⟨some 5, .mv, [.int .u32 0], none, []⟩])
 (.seq (.reg false [
   ⟨some 7, .mv, [.t 0], none, []⟩,
   ⟨some 8, .conv .u64, [.t 7], none, []⟩,
   ⟨some 9, .mv, [.t 1], none, []⟩,
   ⟨some 10, .conv .u64, [.t 9], none, []⟩,
   ⟨some 11, .bin .mul, [.t 8, .t 10], none, []⟩,
   ⟨some 6, .mv, [.t 11], none, []⟩])
 (.clean (.seq (.reg false [
   ⟨some 12, .mv, [.t 6], none, []⟩,
   ⟨some 13, .bin .shr, [.t 12, .int .u64 32], none, []⟩,
   ⟨some 14, .conv .u32, [.t 13], none, []⟩,
   ⟨some 15, .mv, [.t 6], none, []⟩,
   ⟨some 16, .conv .u32, [.t 15], none, []⟩,
   ⟨some 4, .mv, [.t 14], none, []⟩,
   ⟨some 5, .mv, [.t 16], none, []⟩])
 .ret))))⟩
/- 0=x 1=y 4=hi 5=lo 6=tmp -/
/-! math/bits.Mul64 -/
def x70 : XF := ⟨51, [.tmp 4, .tmp 5], [0, 1, 4, 5, 6, 7, 8, 9, 10, 11, 12, 13],
 (.seq (.reg false [
   ⟨some 4, .mv, [.int .u64 0], none, []⟩,
   ⟨some 5, .mv, [.int .u64 0], none, []⟩])
 (.seq (.reg false [
   ⟨some 14, .mv, [.t 0], none, []⟩,
   ⟨some 15, .bin .and, [.t 14, .int .u64 4294967295], none, []⟩,
   ⟨some 6, .mv, [.t 15], none, []⟩])
 (.seq (.reg false [
   ⟨some 16, .mv, [.t 0], none, []⟩,
   ⟨some 17, .bin .shr, [.t 16, .int .u64 32], none, []⟩,
   ⟨some 7, .mv, [.t 17], none, []⟩])
 (.seq (.reg false [
   ⟨some 18, .mv, [.t 1], none, []⟩,
   ⟨some 19, .bin .and, [.t 18, .int .u64 4294967295], none, []⟩,
   ⟨some 8, .mv, [.t 19], none, []⟩])
 (.seq (.reg false [
   ⟨some 20, .mv, [.t 1], none, []⟩,
   ⟨some 21, .bin .shr, [.t 20, .int .u64 32], none, []⟩,
   ⟨some 9, .mv, [.t 21], none, []⟩])
 (.seq (.reg false [
   ⟨some 22, .mv, [.t 6], none, []⟩,
   ⟨some 23, .mv, [.t 8], none, []⟩,
   ⟨some 24, .bin .mul, [.t 22, .t 23], none, []⟩,
   ⟨some 10, .mv, [.t 24], none, []⟩])
 (.seq (.reg false [
   ⟨some 25, .mv, [.t 7], none, []⟩,
   ⟨some 26, .mv, [.t 8], none, []⟩,
   ⟨some 27, .bin .mul, [.t 25, .t 26], none, []⟩,
   ⟨some 28, .mv, [.t 10], none, []⟩,
   ⟨some 29, .bin .shr, [.t 28, .int .u64 32], none, []⟩,
   ⟨some 30, .bin .add, [.t 27, .t 29], none, []⟩,
   ⟨some 11, .mv, [.t 30], none, []⟩])
 (.clean (.seq (.reg false [
   ⟨some 31, .mv, [.t 11], none, []⟩,
   ⟨some 32, .bin .and, [.t 31, .int .u64 4294967295], none, []⟩,
   ⟨some 12, .mv, [.t 32], none, []⟩])
 (.seq (.reg false [
   ⟨some 33, .mv, [.t 11], none, []⟩,
   ⟨some 34, .bin .shr, [.t 33, .int .u64 32], none, []⟩,
   ⟨some 13, .mv, [.t 34], none, []⟩])
 (.seq (.reg false [
   ⟨some 35, .mv, [.t 12], none, []⟩,
   ⟨some 36, .mv, [.t 6], none, []⟩,
   ⟨some 37, .mv, [.t 9], none, []⟩,
   ⟨some 38, .bin .mul, [.t 36, .t 37], none, []⟩,
   ⟨some 39, .bin .add, [.t 35, .t 38], none, []⟩,
   ⟨some 12, .mv, [.t 39], none, []⟩])
 (.clean (.seq (.reg false [
   ⟨some 40, .mv, [.t 7], none, []⟩,
   ⟨some 41, .mv, [.t 9], none, []⟩,
   ⟨some 42, .bin .mul, [.t 40, .t 41], none, []⟩,
   ⟨some 43, .mv, [.t 13], none, []⟩,
   ⟨some 44, .bin .add, [.t 42, .t 43], none, []⟩,
   ⟨some 45, .mv, [.t 12], none, []⟩,
   ⟨some 46, .bin .shr, [.t 45, .int .u64 32], none, []⟩,
   ⟨some 47, .bin .add, [.t 44, .t 46], none, []⟩,
   ⟨some 4, .mv, [.t 47], none, []⟩])
 (.clean (.seq (.reg false [
   ⟨some 48, .mv, [.t 0], none, []⟩,
   ⟨some 49, .mv, [.t 1], none, []⟩,
   ⟨some 50, .bin .mul, [.t 48, .t 49], none, []⟩,
   ⟨some 5, .mv, [.t 50], none, []⟩])
 .ret)))))))))))))))⟩
/- 0=x 1=y 4=hi 5=lo 6=x0 7=x1 8=y0 9=y1 10=w0 11=t 12=w1 13=w2 -/
end T
end Go.Proofs.Ytcjgofcfinbpeaa
