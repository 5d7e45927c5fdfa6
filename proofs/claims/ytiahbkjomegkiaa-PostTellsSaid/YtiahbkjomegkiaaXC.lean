/- The program's functions as code of the typed abstract walk (printed by a program). -/
import Derived.Test.YtiahbkjomegkiaaT18
set_option linter.unusedVariables false
namespace Go.Proofs.Ytiahbkjomegkiaa
namespace T
/-! tonneau/post.fresh -/
def x22 : XF := ⟨12, [.cell 2 (.st (.cons (.sl .str) (.cons (.int .i64) (.sl (.int .i64)))))], [0, 1, 2],
 (.seq (.reg false [
   ⟨some 1, .box 27, [.t 0], none, []⟩,
   ⟨some 2, .alloc 27 (.st (.cons (.sl .str) (.cons (.int .i64) (.sl (.int .i64))))), [], none, []⟩])
 (.seq (.reg true [
   ⟨some 3, .faddr 0 (.sl .str), [.t 1], none, []⟩,
   ⟨some 4, .load (.sl .str), [.t 3], none, [0]⟩,
   ⟨some 5, .call 25, [.t 4], none, [1, 0]⟩,
   ⟨some 6, .faddr 1 (.int .i64), [.t 1], none, []⟩,
   ⟨some 7, .load (.int .i64), [.t 6], none, [3]⟩,
   ⟨some 8, .faddr 2 (.sl (.int .i64)), [.t 1], none, []⟩,
   ⟨some 9, .load (.sl (.int .i64)), [.t 8], none, [5]⟩,
   ⟨some 10, .call 26, [.t 9], none, [6, 5, 2, 1, 0]⟩,
   ⟨some 11, .build (.st (.cons (.sl .str) (.cons (.int .i64) (.sl (.int .i64))))) [(0, (.sl .str)), (1, (.int .i64)), (2, (.sl (.int .i64)))], [.t 5, .t 7, .t 10], none, [2, 1, 0, 4, 3, 7, 6, 5]⟩,
   ⟨none, .store (.st (.cons (.sl .str) (.cons (.int .i64) (.sl (.int .i64))))), [.t 2, .t 11], none, [8, 2, 1, 0, 4, 3, 7, 6, 5]⟩])
 .ret))⟩
/- 0=w 1=w 2= -/
/-! tonneau/tonneauref42.Open -/
def x8_0 : XC := (.seq (.seq (.reg false [
   ⟨some 32, .mv, [.t 9], none, []⟩,
   ⟨some 33, .mv, [.t 1], none, []⟩,
   ⟨some 34, .bin .lss, [.t 32, .t 33], none, []⟩])
 (.cond (.t 34)
  .skip
  (.exit 0)))
 (.seq (.block 1 (.reg false [
    ⟨some 37, .mv, [.t 8], none, []⟩,
    ⟨some 38, .nilck, [.t 37], none, []⟩,
    ⟨some 39, .faddr 1 (.sl .bool), [.t 38], none, []⟩,
    ⟨some 40, .load (.sl .bool), [.t 39], none, []⟩,
    ⟨some 41, .mv, [.t 9], none, []⟩,
    ⟨some 42, .iaddr .bool, [.t 40, .t 41], none, []⟩,
    ⟨none, .store .bool, [.t 42, .bool true], none, []⟩]))
 (.clean (.reg false [
   ⟨some 35, .mv, [.t 9], none, []⟩,
   ⟨some 36, .bin .add, [.t 35, .int .i64 1], none, []⟩,
   ⟨some 9, .mv, [.t 36], none, []⟩]))))
def x8_0d : List Nat := [9]
def x8_1 : XC := (.seq (.seq (.reg false [
   ⟨some 43, .mv, [.t 10], none, []⟩,
   ⟨some 44, .mv, [.t 2], none, []⟩,
   ⟨some 45, .len false, [.t 44], none, []⟩,
   ⟨some 46, .bin .lss, [.t 43, .t 45], none, []⟩])
 (.cond (.t 46)
  .skip
  (.exit 2)))
 (.seq (.block 3 (.seq (.seq (.reg true [
    ⟨some 49, .mv, [.t 2], none, []⟩,
    ⟨some 50, .mv, [.t 10], none, []⟩,
    ⟨some 51, .iaddr (.int .i64), [.t 49, .t 50], none, [0, 1]⟩,
    ⟨some 52, .load (.int .i64), [.t 51], none, [2, 0, 1]⟩,
    ⟨some 53, .mv, [.t 1], none, []⟩,
    ⟨some 54, .bin .leq, [.t 52, .t 53], none, [3, 2, 0, 1, 4]⟩,
    ⟨some 55, .mv, [.t 54], none, [5, 3, 2, 0, 1, 4]⟩,
    ⟨some 56, .mv, [.t 2], some (6, 55, false), [6, 5, 3, 2, 0, 1, 4]⟩,
    ⟨some 57, .mv, [.t 10], some (6, 55, false), [6, 5, 3, 2, 0, 1, 4]⟩,
    ⟨some 58, .iaddr (.int .i64), [.t 56, .t 57], some (6, 55, false), [7, 6, 5, 3, 2, 0, 1, 4, 8]⟩,
    ⟨some 59, .load (.int .i64), [.t 58], some (6, 55, false), [9, 7, 6, 5, 3, 2, 0, 1, 4, 8]⟩,
    ⟨some 60, .mv, [.t 0], some (6, 55, false), [6, 5, 3, 2, 0, 1, 4]⟩,
    ⟨some 61, .len false, [.t 60], some (6, 55, false), [11, 6, 5, 3, 2, 0, 1, 4]⟩,
    ⟨some 62, .bin .geq, [.t 59, .t 61], some (6, 55, false), [10, 9, 7, 6, 5, 3, 2, 0, 1, 4, 8, 12, 11]⟩,
    ⟨some 63, .pick, [.t 55, .bool true, .t 62], none, [6, 5, 3, 2, 0, 1, 4, 13, 10, 9, 7, 8, 12, 11]⟩,
    ⟨some 64, .mv, [.t 63], none, [14, 6, 5, 3, 2, 0, 1, 4, 13, 10, 9, 7, 8, 12, 11]⟩,
    ⟨some 65, .mv, [.t 10], some (15, 64, false), [15, 14, 6, 5, 3, 2, 0, 1, 4, 13, 10, 9, 7, 8, 12, 11]⟩,
    ⟨some 66, .bin .gtr, [.t 65, .int .i64 0], some (15, 64, false), [16, 15, 14, 6, 5, 3, 2, 0, 1, 4, 13, 10, 9, 7, 8, 12, 11]⟩,
    ⟨some 67, .mv, [.t 66], some (15, 64, false), [17, 16, 15, 14, 6, 5, 3, 2, 0, 1, 4, 13, 10, 9, 7, 8, 12, 11]⟩,
    ⟨some 68, .mv, [.t 2], some (18, 67, true), [18, 17, 16, 15, 14, 6, 5, 3, 2, 0, 1, 4, 13, 10, 9, 7, 8, 12, 11]⟩,
    ⟨some 69, .mv, [.t 10], some (18, 67, true), [18, 17, 16, 15, 14, 6, 5, 3, 2, 0, 1, 4, 13, 10, 9, 7, 8, 12, 11]⟩,
    ⟨some 70, .bin .sub, [.t 69, .int .i64 1], some (18, 67, true), [20, 18, 17, 16, 15, 14, 6, 5, 3, 2, 0, 1, 4, 13, 10, 9, 7, 8, 12, 11]⟩,
    ⟨some 71, .max, [.t 70, .int .i64 0], some (18, 67, true), [21, 20, 18, 17, 16, 15, 14, 6, 5, 3, 2, 0, 1, 4, 13, 10, 9, 7, 8, 12, 11]⟩,
    ⟨some 72, .iaddr (.int .i64), [.t 68, .t 71], some (18, 67, true), [19, 18, 17, 16, 15, 14, 6, 5, 3, 2, 0, 1, 4, 13, 10, 9, 7, 8, 12, 11, 22, 21, 20]⟩,
    ⟨some 73, .load (.int .i64), [.t 72], some (18, 67, true), [23, 19, 18, 17, 16, 15, 14, 6, 5, 3, 2, 0, 1, 4, 13, 10, 9, 7, 8, 12, 11, 22, 21, 20]⟩,
    ⟨some 74, .mv, [.t 2], some (18, 67, true), [18, 17, 16, 15, 14, 6, 5, 3, 2, 0, 1, 4, 13, 10, 9, 7, 8, 12, 11]⟩,
    ⟨some 75, .mv, [.t 10], some (18, 67, true), [18, 17, 16, 15, 14, 6, 5, 3, 2, 0, 1, 4, 13, 10, 9, 7, 8, 12, 11]⟩,
    ⟨some 76, .iaddr (.int .i64), [.t 74, .t 75], some (18, 67, true), [25, 18, 17, 16, 15, 14, 6, 5, 3, 2, 0, 1, 4, 13, 10, 9, 7, 8, 12, 11, 26]⟩,
    ⟨some 77, .load (.int .i64), [.t 76], some (18, 67, true), [27, 25, 18, 17, 16, 15, 14, 6, 5, 3, 2, 0, 1, 4, 13, 10, 9, 7, 8, 12, 11, 26]⟩,
    ⟨some 78, .bin .geq, [.t 73, .t 77], some (18, 67, true), [24, 23, 19, 18, 17, 16, 15, 14, 6, 5, 3, 2, 0, 1, 4, 13, 10, 9, 7, 8, 12, 11, 22, 21, 20, 28, 27, 25, 26]⟩,
    ⟨some 79, .pick, [.t 67, .t 78, .bool false], some (15, 64, false), [18, 17, 16, 15, 14, 6, 5, 3, 2, 0, 1, 4, 13, 10, 9, 7, 8, 12, 11, 29, 24, 23, 19, 22, 21, 20, 28, 27, 25, 26]⟩,
    ⟨some 80, .pick, [.t 64, .bool true, .t 79], none, [15, 14, 6, 5, 3, 2, 0, 1, 4, 13, 10, 9, 7, 8, 12, 11, 30, 18, 17, 16, 29, 24, 23, 19, 22, 21, 20, 28, 27, 25, 26]⟩])
  (.cond (.t 80)
   (.seq (.reg false [
     ⟨some 6, .mv, [.nilp], none, []⟩,
     ⟨some 7, .mv, [.bool false], none, []⟩])
   .ret)
   .skip))
  (.clean (.reg true [
    ⟨some 81, .mv, [.t 8], none, []⟩,
    ⟨some 82, .nilck, [.t 81], none, [0]⟩,
    ⟨some 83, .faddr 1 (.sl .bool), [.t 82], none, [1, 0]⟩,
    ⟨some 84, .load (.sl .bool), [.t 83], none, [2, 1, 0]⟩,
    ⟨some 85, .mv, [.t 2], none, []⟩,
    ⟨some 86, .mv, [.t 10], none, []⟩,
    ⟨some 87, .iaddr (.int .i64), [.t 85, .t 86], none, [4, 5]⟩,
    ⟨some 88, .load (.int .i64), [.t 87], none, [6, 4, 5]⟩,
    ⟨some 89, .iaddr .bool, [.t 84, .t 88], none, [3, 2, 1, 0, 7, 6, 4, 5]⟩,
    ⟨none, .store .bool, [.t 89, .bool true], none, [8, 3, 2, 1, 0, 7, 6, 4, 5]⟩]))))
 (.clean (.reg false [
   ⟨some 47, .mv, [.t 10], none, []⟩,
   ⟨some 48, .bin .add, [.t 47, .int .i64 1], none, []⟩,
   ⟨some 10, .mv, [.t 48], none, []⟩]))))
def x8_1d : List Nat := [6, 7, 10]
def x8 : XF := ⟨91, [.tmp 6, .tmp 7], [0, 1, 2, 6, 7, 8, 9, 10],
 (.seq (.reg false [
   ⟨some 6, .mv, [.nilp], none, []⟩,
   ⟨some 7, .mv, [.bool false], none, []⟩])
 (.seq (.seq (.reg false [
   ⟨some 11, .mv, [.t 0], none, []⟩,
   ⟨some 12, .len false, [.t 11], none, []⟩,
   ⟨some 13, .bin .gtr, [.t 12, .int .i64 10000], none, []⟩,
   ⟨some 14, .mv, [.t 13], none, []⟩,
   ⟨some 15, .mv, [.t 1], some (3, 14, false), []⟩,
   ⟨some 16, .bin .lss, [.t 15, .int .i64 0], some (3, 14, false), []⟩,
   ⟨some 17, .pick, [.t 14, .bool true, .t 16], none, []⟩,
   ⟨some 18, .mv, [.t 17], none, []⟩,
   ⟨some 19, .mv, [.t 1], some (7, 18, false), []⟩,
   ⟨some 20, .mv, [.t 0], some (7, 18, false), []⟩,
   ⟨some 21, .len false, [.t 20], some (7, 18, false), []⟩,
   ⟨some 22, .bin .gtr, [.t 19, .t 21], some (7, 18, false), []⟩,
   ⟨some 23, .pick, [.t 18, .bool true, .t 22], none, []⟩])
 (.cond (.t 23)
  (.seq (.reg false [
    ⟨some 6, .mv, [.nilp], none, []⟩,
    ⟨some 7, .mv, [.bool false], none, []⟩])
  .ret)
  .skip))
 (.clean (.seq (.reg true [
   ⟨some 24, .bslice 9 .str 0 [], [], none, []⟩,
   ⟨some 25, .mv, [.t 0], none, []⟩,
   ⟨some 26, .append 9 .str 16, [.t 24, .t 25], none, [0, 1]⟩,
   ⟨some 27, .mv, [.t 0], none, []⟩,
   ⟨some 28, .len false, [.t 27], none, [3]⟩,
   ⟨some 29, .mkslice 4 .bool 1, [.t 28, .t 28], none, [4, 3]⟩,
   ⟨some 30, .build (.st (.cons (.sl .str) (.sl .bool))) [(0, (.sl .str)), (1, (.sl .bool))], [.t 26, .t 29], none, [2, 0, 1, 5, 4, 3]⟩,
   ⟨some 31, .box 47, [.t 30], none, [6, 2, 0, 1, 5, 4, 3]⟩,
   ⟨some 8, .mv, [.t 31], none, [7, 6, 2, 0, 1, 5, 4, 3]⟩])
 (.clean (.seq (.seq (.reg false [
   ⟨some 9, .mv, [.int .i64 0], none, []⟩])
 (.block 0 (.loop x8_0)))
 (.clean (.seq (.seq (.reg false [
   ⟨some 10, .mv, [.int .i64 0], none, []⟩])
 (.block 2 (.loop x8_1)))
 (.clean (.seq (.reg false [
   ⟨some 90, .mv, [.t 8], none, []⟩,
   ⟨some 6, .mv, [.t 90], none, []⟩,
   ⟨some 7, .mv, [.bool true], none, []⟩])
 .ret))))))))))⟩
/- 0=sent 1=next 2=early 6= 7= 8=w 9=i 10=i -/
/-! (*tonneau/tonneauref42.Way).Send -/
def x14 : XF := ⟨30, [.tmp 4], [0, 1, 4],
 (.seq (.reg false [
   ⟨some 4, .mv, [.int .i64 0], none, []⟩])
 (.seq (.seq (.reg false [
   ⟨some 5, .mv, [.t 0], none, []⟩,
   ⟨some 6, .nilck, [.t 5], none, []⟩,
   ⟨some 7, .faddr 0 (.sl .str), [.t 6], none, []⟩,
   ⟨some 8, .load (.sl .str), [.t 7], none, []⟩,
   ⟨some 9, .len false, [.t 8], none, []⟩,
   ⟨some 10, .bin .geq, [.t 9, .int .i64 10000], none, []⟩])
 (.cond (.t 10)
  (.seq (.reg false [
    ⟨some 4, .mv, [.int .i64 6], none, []⟩])
  .ret)
  .skip))
 (.clean (.seq (.reg false [
   ⟨some 11, .mv, [.t 0], none, []⟩,
   ⟨some 12, .mv, [.t 0], none, []⟩,
   ⟨some 13, .nilck, [.t 12], none, []⟩,
   ⟨some 14, .faddr 0 (.sl .str), [.t 13], none, []⟩,
   ⟨some 15, .load (.sl .str), [.t 14], none, []⟩,
   ⟨some 16, .mv, [.t 1], none, []⟩,
   ⟨some 17, .bslice 9 .str 1 [0], [.t 16], none, []⟩,
   ⟨some 18, .append 9 .str 16, [.t 15, .t 17], none, []⟩,
   ⟨some 19, .nilck, [.t 11], none, []⟩,
   ⟨some 20, .faddr 0 (.sl .str), [.t 19], none, []⟩,
   ⟨none, .store (.sl .str), [.t 20, .t 18], none, []⟩])
 (.clean (.seq (.reg false [
   ⟨some 21, .mv, [.t 0], none, []⟩,
   ⟨some 22, .mv, [.t 0], none, []⟩,
   ⟨some 23, .nilck, [.t 22], none, []⟩,
   ⟨some 24, .faddr 1 (.sl .bool), [.t 23], none, []⟩,
   ⟨some 25, .load (.sl .bool), [.t 24], none, []⟩,
   ⟨some 26, .bslice 4 .bool 1 [0], [.bool false], none, []⟩,
   ⟨some 27, .append 4 .bool 1, [.t 25, .t 26], none, []⟩,
   ⟨some 28, .nilck, [.t 21], none, []⟩,
   ⟨some 29, .faddr 1 (.sl .bool), [.t 28], none, []⟩,
   ⟨none, .store (.sl .bool), [.t 29, .t 27], none, []⟩])
 (.seq (.reg false [
   ⟨some 4, .mv, [.int .i64 0], none, []⟩])
 .ret)))))))⟩
/- 0=w 1=e 4= -/
/-! (*tonneau/tonneauref42.Way).Arrive -/
def x15 : XF := ⟨43, [.tmp 4, .tmp 5], [0, 1, 4, 5, 6],
 (.seq (.reg false [
   ⟨some 4, .nilrow 9 .str, [], none, []⟩,
   ⟨some 5, .mv, [.int .i64 0], none, []⟩])
 (.seq (.seq (.reg false [
   ⟨some 7, .mv, [.t 1], none, []⟩,
   ⟨some 8, .bin .lss, [.t 7, .int .i64 0], none, []⟩,
   ⟨some 9, .mv, [.t 8], none, []⟩,
   ⟨some 10, .mv, [.t 1], some (2, 9, false), []⟩,
   ⟨some 11, .mv, [.t 0], some (2, 9, false), []⟩,
   ⟨some 12, .nilck, [.t 11], some (2, 9, false), []⟩,
   ⟨some 13, .faddr 0 (.sl .str), [.t 12], some (2, 9, false), []⟩,
   ⟨some 14, .load (.sl .str), [.t 13], some (2, 9, false), []⟩,
   ⟨some 15, .len false, [.t 14], some (2, 9, false), []⟩,
   ⟨some 16, .bin .geq, [.t 10, .t 15], some (2, 9, false), []⟩,
   ⟨some 17, .pick, [.t 9, .bool true, .t 16], none, []⟩])
 (.cond (.t 17)
  (.seq (.reg false [
    ⟨some 4, .nilrow 9 .str, [], none, []⟩,
    ⟨some 5, .mv, [.int .i64 4], none, []⟩])
  .ret)
  .skip))
 (.clean (.seq (.seq (.reg false [
   ⟨some 18, .mv, [.t 0], none, []⟩,
   ⟨some 19, .nilck, [.t 18], none, []⟩,
   ⟨some 20, .faddr 1 (.sl .bool), [.t 19], none, []⟩,
   ⟨some 21, .load (.sl .bool), [.t 20], none, []⟩,
   ⟨some 22, .mv, [.t 1], none, []⟩,
   ⟨some 23, .iaddr .bool, [.t 21, .t 22], none, []⟩,
   ⟨some 24, .load .bool, [.t 23], none, []⟩])
 (.cond (.t 24)
  (.seq (.reg false [
    ⟨some 4, .nilrow 9 .str, [], none, []⟩,
    ⟨some 5, .mv, [.int .i64 5], none, []⟩])
  .ret)
  .skip))
 (.clean (.seq (.reg false [
   ⟨some 25, .mv, [.t 0], none, []⟩,
   ⟨some 26, .call 17, [.t 25], none, []⟩,
   ⟨some 6, .mv, [.t 26], none, []⟩])
 (.seq (.reg false [
   ⟨some 27, .mv, [.t 0], none, []⟩,
   ⟨some 28, .nilck, [.t 27], none, []⟩,
   ⟨some 29, .faddr 1 (.sl .bool), [.t 28], none, []⟩,
   ⟨some 30, .load (.sl .bool), [.t 29], none, []⟩,
   ⟨some 31, .mv, [.t 1], none, []⟩,
   ⟨some 32, .iaddr .bool, [.t 30, .t 31], none, []⟩,
   ⟨none, .store .bool, [.t 32, .bool true], none, []⟩])
 (.clean (.seq (.reg true [
   ⟨some 33, .bslice 9 .str 0 [], [], none, []⟩,
   ⟨some 34, .mv, [.t 0], none, []⟩,
   ⟨some 35, .nilck, [.t 34], none, [1]⟩,
   ⟨some 36, .faddr 0 (.sl .str), [.t 35], none, [2, 1]⟩,
   ⟨some 37, .load (.sl .str), [.t 36], none, [3, 2, 1]⟩,
   ⟨some 38, .mv, [.t 6], none, []⟩,
   ⟨some 39, .mv, [.t 0], none, []⟩,
   ⟨some 40, .call 17, [.t 39], none, [6]⟩,
   ⟨some 41, .slice .str true true true, [.t 37, .t 38, .t 40], none, [4, 3, 2, 1, 5, 7, 6]⟩,
   ⟨some 42, .append 9 .str 16, [.t 33, .t 41], none, [0, 8, 4, 3, 2, 1, 5, 7, 6]⟩,
   ⟨some 4, .mv, [.t 42], none, [9, 0, 8, 4, 3, 2, 1, 5, 7, 6]⟩,
   ⟨some 5, .mv, [.int .i64 0], none, [10, 9, 0, 8, 4, 3, 2, 1, 5, 7, 6]⟩])
 .ret)))))))))⟩
/- 0=w 1=seq 4= 5= 6=before -/
/-! gosem.cut.init -/
def x2 : XF := ⟨1, [], [],
 (.reg false [
   ⟨some 0, .call 1, [], none, []⟩])⟩
/-  -/
/-! tonneau/tonneaulaw42.PostTells -/
def x3_0 : XC := (.seq (.seq (.reg false [
   ⟨some 91, .mv, [.t 18], none, []⟩,
   ⟨some 92, .mv, [.t 3], none, []⟩,
   ⟨some 93, .len false, [.t 92], none, []⟩,
   ⟨some 94, .bin .lss, [.t 91, .t 93], none, []⟩])
 (.cond (.t 94)
  .skip
  (.exit 0)))
 (.seq (.block 1 (.seq (.seq (.reg false [
    ⟨some 97, .mv, [.t 3], none, []⟩,
    ⟨some 98, .mv, [.t 18], none, []⟩,
    ⟨some 99, .iaddr (.st (.cons (.int .i64) (.cons (.int .i64) .str))), [.t 97, .t 98], none, []⟩,
    ⟨some 100, .faddr 0 (.int .i64), [.t 99], none, []⟩,
    ⟨some 101, .load (.int .i64), [.t 100], none, []⟩,
    ⟨some 102, .bin .eql, [.t 101, .int .i64 0], none, []⟩])
  (.cond (.t 102)
   (.seq (.reg true [
     ⟨some 104, .load (.st (.cons (.sl .str) (.cons (.int .i64) (.sl (.int .i64))))), [.t 10], none, []⟩,
     ⟨some 105, .mv, [.t 3], none, []⟩,
     ⟨some 106, .mv, [.t 18], none, []⟩,
     ⟨some 107, .iaddr (.st (.cons (.int .i64) (.cons (.int .i64) .str))), [.t 105, .t 106], none, [1, 2]⟩,
     ⟨some 108, .faddr 2 .str, [.t 107], none, [3, 1, 2]⟩,
     ⟨some 109, .load .str, [.t 108], none, [4, 3, 1, 2]⟩,
     ⟨some 110, .call 10, [.t 104, .t 109], none, [0, 5, 4, 3, 1, 2]⟩,
     ⟨some 103, .mv, [.t 110], none, [6, 0, 5, 4, 3, 1, 2]⟩,
     ⟨some 111, .extract 0, [.t 103], none, [7, 6, 0, 5, 4, 3, 1, 2]⟩,
     ⟨some 112, .extract 1, [.t 103], none, [7, 6, 0, 5, 4, 3, 1, 2]⟩,
     ⟨some 19, .alloc 27 (.st (.cons (.sl .str) (.cons (.int .i64) (.sl (.int .i64))))), [], none, []⟩,
     ⟨none, .store (.st (.cons (.sl .str) (.cons (.int .i64) (.sl (.int .i64))))), [.t 19, .t 111], none, [10, 8, 7, 6, 0, 5, 4, 3, 1, 2]⟩,
     ⟨some 20, .mv, [.t 112], none, [9, 7, 6, 0, 5, 4, 3, 1, 2, 11, 10, 8]⟩])
   (.clean (.seq (.seq (.icall false [
     ⟨some 113, .mv, [.t 20], none, []⟩,
     ⟨some 114, .mv, [.t 11], none, []⟩,
     ⟨some 115, .mv, [.t 3], none, []⟩,
     ⟨some 116, .mv, [.t 18], none, []⟩,
     ⟨some 117, .iaddr (.st (.cons (.int .i64) (.cons (.int .i64) .str))), [.t 115, .t 116], none, []⟩,
     ⟨some 118, .faddr 2 .str, [.t 117], none, []⟩,
     ⟨some 119, .load .str, [.t 118], none, []⟩] ⟨some 120, .callv, [.fn 14, .t 114, .t 119], none, []⟩ [
     ⟨some 121, .bin .neq, [.t 113, .t 120], none, []⟩] 14 x14.n x14.res x14.kv x14.code)
   (.cond (.t 121)
    (.seq (.reg false [
      ⟨some 8, .mv, [.bool false], none, []⟩])
    .ret)
    .skip))
   (.reg false [
     ⟨some 122, .load (.st (.cons (.sl .str) (.cons (.int .i64) (.sl (.int .i64))))), [.t 19], none, []⟩,
     ⟨none, .store (.st (.cons (.sl .str) (.cons (.int .i64) (.sl (.int .i64))))), [.t 10, .t 122], none, []⟩]))))
   (.seq (.reg true [
     ⟨some 124, .load (.st (.cons (.sl .str) (.cons (.int .i64) (.sl (.int .i64))))), [.t 10], none, []⟩,
     ⟨some 125, .mv, [.t 3], none, []⟩,
     ⟨some 126, .mv, [.t 18], none, []⟩,
     ⟨some 127, .iaddr (.st (.cons (.int .i64) (.cons (.int .i64) .str))), [.t 125, .t 126], none, [1, 2]⟩,
     ⟨some 128, .faddr 1 (.int .i64), [.t 127], none, [3, 1, 2]⟩,
     ⟨some 129, .load (.int .i64), [.t 128], none, [4, 3, 1, 2]⟩,
     ⟨some 130, .call 11, [.t 124, .t 129], none, [0, 5, 4, 3, 1, 2]⟩,
     ⟨some 123, .mv, [.t 130], none, [6, 0, 5, 4, 3, 1, 2]⟩,
     ⟨some 131, .extract 0, [.t 123], none, [7, 6, 0, 5, 4, 3, 1, 2]⟩,
     ⟨some 132, .extract 1, [.t 123], none, [7, 6, 0, 5, 4, 3, 1, 2]⟩,
     ⟨some 133, .extract 2, [.t 123], none, [7, 6, 0, 5, 4, 3, 1, 2]⟩,
     ⟨some 21, .alloc 27 (.st (.cons (.sl .str) (.cons (.int .i64) (.sl (.int .i64))))), [], none, []⟩,
     ⟨none, .store (.st (.cons (.sl .str) (.cons (.int .i64) (.sl (.int .i64))))), [.t 21, .t 131], none, [11, 8, 7, 6, 0, 5, 4, 3, 1, 2]⟩,
     ⟨some 22, .mv, [.t 132], none, [9, 7, 6, 0, 5, 4, 3, 1, 2, 12, 11, 8]⟩,
     ⟨some 23, .mv, [.t 133], none, [10, 7, 6, 0, 5, 4, 3, 1, 2, 13, 9, 12, 11, 8]⟩])
   (.clean (.seq (.icall false [
     ⟨some 135, .mv, [.t 11], none, []⟩,
     ⟨some 136, .mv, [.t 3], none, []⟩,
     ⟨some 137, .mv, [.t 18], none, []⟩,
     ⟨some 138, .iaddr (.st (.cons (.int .i64) (.cons (.int .i64) .str))), [.t 136, .t 137], none, []⟩,
     ⟨some 139, .faddr 1 (.int .i64), [.t 138], none, []⟩,
     ⟨some 140, .load (.int .i64), [.t 139], none, []⟩] ⟨some 141, .callv, [.fn 15, .t 135, .t 140], none, []⟩ [
     ⟨some 134, .mv, [.t 141], none, []⟩,
     ⟨some 142, .extract 0, [.t 134], none, []⟩,
     ⟨some 143, .extract 1, [.t 134], none, []⟩,
     ⟨some 24, .mv, [.t 142], none, []⟩,
     ⟨some 25, .mv, [.t 143], none, []⟩] 15 x15.n x15.res x15.kv x15.code)
   (.clean (.seq (.seq (.reg false [
     ⟨some 144, .mv, [.t 23], none, []⟩,
     ⟨some 145, .mv, [.t 25], none, []⟩,
     ⟨some 146, .bin .neq, [.t 144, .t 145], none, []⟩,
     ⟨some 147, .mv, [.t 146], none, []⟩,
     ⟨some 148, .mv, [.t 22], some (3, 147, false), []⟩,
     ⟨some 149, .mv, [.t 24], some (3, 147, false), []⟩,
     ⟨some 150, .call 16, [.t 148, .t 149], some (3, 147, false), []⟩,
     ⟨some 151, .not, [.t 150], some (3, 147, false), []⟩,
     ⟨some 152, .pick, [.t 147, .bool true, .t 151], none, []⟩])
   (.cond (.t 152)
    (.seq (.reg false [
      ⟨some 8, .mv, [.bool false], none, []⟩])
    .ret)
    .skip))
   (.clean (.seq (.reg false [
     ⟨some 153, .mv, [.t 23], none, []⟩,
     ⟨some 154, .bin .eql, [.t 153, .int .i64 0], none, []⟩])
   (.cond (.t 154)
    (.reg false [
      ⟨some 155, .load (.st (.cons (.sl .str) (.cons (.int .i64) (.sl (.int .i64))))), [.t 21], none, []⟩,
      ⟨none, .store (.st (.cons (.sl .str) (.cons (.int .i64) (.sl (.int .i64))))), [.t 10, .t 155], none, []⟩])
    .skip))))))))))
  (.clean (.seq (.reg true [
    ⟨some 156, .faddr 0 (.sl .str), [.t 10], none, []⟩,
    ⟨some 157, .load (.sl .str), [.t 156], none, [0]⟩,
    ⟨some 158, .mv, [.t 11], none, []⟩,
    ⟨some 159, .nilck, [.t 158], none, [2]⟩,
    ⟨some 160, .faddr 0 (.sl .str), [.t 159], none, [3, 2]⟩,
    ⟨some 161, .load (.sl .str), [.t 160], none, [4, 3, 2]⟩,
    ⟨some 162, .call 16, [.t 157, .t 161], none, [1, 0, 5, 4, 3, 2]⟩,
    ⟨some 163, .not, [.t 162], none, [6, 1, 0, 5, 4, 3, 2]⟩,
    ⟨some 164, .mv, [.t 163], none, [7, 6, 1, 0, 5, 4, 3, 2]⟩,
    ⟨some 165, .faddr 1 (.int .i64), [.t 10], some (8, 164, false), [8, 7, 6, 1, 0, 5, 4, 3, 2]⟩,
    ⟨some 166, .load (.int .i64), [.t 165], some (8, 164, false), [9, 8, 7, 6, 1, 0, 5, 4, 3, 2]⟩,
    ⟨some 167, .mv, [.t 11], some (8, 164, false), [8, 7, 6, 1, 0, 5, 4, 3, 2]⟩,
    ⟨some 168, .call 17, [.t 167], some (8, 164, false), [11, 8, 7, 6, 1, 0, 5, 4, 3, 2]⟩,
    ⟨some 169, .bin .neq, [.t 166, .t 168], some (8, 164, false), [10, 9, 8, 7, 6, 1, 0, 5, 4, 3, 2, 12, 11]⟩,
    ⟨some 170, .pick, [.t 164, .bool true, .t 169], none, [8, 7, 6, 1, 0, 5, 4, 3, 2, 13, 10, 9, 12, 11]⟩,
    ⟨some 171, .mv, [.t 170], none, [14, 8, 7, 6, 1, 0, 5, 4, 3, 2, 13, 10, 9, 12, 11]⟩,
    ⟨some 172, .faddr 2 (.sl (.int .i64)), [.t 10], some (15, 171, false), [15, 14, 8, 7, 6, 1, 0, 5, 4, 3, 2, 13, 10, 9, 12, 11]⟩,
    ⟨some 173, .load (.sl (.int .i64)), [.t 172], some (15, 171, false), [16, 15, 14, 8, 7, 6, 1, 0, 5, 4, 3, 2, 13, 10, 9, 12, 11]⟩,
    ⟨some 174, .mv, [.t 11], some (15, 171, false), [15, 14, 8, 7, 6, 1, 0, 5, 4, 3, 2, 13, 10, 9, 12, 11]⟩,
    ⟨some 175, .call 19, [.t 174], some (15, 171, false), [18, 15, 14, 8, 7, 6, 1, 0, 5, 4, 3, 2, 13, 10, 9, 12, 11]⟩,
    ⟨some 176, .call 18, [.t 173, .t 175], some (15, 171, false), [17, 16, 15, 14, 8, 7, 6, 1, 0, 5, 4, 3, 2, 13, 10, 9, 12, 11, 19, 18]⟩,
    ⟨some 177, .not, [.t 176], some (15, 171, false), [20, 17, 16, 15, 14, 8, 7, 6, 1, 0, 5, 4, 3, 2, 13, 10, 9, 12, 11, 19, 18]⟩,
    ⟨some 178, .pick, [.t 171, .bool true, .t 177], none, [15, 14, 8, 7, 6, 1, 0, 5, 4, 3, 2, 13, 10, 9, 12, 11, 21, 20, 17, 16, 19, 18]⟩,
    ⟨some 179, .mv, [.t 178], none, [22, 15, 14, 8, 7, 6, 1, 0, 5, 4, 3, 2, 13, 10, 9, 12, 11, 21, 20, 17, 16, 19, 18]⟩,
    ⟨some 180, .load (.st (.cons (.sl .str) (.cons (.int .i64) (.sl (.int .i64))))), [.t 10], some (23, 179, false), [23, 22, 15, 14, 8, 7, 6, 1, 0, 5, 4, 3, 2, 13, 10, 9, 12, 11, 21, 20, 17, 16, 19, 18]⟩,
    ⟨some 181, .call 13, [.t 180], some (23, 179, false), [24, 23, 22, 15, 14, 8, 7, 6, 1, 0, 5, 4, 3, 2, 13, 10, 9, 12, 11, 21, 20, 17, 16, 19, 18]⟩,
    ⟨some 182, .mv, [.t 11], some (23, 179, false), [23, 22, 15, 14, 8, 7, 6, 1, 0, 5, 4, 3, 2, 13, 10, 9, 12, 11, 21, 20, 17, 16, 19, 18]⟩,
    ⟨some 183, .call 20, [.t 182], some (23, 179, false), [26, 23, 22, 15, 14, 8, 7, 6, 1, 0, 5, 4, 3, 2, 13, 10, 9, 12, 11, 21, 20, 17, 16, 19, 18, 25, 24]⟩,
    ⟨some 184, .call 18, [.t 181, .t 183], some (23, 179, false), [25, 24, 23, 22, 15, 14, 8, 7, 6, 1, 0, 5, 4, 3, 2, 13, 10, 9, 12, 11, 21, 20, 17, 16, 19, 18, 27, 26]⟩,
    ⟨some 185, .not, [.t 184], some (23, 179, false), [28, 25, 24, 23, 22, 15, 14, 8, 7, 6, 1, 0, 5, 4, 3, 2, 13, 10, 9, 12, 11, 21, 20, 17, 16, 19, 18, 27, 26]⟩,
    ⟨some 186, .pick, [.t 179, .bool true, .t 185], none, [23, 22, 15, 14, 8, 7, 6, 1, 0, 5, 4, 3, 2, 13, 10, 9, 12, 11, 21, 20, 17, 16, 19, 18, 29, 28, 25, 24, 27, 26]⟩,
    ⟨some 187, .mv, [.t 186], none, [30, 23, 22, 15, 14, 8, 7, 6, 1, 0, 5, 4, 3, 2, 13, 10, 9, 12, 11, 21, 20, 17, 16, 19, 18, 29, 28, 25, 24, 27, 26]⟩,
    ⟨some 188, .load (.st (.cons (.sl .str) (.cons (.int .i64) (.sl (.int .i64))))), [.t 10], some (31, 187, false), [31, 30, 23, 22, 15, 14, 8, 7, 6, 1, 0, 5, 4, 3, 2, 13, 10, 9, 12, 11, 21, 20, 17, 16, 19, 18, 29, 28, 25, 24, 27, 26]⟩,
    ⟨some 189, .call 12, [.t 188], some (31, 187, false), [32, 31, 30, 23, 22, 15, 14, 8, 7, 6, 1, 0, 5, 4, 3, 2, 13, 10, 9, 12, 11, 21, 20, 17, 16, 19, 18, 29, 28, 25, 24, 27, 26]⟩,
    ⟨some 190, .mv, [.t 11], some (31, 187, false), [31, 30, 23, 22, 15, 14, 8, 7, 6, 1, 0, 5, 4, 3, 2, 13, 10, 9, 12, 11, 21, 20, 17, 16, 19, 18, 29, 28, 25, 24, 27, 26]⟩,
    ⟨some 191, .nilck, [.t 190], some (31, 187, false), [34, 31, 30, 23, 22, 15, 14, 8, 7, 6, 1, 0, 5, 4, 3, 2, 13, 10, 9, 12, 11, 21, 20, 17, 16, 19, 18, 29, 28, 25, 24, 27, 26]⟩,
    ⟨some 192, .faddr 0 (.sl .str), [.t 191], some (31, 187, false), [35, 34, 31, 30, 23, 22, 15, 14, 8, 7, 6, 1, 0, 5, 4, 3, 2, 13, 10, 9, 12, 11, 21, 20, 17, 16, 19, 18, 29, 28, 25, 24, 27, 26]⟩,
    ⟨some 193, .load (.sl .str), [.t 192], some (31, 187, false), [36, 35, 34, 31, 30, 23, 22, 15, 14, 8, 7, 6, 1, 0, 5, 4, 3, 2, 13, 10, 9, 12, 11, 21, 20, 17, 16, 19, 18, 29, 28, 25, 24, 27, 26]⟩,
    ⟨some 194, .mv, [.t 11], some (31, 187, false), [31, 30, 23, 22, 15, 14, 8, 7, 6, 1, 0, 5, 4, 3, 2, 13, 10, 9, 12, 11, 21, 20, 17, 16, 19, 18, 29, 28, 25, 24, 27, 26]⟩,
    ⟨some 195, .call 17, [.t 194], some (31, 187, false), [38, 31, 30, 23, 22, 15, 14, 8, 7, 6, 1, 0, 5, 4, 3, 2, 13, 10, 9, 12, 11, 21, 20, 17, 16, 19, 18, 29, 28, 25, 24, 27, 26, 33, 32]⟩,
    ⟨some 196, .slice .str true false true, [.t 193, .t 195], some (31, 187, false), [37, 36, 35, 34, 31, 30, 23, 22, 15, 14, 8, 7, 6, 1, 0, 5, 4, 3, 2, 13, 10, 9, 12, 11, 21, 20, 17, 16, 19, 18, 29, 28, 25, 24, 27, 26, 39, 38, 33, 32]⟩,
    ⟨some 197, .call 16, [.t 189, .t 196], some (31, 187, false), [33, 32, 31, 30, 23, 22, 15, 14, 8, 7, 6, 1, 0, 5, 4, 3, 2, 13, 10, 9, 12, 11, 21, 20, 17, 16, 19, 18, 29, 28, 25, 24, 27, 26, 40, 37, 36, 35, 34, 39, 38]⟩,
    ⟨some 198, .not, [.t 197], some (31, 187, false), [41, 33, 32, 31, 30, 23, 22, 15, 14, 8, 7, 6, 1, 0, 5, 4, 3, 2, 13, 10, 9, 12, 11, 21, 20, 17, 16, 19, 18, 29, 28, 25, 24, 27, 26, 40, 37, 36, 35, 34, 39, 38]⟩,
    ⟨some 199, .pick, [.t 187, .bool true, .t 198], none, [31, 30, 23, 22, 15, 14, 8, 7, 6, 1, 0, 5, 4, 3, 2, 13, 10, 9, 12, 11, 21, 20, 17, 16, 19, 18, 29, 28, 25, 24, 27, 26, 42, 41, 33, 32, 40, 37, 36, 35, 34, 39, 38]⟩])
  (.cond (.t 199)
   (.seq (.reg false [
     ⟨some 8, .mv, [.bool false], none, []⟩])
   .ret)
   .skip)))))
 (.clean (.reg false [
   ⟨some 95, .mv, [.t 18], none, []⟩,
   ⟨some 96, .bin .add, [.t 95, .int .i64 1], none, []⟩,
   ⟨some 18, .mv, [.t 96], none, []⟩]))))
def x3_0d : List Nat := [8, 18, 19, 20, 21, 22, 23, 24, 25]
def x3 : XF := ⟨201, [.tmp 8], [0, 1, 2, 3, 8, 9, 10, 11, 12, 13, 14, 15, 16, 17, 18, 19, 20, 21, 22, 23, 24, 25],
 (.seq (.reg false [
   ⟨some 8, .mv, [.bool false], none, []⟩])
 (.seq (.reg false [
   ⟨some 26, .call 7, [], none, []⟩,
   ⟨some 9, .mv, [.t 26], none, []⟩])
 (.seq (.seq (.reg false [
   ⟨some 27, .mv, [.t 0], none, []⟩,
   ⟨some 28, .len false, [.t 27], none, []⟩,
   ⟨some 29, .bin .gtr, [.t 28, .int .i64 30], none, []⟩,
   ⟨some 30, .mv, [.t 29], none, []⟩,
   ⟨some 31, .mv, [.t 2], some (3, 30, false), []⟩,
   ⟨some 32, .len false, [.t 31], some (3, 30, false), []⟩,
   ⟨some 33, .bin .gtr, [.t 32, .int .i64 30], some (3, 30, false), []⟩,
   ⟨some 34, .pick, [.t 30, .bool true, .t 33], none, []⟩,
   ⟨some 35, .mv, [.t 34], none, []⟩,
   ⟨some 36, .mv, [.t 3], some (8, 35, false), []⟩,
   ⟨some 37, .len false, [.t 36], some (8, 35, false), []⟩,
   ⟨some 38, .bin .gtr, [.t 37, .int .i64 40], some (8, 35, false), []⟩,
   ⟨some 39, .pick, [.t 35, .bool true, .t 38], none, []⟩])
 (.cond (.t 39)
  (.seq (.reg false [
    ⟨some 40, .mv, [.t 9], none, []⟩,
    ⟨some 8, .mv, [.t 40], none, []⟩])
  .ret)
  .skip))
 (.clean (.seq (.reg false [
   ⟨some 41, .mv, [.t 0], none, []⟩,
   ⟨some 42, .mv, [.t 1], none, []⟩,
   ⟨some 43, .mv, [.t 2], none, []⟩,
   ⟨some 44, .build (.st (.cons (.sl .str) (.cons (.int .i64) (.sl (.int .i64))))) [(0, (.sl .str)), (1, (.int .i64)), (2, (.sl (.int .i64)))], [.t 41, .t 42, .t 43], none, []⟩,
   ⟨some 10, .alloc 27 (.st (.cons (.sl .str) (.cons (.int .i64) (.sl (.int .i64))))), [], none, []⟩,
   ⟨none, .store (.st (.cons (.sl .str) (.cons (.int .i64) (.sl (.int .i64))))), [.t 10, .t 44], none, []⟩])
 (.seq (.icall false [
   ⟨some 46, .mv, [.t 0], none, []⟩,
   ⟨some 47, .mv, [.t 1], none, []⟩,
   ⟨some 48, .mv, [.t 2], none, []⟩] ⟨some 49, .callv, [.fn 8, .t 46, .t 47, .t 48], none, []⟩ [
   ⟨some 45, .mv, [.t 49], none, []⟩,
   ⟨some 50, .extract 0, [.t 45], none, []⟩,
   ⟨some 51, .extract 1, [.t 45], none, []⟩,
   ⟨some 11, .mv, [.t 50], none, []⟩,
   ⟨some 12, .mv, [.t 51], none, []⟩] 8 x8.n x8.res x8.kv x8.code)
 (.clean (.seq (.seq (.reg false [
   ⟨some 52, .load (.st (.cons (.sl .str) (.cons (.int .i64) (.sl (.int .i64))))), [.t 10], none, []⟩,
   ⟨some 53, .call 9, [.t 52], none, []⟩,
   ⟨some 54, .mv, [.t 12], none, []⟩,
   ⟨some 55, .beq true .bool, [.t 53, .t 54], none, []⟩])
 (.cond (.t 55)
  (.seq (.reg false [
    ⟨some 8, .mv, [.bool false], none, []⟩])
  .ret)
  .skip))
 (.clean (.seq (.seq (.reg false [
   ⟨some 56, .mv, [.t 12], none, []⟩,
   ⟨some 57, .not, [.t 56], none, []⟩])
 (.cond (.t 57)
  (.seq (.reg false [
    ⟨some 59, .load (.st (.cons (.sl .str) (.cons (.int .i64) (.sl (.int .i64))))), [.t 10], none, []⟩,
    ⟨some 60, .call 10, [.t 59, .str ⟨#[]⟩], none, []⟩,
    ⟨some 58, .mv, [.t 60], none, []⟩,
    ⟨some 61, .extract 0, [.t 58], none, []⟩,
    ⟨some 62, .extract 1, [.t 58], none, []⟩,
    ⟨some 13, .alloc 27 (.st (.cons (.sl .str) (.cons (.int .i64) (.sl (.int .i64))))), [], none, []⟩,
    ⟨none, .store (.st (.cons (.sl .str) (.cons (.int .i64) (.sl (.int .i64))))), [.t 13, .t 61], none, []⟩,
    ⟨some 14, .mv, [.t 62], none, []⟩])
  (.clean (.seq (.reg false [
    ⟨some 64, .load (.st (.cons (.sl .str) (.cons (.int .i64) (.sl (.int .i64))))), [.t 10], none, []⟩,
    ⟨some 65, .call 11, [.t 64, .int .i64 0], none, []⟩,
    ⟨some 63, .mv, [.t 65], none, []⟩,
    ⟨some 66, .extract 0, [.t 63], none, []⟩,
    ⟨some 67, .extract 1, [.t 63], none, []⟩,
    ⟨some 68, .extract 2, [.t 63], none, []⟩,
    ⟨some 15, .alloc 27 (.st (.cons (.sl .str) (.cons (.int .i64) (.sl (.int .i64))))), [], none, []⟩,
    ⟨none, .store (.st (.cons (.sl .str) (.cons (.int .i64) (.sl (.int .i64))))), [.t 15, .t 66], none, []⟩,
    ⟨some 16, .mv, [.t 67], none, []⟩,
    ⟨some 17, .mv, [.t 68], none, []⟩])
  (.clean (.seq (.reg true [
    ⟨some 69, .mv, [.t 9], none, []⟩,
    ⟨some 70, .mv, [.t 69], none, [0]⟩,
    ⟨some 71, .mv, [.t 14], some (1, 70, true), [1, 0]⟩,
    ⟨some 72, .bin .eql, [.t 71, .int .i64 1], some (1, 70, true), [2, 1, 0]⟩,
    ⟨some 73, .pick, [.t 70, .t 72, .bool false], none, [1, 0, 3, 2]⟩,
    ⟨some 74, .mv, [.t 73], none, [4, 1, 0, 3, 2]⟩,
    ⟨some 75, .mv, [.t 17], some (5, 74, true), [5, 4, 1, 0, 3, 2]⟩,
    ⟨some 76, .bin .eql, [.t 75, .int .i64 1], some (5, 74, true), [6, 5, 4, 1, 0, 3, 2]⟩,
    ⟨some 77, .pick, [.t 74, .t 76, .bool false], none, [5, 4, 1, 0, 3, 2, 7, 6]⟩,
    ⟨some 78, .mv, [.t 77], none, [8, 5, 4, 1, 0, 3, 2, 7, 6]⟩,
    ⟨some 79, .mv, [.t 16], some (9, 78, true), [9, 8, 5, 4, 1, 0, 3, 2, 7, 6]⟩,
    ⟨some 80, .len false, [.t 79], some (9, 78, true), [10, 9, 8, 5, 4, 1, 0, 3, 2, 7, 6]⟩,
    ⟨some 81, .load (.st (.cons (.sl .str) (.cons (.int .i64) (.sl (.int .i64))))), [.t 10], some (9, 78, true), [9, 8, 5, 4, 1, 0, 3, 2, 7, 6]⟩,
    ⟨some 82, .call 12, [.t 81], some (9, 78, true), [12, 9, 8, 5, 4, 1, 0, 3, 2, 7, 6]⟩,
    ⟨some 83, .len false, [.t 82], some (9, 78, true), [13, 12, 9, 8, 5, 4, 1, 0, 3, 2, 7, 6]⟩,
    ⟨some 84, .bin .add, [.t 80, .t 83], some (9, 78, true), [11, 10, 9, 8, 5, 4, 1, 0, 3, 2, 7, 6, 14, 13, 12]⟩,
    ⟨some 85, .load (.st (.cons (.sl .str) (.cons (.int .i64) (.sl (.int .i64))))), [.t 10], some (9, 78, true), [9, 8, 5, 4, 1, 0, 3, 2, 7, 6]⟩,
    ⟨some 86, .call 13, [.t 85], some (9, 78, true), [16, 9, 8, 5, 4, 1, 0, 3, 2, 7, 6, 13, 12]⟩,
    ⟨some 87, .len false, [.t 86], some (9, 78, true), [17, 16, 9, 8, 5, 4, 1, 0, 3, 2, 7, 6, 13, 12]⟩,
    ⟨some 88, .bin .add, [.t 84, .t 87], some (9, 78, true), [15, 11, 10, 9, 8, 5, 4, 1, 0, 3, 2, 7, 6, 14, 13, 12, 18, 17, 16]⟩,
    ⟨some 89, .bin .eql, [.t 88, .int .i64 0], some (9, 78, true), [19, 15, 11, 10, 9, 8, 5, 4, 1, 0, 3, 2, 7, 6, 14, 13, 12, 18, 17, 16]⟩,
    ⟨some 90, .pick, [.t 78, .t 89, .bool false], none, [9, 8, 5, 4, 1, 0, 3, 2, 7, 6, 20, 19, 15, 11, 10, 14, 13, 12, 18, 17, 16]⟩,
    ⟨some 8, .mv, [.t 90], none, [21, 9, 8, 5, 4, 1, 0, 3, 2, 7, 6, 20, 19, 15, 11, 10, 14, 13, 12, 18, 17, 16]⟩])
  .ret)))))
  .skip))
 (.clean (.seq (.seq (.reg false [
   ⟨some 18, .mv, [.int .i64 0], none, []⟩])
 (.block 0 (.loop x3_0)))
 (.seq (.reg false [
   ⟨some 200, .mv, [.t 9], none, []⟩,
   ⟨some 8, .mv, [.t 200], none, []⟩])
 .ret)))))))))))))⟩
/- 0=sent 1=next 2=early 3=acts 8= 9=head 10=w 11=m 12=fine 13=_ 14=e 15=_ 16=l 17=f 18=i 19=x 20=e 21=x 22=got 23=e 24=want 25=f -/
/-! tonneau/tonneaulaw42.PostOnce -/
def x4_0 : XC := (.seq (.seq (.reg false [
   ⟨some 19, .mv, [.t 7], none, []⟩,
   ⟨some 20, .mv, [.t 0], none, []⟩,
   ⟨some 21, .len false, [.t 20], none, []⟩,
   ⟨some 22, .bin .lss, [.t 19, .t 21], none, []⟩])
 (.cond (.t 22)
  .skip
  (.exit 0)))
 (.seq (.block 1 (.seq (.seq (.reg false [
    ⟨some 25, .mv, [.t 0], none, []⟩,
    ⟨some 26, .mv, [.t 7], none, []⟩,
    ⟨some 27, .iaddr (.st (.cons (.int .i64) (.cons (.int .i64) .str))), [.t 25, .t 26], none, []⟩,
    ⟨some 28, .faddr 0 (.int .i64), [.t 27], none, []⟩,
    ⟨some 29, .load (.int .i64), [.t 28], none, []⟩,
    ⟨some 30, .bin .eql, [.t 29, .int .i64 0], none, []⟩])
  (.cond (.t 30)
   (.seq (.reg true [
     ⟨some 32, .load (.st (.cons (.sl .str) (.cons (.int .i64) (.sl (.int .i64))))), [.t 4], none, []⟩,
     ⟨some 33, .mv, [.t 0], none, []⟩,
     ⟨some 34, .mv, [.t 7], none, []⟩,
     ⟨some 35, .iaddr (.st (.cons (.int .i64) (.cons (.int .i64) .str))), [.t 33, .t 34], none, [1, 2]⟩,
     ⟨some 36, .faddr 2 .str, [.t 35], none, [3, 1, 2]⟩,
     ⟨some 37, .load .str, [.t 36], none, [4, 3, 1, 2]⟩,
     ⟨some 38, .call 10, [.t 32, .t 37], none, [0, 5, 4, 3, 1, 2]⟩,
     ⟨some 31, .mv, [.t 38], none, [6, 0, 5, 4, 3, 1, 2]⟩,
     ⟨some 39, .extract 0, [.t 31], none, [7, 6, 0, 5, 4, 3, 1, 2]⟩,
     ⟨some 40, .extract 1, [.t 31], none, [7, 6, 0, 5, 4, 3, 1, 2]⟩,
     ⟨some 8, .alloc 27 (.st (.cons (.sl .str) (.cons (.int .i64) (.sl (.int .i64))))), [], none, []⟩,
     ⟨none, .store (.st (.cons (.sl .str) (.cons (.int .i64) (.sl (.int .i64))))), [.t 8, .t 39], none, [10, 8, 7, 6, 0, 5, 4, 3, 1, 2]⟩,
     ⟨some 9, .mv, [.t 40], none, [9, 7, 6, 0, 5, 4, 3, 1, 2, 11, 10, 8]⟩])
   (.clean (.seq (.seq (.reg false [
     ⟨some 41, .mv, [.t 9], none, []⟩,
     ⟨some 42, .bin .neq, [.t 41, .int .i64 0], none, []⟩])
   (.cond (.t 42)
    (.seq (.reg false [
      ⟨some 2, .mv, [.bool false], none, []⟩])
    .ret)
    .skip))
   (.seq (.reg false [
     ⟨some 43, .mv, [.t 5], none, []⟩,
     ⟨some 44, .mv, [.t 0], none, []⟩,
     ⟨some 45, .mv, [.t 7], none, []⟩,
     ⟨some 46, .iaddr (.st (.cons (.int .i64) (.cons (.int .i64) .str))), [.t 44, .t 45], none, []⟩,
     ⟨some 47, .faddr 2 .str, [.t 46], none, []⟩,
     ⟨some 48, .load .str, [.t 47], none, []⟩,
     ⟨some 49, .bslice 9 .str 1 [0], [.t 48], none, []⟩,
     ⟨some 50, .append 9 .str 16, [.t 43, .t 49], none, []⟩,
     ⟨some 5, .mv, [.t 50], none, []⟩])
   (.seq (.reg false [
     ⟨some 51, .load (.st (.cons (.sl .str) (.cons (.int .i64) (.sl (.int .i64))))), [.t 8], none, []⟩,
     ⟨none, .store (.st (.cons (.sl .str) (.cons (.int .i64) (.sl (.int .i64))))), [.t 4, .t 51], none, []⟩])
   (.exit 1))))))
   .skip))
  (.clean (.seq (.reg true [
    ⟨some 53, .load (.st (.cons (.sl .str) (.cons (.int .i64) (.sl (.int .i64))))), [.t 4], none, []⟩,
    ⟨some 54, .mv, [.t 0], none, []⟩,
    ⟨some 55, .mv, [.t 7], none, []⟩,
    ⟨some 56, .iaddr (.st (.cons (.int .i64) (.cons (.int .i64) .str))), [.t 54, .t 55], none, [1, 2]⟩,
    ⟨some 57, .faddr 1 (.int .i64), [.t 56], none, [3, 1, 2]⟩,
    ⟨some 58, .load (.int .i64), [.t 57], none, [4, 3, 1, 2]⟩,
    ⟨some 59, .call 11, [.t 53, .t 58], none, [0, 5, 4, 3, 1, 2]⟩,
    ⟨some 52, .mv, [.t 59], none, [6, 0, 5, 4, 3, 1, 2]⟩,
    ⟨some 60, .extract 0, [.t 52], none, [7, 6, 0, 5, 4, 3, 1, 2]⟩,
    ⟨some 61, .extract 1, [.t 52], none, [7, 6, 0, 5, 4, 3, 1, 2]⟩,
    ⟨some 62, .extract 2, [.t 52], none, [7, 6, 0, 5, 4, 3, 1, 2]⟩,
    ⟨some 10, .alloc 27 (.st (.cons (.sl .str) (.cons (.int .i64) (.sl (.int .i64))))), [], none, []⟩,
    ⟨none, .store (.st (.cons (.sl .str) (.cons (.int .i64) (.sl (.int .i64))))), [.t 10, .t 60], none, [11, 8, 7, 6, 0, 5, 4, 3, 1, 2]⟩,
    ⟨some 11, .mv, [.t 61], none, [9, 7, 6, 0, 5, 4, 3, 1, 2, 12, 11, 8]⟩,
    ⟨some 12, .mv, [.t 62], none, [10, 7, 6, 0, 5, 4, 3, 1, 2, 13, 9, 12, 11, 8]⟩])
  (.clean (.seq (.seq (.reg false [
    ⟨some 63, .mv, [.t 12], none, []⟩,
    ⟨some 64, .bin .neq, [.t 63, .int .i64 0], none, []⟩,
    ⟨some 65, .mv, [.t 64], none, []⟩,
    ⟨some 66, .mv, [.t 11], some (2, 65, true), []⟩,
    ⟨some 67, .len false, [.t 66], some (2, 65, true), []⟩,
    ⟨some 68, .bin .gtr, [.t 67, .int .i64 0], some (2, 65, true), []⟩,
    ⟨some 69, .mv, [.t 68], some (2, 65, true), []⟩,
    ⟨some 70, .mv, [.t 12], some (6, 69, false), []⟩,
    ⟨some 71, .bin .neq, [.t 70, .int .i64 4], some (6, 69, false), []⟩,
    ⟨some 72, .mv, [.t 71], some (6, 69, false), []⟩,
    ⟨some 73, .mv, [.t 12], some (9, 72, true), []⟩,
    ⟨some 74, .bin .neq, [.t 73, .int .i64 5], some (9, 72, true), []⟩,
    ⟨some 75, .pick, [.t 72, .t 74, .bool false], some (6, 69, false), []⟩,
    ⟨some 76, .pick, [.t 69, .bool true, .t 75], some (2, 65, true), []⟩,
    ⟨some 77, .mv, [.t 76], some (2, 65, true), []⟩,
    ⟨some 78, .mv, [.t 12], some (14, 77, false), []⟩,
    ⟨some 79, .bin .eql, [.t 78, .int .i64 4], some (14, 77, false), []⟩,
    ⟨some 80, .mv, [.t 0], some (14, 77, false), []⟩,
    ⟨some 81, .mv, [.t 7], some (14, 77, false), []⟩,
    ⟨some 82, .iaddr (.st (.cons (.int .i64) (.cons (.int .i64) .str))), [.t 80, .t 81], some (14, 77, false), []⟩,
    ⟨some 83, .faddr 1 (.int .i64), [.t 82], some (14, 77, false), []⟩,
    ⟨some 84, .load (.int .i64), [.t 83], some (14, 77, false), []⟩,
    ⟨some 85, .bin .lss, [.t 84, .int .i64 0], some (14, 77, false), []⟩,
    ⟨some 86, .mv, [.t 85], some (14, 77, false), []⟩,
    ⟨some 87, .mv, [.t 0], some (23, 86, false), []⟩,
    ⟨some 88, .mv, [.t 7], some (23, 86, false), []⟩,
    ⟨some 89, .iaddr (.st (.cons (.int .i64) (.cons (.int .i64) .str))), [.t 87, .t 88], some (23, 86, false), []⟩,
    ⟨some 90, .faddr 1 (.int .i64), [.t 89], some (23, 86, false), []⟩,
    ⟨some 91, .load (.int .i64), [.t 90], some (23, 86, false), []⟩,
    ⟨some 92, .mv, [.t 5], some (23, 86, false), []⟩,
    ⟨some 93, .len false, [.t 92], some (23, 86, false), []⟩,
    ⟨some 94, .bin .geq, [.t 91, .t 93], some (23, 86, false), []⟩,
    ⟨some 95, .pick, [.t 86, .bool true, .t 94], some (14, 77, false), []⟩,
    ⟨some 96, .beq true .bool, [.t 79, .t 95], some (14, 77, false), []⟩,
    ⟨some 97, .pick, [.t 77, .bool true, .t 96], some (2, 65, true), []⟩,
    ⟨some 98, .pick, [.t 65, .t 97, .bool false], none, []⟩])
  (.cond (.t 98)
   (.seq (.reg false [
     ⟨some 2, .mv, [.bool false], none, []⟩])
   .ret)
   .skip))
  (.clean (.seq (.seq (.reg false [
    ⟨some 99, .mv, [.t 12], none, []⟩,
    ⟨some 100, .bin .eql, [.t 99, .int .i64 0], none, []⟩])
  (.cond (.t 100)
   (.seq (.reg false [
     ⟨some 101, .mv, [.t 6], none, []⟩,
     ⟨some 102, .mv, [.t 11], none, []⟩,
     ⟨some 103, .append 9 .str 16, [.t 101, .t 102], none, []⟩,
     ⟨some 6, .mv, [.t 103], none, []⟩])
   (.reg false [
     ⟨some 104, .load (.st (.cons (.sl .str) (.cons (.int .i64) (.sl (.int .i64))))), [.t 10], none, []⟩,
     ⟨none, .store (.st (.cons (.sl .str) (.cons (.int .i64) (.sl (.int .i64))))), [.t 4, .t 104], none, []⟩]))
   .skip))
  (.clean (.seq (.seq (.reg false [
    ⟨some 105, .mv, [.t 6], none, []⟩,
    ⟨some 106, .len false, [.t 105], none, []⟩,
    ⟨some 107, .mv, [.t 5], none, []⟩,
    ⟨some 108, .len false, [.t 107], none, []⟩,
    ⟨some 109, .bin .gtr, [.t 106, .t 108], none, []⟩,
    ⟨some 110, .mv, [.t 109], none, []⟩,
    ⟨some 111, .load (.st (.cons (.sl .str) (.cons (.int .i64) (.sl (.int .i64))))), [.t 4], some (5, 110, false), []⟩,
    ⟨some 112, .call 9, [.t 111], some (5, 110, false), []⟩,
    ⟨some 113, .not, [.t 112], some (5, 110, false), []⟩,
    ⟨some 114, .pick, [.t 110, .bool true, .t 113], none, []⟩])
  (.cond (.t 114)
   (.seq (.reg false [
     ⟨some 2, .mv, [.bool false], none, []⟩])
   .ret)
   .skip))
  (.clean (.seq (.reg true [
    ⟨some 115, .mv, [.t 6], none, []⟩,
    ⟨some 116, .mv, [.t 5], none, []⟩,
    ⟨some 117, .mv, [.t 6], none, []⟩,
    ⟨some 118, .len false, [.t 117], none, [2]⟩,
    ⟨some 119, .slice .str false true true, [.t 116, .t 118], none, [1, 3, 2]⟩,
    ⟨some 120, .call 16, [.t 115, .t 119], none, [0, 4, 1, 3, 2]⟩,
    ⟨some 121, .not, [.t 120], none, [5, 0, 4, 1, 3, 2]⟩,
    ⟨some 122, .mv, [.t 121], none, [6, 5, 0, 4, 1, 3, 2]⟩,
    ⟨some 123, .load (.st (.cons (.sl .str) (.cons (.int .i64) (.sl (.int .i64))))), [.t 4], some (7, 122, false), [7, 6, 5, 0, 4, 1, 3, 2]⟩,
    ⟨some 124, .call 12, [.t 123], some (7, 122, false), [8, 7, 6, 5, 0, 4, 1, 3, 2]⟩,
    ⟨some 125, .mv, [.t 5], some (7, 122, false), [7, 6, 5, 0, 4, 1, 3, 2]⟩,
    ⟨some 126, .mv, [.t 6], some (7, 122, false), [7, 6, 5, 0, 4, 1, 3, 2]⟩,
    ⟨some 127, .len false, [.t 126], some (7, 122, false), [11, 7, 6, 5, 0, 4, 1, 3, 2]⟩,
    ⟨some 128, .slice .str true false true, [.t 125, .t 127], some (7, 122, false), [10, 7, 6, 5, 0, 4, 1, 3, 2, 12, 11]⟩,
    ⟨some 129, .call 16, [.t 124, .t 128], some (7, 122, false), [9, 8, 7, 6, 5, 0, 4, 1, 3, 2, 13, 10, 12, 11]⟩,
    ⟨some 130, .not, [.t 129], some (7, 122, false), [14, 9, 8, 7, 6, 5, 0, 4, 1, 3, 2, 13, 10, 12, 11]⟩,
    ⟨some 131, .pick, [.t 122, .bool true, .t 130], none, [7, 6, 5, 0, 4, 1, 3, 2, 15, 14, 9, 8, 13, 10, 12, 11]⟩])
  (.cond (.t 131)
   (.seq (.reg false [
     ⟨some 2, .mv, [.bool false], none, []⟩])
   .ret)
   .skip)))))))))))))
 (.clean (.reg false [
   ⟨some 23, .mv, [.t 7], none, []⟩,
   ⟨some 24, .bin .add, [.t 23, .int .i64 1], none, []⟩,
   ⟨some 7, .mv, [.t 24], none, []⟩]))))
def x4_0d : List Nat := [2, 5, 6, 7, 8, 9, 10, 11, 12]
def x4 : XF := ⟨133, [.tmp 2], [0, 2, 3, 4, 5, 6, 7, 8, 9, 10, 11, 12],
 (.seq (.reg false [
   ⟨some 2, .mv, [.bool false], none, []⟩])
 (.seq (.reg false [
   ⟨some 13, .call 7, [], none, []⟩,
   ⟨some 3, .mv, [.t 13], none, []⟩])
 (.seq (.seq (.reg false [
   ⟨some 14, .mv, [.t 0], none, []⟩,
   ⟨some 15, .len false, [.t 14], none, []⟩,
   ⟨some 16, .bin .gtr, [.t 15, .int .i64 60], none, []⟩])
 (.cond (.t 16)
  (.seq (.reg false [
    ⟨some 17, .mv, [.t 3], none, []⟩,
    ⟨some 2, .mv, [.t 17], none, []⟩])
  .ret)
  .skip))
 (.clean (.seq (.reg false [
   ⟨some 18, .build (.st (.cons (.sl .str) (.cons (.int .i64) (.sl (.int .i64))))) [], [], none, []⟩,
   ⟨some 4, .alloc 27 (.st (.cons (.sl .str) (.cons (.int .i64) (.sl (.int .i64))))), [], none, []⟩,
   ⟨none, .store (.st (.cons (.sl .str) (.cons (.int .i64) (.sl (.int .i64))))), [.t 4, .t 18], none, []⟩])
 (.seq (.reg false [
   ⟨some 5, .nilrow 9 .str, [], none, []⟩])
 (.seq (.reg false [
   ⟨some 6, .nilrow 9 .str, [], none, []⟩])
 (.seq (.seq (.reg false [
   ⟨some 7, .mv, [.int .i64 0], none, []⟩])
 (.block 0 (.loop x4_0)))
 (.seq (.reg false [
   ⟨some 132, .mv, [.t 3], none, []⟩,
   ⟨some 2, .mv, [.t 132], none, []⟩])
 .ret)))))))))⟩
/- 0=acts 2= 3=head 4=w 5=sent 6=got 7=i 8=x 9=e 10=x 11=l 12=e -/
/-! tonneau/tonneaulaw42.PostAgain -/
def x5_0 : XC := (.seq (.seq (.reg false [
   ⟨some 30, .mv, [.t 7], none, []⟩,
   ⟨some 31, .mv, [.t 0], none, []⟩,
   ⟨some 32, .len false, [.t 31], none, []⟩,
   ⟨some 33, .bin .lss, [.t 30, .t 32], none, []⟩])
 (.cond (.t 33)
  .skip
  (.exit 0)))
 (.seq (.block 1 (.seq (.seq (.reg false [
    ⟨some 36, .mv, [.t 0], none, []⟩,
    ⟨some 37, .mv, [.t 7], none, []⟩,
    ⟨some 38, .iaddr (.st (.cons (.int .i64) (.cons (.int .i64) .str))), [.t 36, .t 37], none, []⟩,
    ⟨some 39, .faddr 0 (.int .i64), [.t 38], none, []⟩,
    ⟨some 40, .load (.int .i64), [.t 39], none, []⟩,
    ⟨some 41, .bin .eql, [.t 40, .int .i64 0], none, []⟩])
  (.cond (.t 41)
   (.seq (.reg true [
     ⟨some 43, .load (.st (.cons (.sl .str) (.cons (.int .i64) (.sl (.int .i64))))), [.t 6], none, []⟩,
     ⟨some 44, .mv, [.t 0], none, []⟩,
     ⟨some 45, .mv, [.t 7], none, []⟩,
     ⟨some 46, .iaddr (.st (.cons (.int .i64) (.cons (.int .i64) .str))), [.t 44, .t 45], none, [1, 2]⟩,
     ⟨some 47, .faddr 2 .str, [.t 46], none, [3, 1, 2]⟩,
     ⟨some 48, .load .str, [.t 47], none, [4, 3, 1, 2]⟩,
     ⟨some 49, .call 10, [.t 43, .t 48], none, [0, 5, 4, 3, 1, 2]⟩,
     ⟨some 42, .mv, [.t 49], none, [6, 0, 5, 4, 3, 1, 2]⟩,
     ⟨some 50, .extract 0, [.t 42], none, [7, 6, 0, 5, 4, 3, 1, 2]⟩,
     ⟨some 51, .extract 1, [.t 42], none, [7, 6, 0, 5, 4, 3, 1, 2]⟩,
     ⟨some 8, .alloc 27 (.st (.cons (.sl .str) (.cons (.int .i64) (.sl (.int .i64))))), [], none, []⟩,
     ⟨none, .store (.st (.cons (.sl .str) (.cons (.int .i64) (.sl (.int .i64))))), [.t 8, .t 50], none, [10, 8, 7, 6, 0, 5, 4, 3, 1, 2]⟩,
     ⟨some 9, .mv, [.t 51], none, [9, 7, 6, 0, 5, 4, 3, 1, 2, 11, 10, 8]⟩])
   (.clean (.seq (.seq (.reg false [
     ⟨some 52, .mv, [.t 9], none, []⟩,
     ⟨some 53, .bin .neq, [.t 52, .int .i64 0], none, []⟩])
   (.cond (.t 53)
    (.seq (.reg false [
      ⟨some 4, .mv, [.bool false], none, []⟩])
    .ret)
    .skip))
   (.seq (.reg false [
     ⟨some 54, .load (.st (.cons (.sl .str) (.cons (.int .i64) (.sl (.int .i64))))), [.t 8], none, []⟩,
     ⟨none, .store (.st (.cons (.sl .str) (.cons (.int .i64) (.sl (.int .i64))))), [.t 6, .t 54], none, []⟩])
   (.exit 1)))))
   .skip))
  (.clean (.seq (.reg true [
    ⟨some 56, .load (.st (.cons (.sl .str) (.cons (.int .i64) (.sl (.int .i64))))), [.t 6], none, []⟩,
    ⟨some 57, .mv, [.t 0], none, []⟩,
    ⟨some 58, .mv, [.t 7], none, []⟩,
    ⟨some 59, .iaddr (.st (.cons (.int .i64) (.cons (.int .i64) .str))), [.t 57, .t 58], none, [1, 2]⟩,
    ⟨some 60, .faddr 1 (.int .i64), [.t 59], none, [3, 1, 2]⟩,
    ⟨some 61, .load (.int .i64), [.t 60], none, [4, 3, 1, 2]⟩,
    ⟨some 62, .call 11, [.t 56, .t 61], none, [0, 5, 4, 3, 1, 2]⟩,
    ⟨some 55, .mv, [.t 62], none, [6, 0, 5, 4, 3, 1, 2]⟩,
    ⟨some 63, .extract 0, [.t 55], none, [7, 6, 0, 5, 4, 3, 1, 2]⟩,
    ⟨some 64, .extract 1, [.t 55], none, [7, 6, 0, 5, 4, 3, 1, 2]⟩,
    ⟨some 65, .extract 2, [.t 55], none, [7, 6, 0, 5, 4, 3, 1, 2]⟩,
    ⟨some 10, .alloc 27 (.st (.cons (.sl .str) (.cons (.int .i64) (.sl (.int .i64))))), [], none, []⟩,
    ⟨none, .store (.st (.cons (.sl .str) (.cons (.int .i64) (.sl (.int .i64))))), [.t 10, .t 63], none, [11, 8, 7, 6, 0, 5, 4, 3, 1, 2]⟩,
    ⟨some 11, .mv, [.t 64], none, [9, 7, 6, 0, 5, 4, 3, 1, 2, 12, 11, 8]⟩,
    ⟨some 12, .mv, [.t 65], none, [10, 7, 6, 0, 5, 4, 3, 1, 2, 13, 9, 12, 11, 8]⟩])
  (.clean (.seq (.reg false [
    ⟨some 66, .mv, [.t 12], none, []⟩,
    ⟨some 67, .bin .eql, [.t 66, .int .i64 0], none, []⟩])
  (.cond (.t 67)
   (.reg false [
     ⟨some 68, .load (.st (.cons (.sl .str) (.cons (.int .i64) (.sl (.int .i64))))), [.t 10], none, []⟩,
     ⟨none, .store (.st (.cons (.sl .str) (.cons (.int .i64) (.sl (.int .i64))))), [.t 6, .t 68], none, []⟩])
   .skip)))))))
 (.clean (.reg false [
   ⟨some 34, .mv, [.t 7], none, []⟩,
   ⟨some 35, .bin .add, [.t 34, .int .i64 1], none, []⟩,
   ⟨some 7, .mv, [.t 35], none, []⟩]))))
def x5_0d : List Nat := [4, 7, 8, 9, 10, 12]
def x5_1 : XC := (.seq (.seq (.reg false [
   ⟨some 73, .mv, [.t 16], none, []⟩,
   ⟨some 74, .mv, [.t 13], none, []⟩,
   ⟨some 75, .len false, [.t 74], none, []⟩,
   ⟨some 76, .bin .lss, [.t 73, .t 75], none, []⟩])
 (.cond (.t 76)
  .skip
  (.exit 2)))
 (.seq (.block 3 (.seq (.reg false [
    ⟨some 79, .mv, [.t 13], none, []⟩,
    ⟨some 80, .mv, [.t 16], none, []⟩,
    ⟨some 81, .mv, [.t 1], none, []⟩,
    ⟨some 82, .conv .i64, [.t 81], none, []⟩,
    ⟨some 83, .bin .add, [.t 80, .t 82], none, []⟩,
    ⟨some 84, .mv, [.t 13], none, []⟩,
    ⟨some 85, .len false, [.t 84], none, []⟩,
    ⟨some 86, .bin .rem, [.t 83, .t 85], none, []⟩,
    ⟨some 87, .iaddr (.int .i64), [.t 79, .t 86], none, []⟩,
    ⟨some 88, .load (.int .i64), [.t 87], none, []⟩,
    ⟨some 17, .mv, [.t 88], none, []⟩])
  (.clean (.seq (.reg false [
    ⟨some 90, .load (.st (.cons (.sl .str) (.cons (.int .i64) (.sl (.int .i64))))), [.t 6], none, []⟩,
    ⟨some 91, .mv, [.t 17], none, []⟩,
    ⟨some 92, .call 11, [.t 90, .t 91], none, []⟩,
    ⟨some 89, .mv, [.t 92], none, []⟩,
    ⟨some 93, .extract 0, [.t 89], none, []⟩,
    ⟨some 94, .extract 1, [.t 89], none, []⟩,
    ⟨some 95, .extract 2, [.t 89], none, []⟩,
    ⟨some 18, .alloc 27 (.st (.cons (.sl .str) (.cons (.int .i64) (.sl (.int .i64))))), [], none, []⟩,
    ⟨none, .store (.st (.cons (.sl .str) (.cons (.int .i64) (.sl (.int .i64))))), [.t 18, .t 93], none, []⟩,
    ⟨some 19, .mv, [.t 94], none, []⟩,
    ⟨some 20, .mv, [.t 95], none, []⟩])
  (.clean (.seq (.reg false [
    ⟨some 97, .load (.st (.cons (.sl .str) (.cons (.int .i64) (.sl (.int .i64))))), [.t 18], none, []⟩,
    ⟨some 98, .mv, [.t 17], none, []⟩,
    ⟨some 99, .call 11, [.t 97, .t 98], none, []⟩,
    ⟨some 96, .mv, [.t 99], none, []⟩,
    ⟨some 100, .extract 0, [.t 96], none, []⟩,
    ⟨some 101, .extract 1, [.t 96], none, []⟩,
    ⟨some 102, .extract 2, [.t 96], none, []⟩,
    ⟨some 21, .alloc 27 (.st (.cons (.sl .str) (.cons (.int .i64) (.sl (.int .i64))))), [], none, []⟩,
    ⟨none, .store (.st (.cons (.sl .str) (.cons (.int .i64) (.sl (.int .i64))))), [.t 21, .t 100], none, []⟩,
    ⟨some 22, .mv, [.t 101], none, []⟩,
    ⟨some 23, .mv, [.t 102], none, []⟩])
  (.clean (.seq (.seq (.reg false [
    ⟨some 103, .mv, [.t 20], none, []⟩,
    ⟨some 104, .bin .neq, [.t 103, .int .i64 0], none, []⟩,
    ⟨some 105, .mv, [.t 104], none, []⟩,
    ⟨some 106, .mv, [.t 23], some (2, 105, false), []⟩,
    ⟨some 107, .bin .neq, [.t 106, .int .i64 5], some (2, 105, false), []⟩,
    ⟨some 108, .pick, [.t 105, .bool true, .t 107], none, []⟩,
    ⟨some 109, .mv, [.t 108], none, []⟩,
    ⟨some 110, .mv, [.t 22], some (6, 109, false), []⟩,
    ⟨some 111, .len false, [.t 110], some (6, 109, false), []⟩,
    ⟨some 112, .bin .gtr, [.t 111, .int .i64 0], some (6, 109, false), []⟩,
    ⟨some 113, .pick, [.t 109, .bool true, .t 112], none, []⟩])
  (.cond (.t 113)
   (.seq (.reg false [
     ⟨some 4, .mv, [.bool false], none, []⟩])
   .ret)
   .skip))
  (.clean (.seq (.reg false [
    ⟨some 114, .mv, [.t 15], none, []⟩,
    ⟨some 115, .mv, [.t 19], none, []⟩,
    ⟨some 116, .append 9 .str 16, [.t 114, .t 115], none, []⟩,
    ⟨some 15, .mv, [.t 116], none, []⟩])
  (.reg false [
    ⟨some 117, .load (.st (.cons (.sl .str) (.cons (.int .i64) (.sl (.int .i64))))), [.t 18], none, []⟩,
    ⟨none, .store (.st (.cons (.sl .str) (.cons (.int .i64) (.sl (.int .i64))))), [.t 6, .t 117], none, []⟩])))))))))))
 (.clean (.reg false [
   ⟨some 77, .mv, [.t 16], none, []⟩,
   ⟨some 78, .bin .add, [.t 77, .int .i64 1], none, []⟩,
   ⟨some 16, .mv, [.t 78], none, []⟩]))))
def x5_1d : List Nat := [4, 15, 16, 17, 18, 19, 20, 21, 22, 23]
def x5 : XF := ⟨142, [.tmp 4], [0, 1, 4, 5, 6, 7, 8, 9, 10, 12, 13, 14, 15, 16, 17, 18, 19, 20, 21, 22, 23],
 (.seq (.reg false [
   ⟨some 4, .mv, [.bool false], none, []⟩])
 (.seq (.reg false [
   ⟨some 24, .call 7, [], none, []⟩,
   ⟨some 5, .mv, [.t 24], none, []⟩])
 (.seq (.seq (.reg false [
   ⟨some 25, .mv, [.t 0], none, []⟩,
   ⟨some 26, .len false, [.t 25], none, []⟩,
   ⟨some 27, .bin .gtr, [.t 26, .int .i64 40], none, []⟩])
 (.cond (.t 27)
  (.seq (.reg false [
    ⟨some 28, .mv, [.t 5], none, []⟩,
    ⟨some 4, .mv, [.t 28], none, []⟩])
  .ret)
  .skip))
 (.clean (.seq (.reg false [
   ⟨some 29, .build (.st (.cons (.sl .str) (.cons (.int .i64) (.sl (.int .i64))))) [], [], none, []⟩,
   ⟨some 6, .alloc 27 (.st (.cons (.sl .str) (.cons (.int .i64) (.sl (.int .i64))))), [], none, []⟩,
   ⟨none, .store (.st (.cons (.sl .str) (.cons (.int .i64) (.sl (.int .i64))))), [.t 6, .t 29], none, []⟩])
 (.seq (.seq (.reg false [
   ⟨some 7, .mv, [.int .i64 0], none, []⟩])
 (.block 0 (.loop x5_0)))
 (.clean (.seq (.reg false [
   ⟨some 69, .load (.st (.cons (.sl .str) (.cons (.int .i64) (.sl (.int .i64))))), [.t 6], none, []⟩,
   ⟨some 70, .call 13, [.t 69], none, []⟩,
   ⟨some 13, .mv, [.t 70], none, []⟩])
 (.seq (.reg false [
   ⟨some 71, .load (.st (.cons (.sl .str) (.cons (.int .i64) (.sl (.int .i64))))), [.t 6], none, []⟩,
   ⟨some 72, .call 12, [.t 71], none, []⟩,
   ⟨some 14, .mv, [.t 72], none, []⟩])
 (.seq (.reg false [
   ⟨some 15, .nilrow 9 .str, [], none, []⟩])
 (.seq (.seq (.reg false [
   ⟨some 16, .mv, [.int .i64 0], none, []⟩])
 (.block 2 (.loop x5_1)))
 (.clean (.seq (.reg true [
   ⟨some 118, .mv, [.t 5], none, []⟩,
   ⟨some 119, .mv, [.t 118], none, [0]⟩,
   ⟨some 120, .mv, [.t 15], some (1, 119, true), [1, 0]⟩,
   ⟨some 121, .mv, [.t 14], some (1, 119, true), [1, 0]⟩,
   ⟨some 122, .call 16, [.t 120, .t 121], some (1, 119, true), [2, 1, 0, 3]⟩,
   ⟨some 123, .pick, [.t 119, .t 122, .bool false], none, [1, 0, 4, 2, 3]⟩,
   ⟨some 124, .mv, [.t 123], none, [5, 1, 0, 4, 2, 3]⟩,
   ⟨some 125, .load (.st (.cons (.sl .str) (.cons (.int .i64) (.sl (.int .i64))))), [.t 6], some (6, 124, true), [6, 5, 1, 0, 4, 2, 3]⟩,
   ⟨some 126, .call 12, [.t 125], some (6, 124, true), [7, 6, 5, 1, 0, 4, 2, 3]⟩,
   ⟨some 127, .len false, [.t 126], some (6, 124, true), [8, 7, 6, 5, 1, 0, 4, 2, 3]⟩,
   ⟨some 128, .load (.st (.cons (.sl .str) (.cons (.int .i64) (.sl (.int .i64))))), [.t 6], some (6, 124, true), [6, 5, 1, 0, 4, 2, 3]⟩,
   ⟨some 129, .call 13, [.t 128], some (6, 124, true), [10, 6, 5, 1, 0, 4, 2, 3, 8, 7]⟩,
   ⟨some 130, .len false, [.t 129], some (6, 124, true), [11, 10, 6, 5, 1, 0, 4, 2, 3, 8, 7]⟩,
   ⟨some 131, .bin .add, [.t 127, .t 130], some (6, 124, true), [9, 8, 7, 6, 5, 1, 0, 4, 2, 3, 12, 11, 10]⟩,
   ⟨some 132, .bin .eql, [.t 131, .int .i64 0], some (6, 124, true), [13, 9, 8, 7, 6, 5, 1, 0, 4, 2, 3, 12, 11, 10]⟩,
   ⟨some 133, .pick, [.t 124, .t 132, .bool false], none, [6, 5, 1, 0, 4, 2, 3, 14, 13, 9, 8, 7, 12, 11, 10]⟩,
   ⟨some 134, .mv, [.t 133], none, [15, 6, 5, 1, 0, 4, 2, 3, 14, 13, 9, 8, 7, 12, 11, 10]⟩,
   ⟨some 135, .faddr 1 (.int .i64), [.t 6], some (16, 134, true), [16, 15, 6, 5, 1, 0, 4, 2, 3, 14, 13, 9, 8, 7, 12, 11, 10]⟩,
   ⟨some 136, .load (.int .i64), [.t 135], some (16, 134, true), [17, 16, 15, 6, 5, 1, 0, 4, 2, 3, 14, 13, 9, 8, 7, 12, 11, 10]⟩,
   ⟨some 137, .faddr 0 (.sl .str), [.t 6], some (16, 134, true), [16, 15, 6, 5, 1, 0, 4, 2, 3, 14, 13, 9, 8, 7, 12, 11, 10]⟩,
   ⟨some 138, .load (.sl .str), [.t 137], some (16, 134, true), [19, 16, 15, 6, 5, 1, 0, 4, 2, 3, 14, 13, 9, 8, 7, 12, 11, 10]⟩,
   ⟨some 139, .len false, [.t 138], some (16, 134, true), [20, 19, 16, 15, 6, 5, 1, 0, 4, 2, 3, 14, 13, 9, 8, 7, 12, 11, 10]⟩,
   ⟨some 140, .bin .eql, [.t 136, .t 139], some (16, 134, true), [18, 17, 16, 15, 6, 5, 1, 0, 4, 2, 3, 14, 13, 9, 8, 7, 12, 11, 10, 21, 20, 19]⟩,
   ⟨some 141, .pick, [.t 134, .t 140, .bool false], none, [16, 15, 6, 5, 1, 0, 4, 2, 3, 14, 13, 9, 8, 7, 12, 11, 10, 22, 18, 17, 21, 20, 19]⟩,
   ⟨some 4, .mv, [.t 141], none, [23, 16, 15, 6, 5, 1, 0, 4, 2, 3, 14, 13, 9, 8, 7, 12, 11, 10, 22, 18, 17, 21, 20, 19]⟩])
 .ret)))))))))))))⟩
/- 0=acts 1=turn 4= 5=head 6=w 7=i 8=x 9=e 10=x 12=e 13=again 14=flight 15=got 16=i 17=n 18=x 19=l 20=e 21=_ 22=more 23=f -/
/-! tonneau/tonneaulaw42.PostLater -/
def x6_0 : XC := (.seq (.seq (.reg false [
   ⟨some 41, .mv, [.t 11], none, []⟩,
   ⟨some 42, .mv, [.t 1], none, []⟩,
   ⟨some 43, .len false, [.t 42], none, []⟩,
   ⟨some 44, .bin .lss, [.t 41, .t 43], none, []⟩])
 (.cond (.t 44)
  .skip
  (.exit 0)))
 (.seq (.block 1 (.seq (.seq (.reg false [
    ⟨some 47, .mv, [.t 1], none, []⟩,
    ⟨some 48, .mv, [.t 11], none, []⟩,
    ⟨some 49, .iaddr (.int .i64), [.t 47, .t 48], none, []⟩,
    ⟨some 50, .load (.int .i64), [.t 49], none, []⟩,
    ⟨some 51, .mv, [.t 0], none, []⟩,
    ⟨some 52, .len false, [.t 51], none, []⟩,
    ⟨some 53, .bin .geq, [.t 50, .t 52], none, []⟩])
  (.cond (.t 53)
   (.exit 1)
   .skip))
  (.clean (.seq (.reg true [
    ⟨some 55, .load (.st (.cons (.sl .str) (.cons (.int .i64) (.sl (.int .i64))))), [.t 8], none, []⟩,
    ⟨some 56, .mv, [.t 1], none, []⟩,
    ⟨some 57, .mv, [.t 11], none, []⟩,
    ⟨some 58, .iaddr (.int .i64), [.t 56, .t 57], none, [1, 2]⟩,
    ⟨some 59, .load (.int .i64), [.t 58], none, [3, 1, 2]⟩,
    ⟨some 60, .call 11, [.t 55, .t 59], none, [0, 4, 3, 1, 2]⟩,
    ⟨some 54, .mv, [.t 60], none, [5, 0, 4, 3, 1, 2]⟩,
    ⟨some 61, .extract 0, [.t 54], none, [6, 5, 0, 4, 3, 1, 2]⟩,
    ⟨some 62, .extract 1, [.t 54], none, [6, 5, 0, 4, 3, 1, 2]⟩,
    ⟨some 63, .extract 2, [.t 54], none, [6, 5, 0, 4, 3, 1, 2]⟩,
    ⟨some 12, .alloc 27 (.st (.cons (.sl .str) (.cons (.int .i64) (.sl (.int .i64))))), [], none, []⟩,
    ⟨none, .store (.st (.cons (.sl .str) (.cons (.int .i64) (.sl (.int .i64))))), [.t 12, .t 61], none, [10, 7, 6, 5, 0, 4, 3, 1, 2]⟩,
    ⟨some 13, .mv, [.t 62], none, [8, 6, 5, 0, 4, 3, 1, 2, 11, 10, 7]⟩,
    ⟨some 14, .mv, [.t 63], none, [9, 6, 5, 0, 4, 3, 1, 2, 12, 8, 11, 10, 7]⟩])
  (.clean (.seq (.reg true [
    ⟨some 65, .load (.st (.cons (.sl .str) (.cons (.int .i64) (.sl (.int .i64))))), [.t 9], none, []⟩,
    ⟨some 66, .mv, [.t 1], none, []⟩,
    ⟨some 67, .mv, [.t 11], none, []⟩,
    ⟨some 68, .iaddr (.int .i64), [.t 66, .t 67], none, [1, 2]⟩,
    ⟨some 69, .load (.int .i64), [.t 68], none, [3, 1, 2]⟩,
    ⟨some 70, .call 11, [.t 65, .t 69], none, [0, 4, 3, 1, 2]⟩,
    ⟨some 64, .mv, [.t 70], none, [5, 0, 4, 3, 1, 2]⟩,
    ⟨some 71, .extract 0, [.t 64], none, [6, 5, 0, 4, 3, 1, 2]⟩,
    ⟨some 72, .extract 1, [.t 64], none, [6, 5, 0, 4, 3, 1, 2]⟩,
    ⟨some 73, .extract 2, [.t 64], none, [6, 5, 0, 4, 3, 1, 2]⟩,
    ⟨some 15, .alloc 27 (.st (.cons (.sl .str) (.cons (.int .i64) (.sl (.int .i64))))), [], none, []⟩,
    ⟨none, .store (.st (.cons (.sl .str) (.cons (.int .i64) (.sl (.int .i64))))), [.t 15, .t 71], none, [10, 7, 6, 5, 0, 4, 3, 1, 2]⟩,
    ⟨some 16, .mv, [.t 72], none, [8, 6, 5, 0, 4, 3, 1, 2, 11, 10, 7]⟩,
    ⟨some 17, .mv, [.t 73], none, [9, 6, 5, 0, 4, 3, 1, 2, 12, 8, 11, 10, 7]⟩])
  (.clean (.seq (.seq (.reg false [
    ⟨some 74, .mv, [.t 14], none, []⟩,
    ⟨some 75, .mv, [.t 17], none, []⟩,
    ⟨some 76, .bin .neq, [.t 74, .t 75], none, []⟩,
    ⟨some 77, .mv, [.t 76], none, []⟩,
    ⟨some 78, .mv, [.t 13], some (3, 77, false), []⟩,
    ⟨some 79, .mv, [.t 16], some (3, 77, false), []⟩,
    ⟨some 80, .call 16, [.t 78, .t 79], some (3, 77, false), []⟩,
    ⟨some 81, .not, [.t 80], some (3, 77, false), []⟩,
    ⟨some 82, .pick, [.t 77, .bool true, .t 81], none, []⟩])
  (.cond (.t 82)
   (.seq (.reg false [
     ⟨some 6, .mv, [.bool false], none, []⟩])
   .ret)
   .skip))
  (.clean (.seq (.seq (.reg false [
    ⟨some 83, .mv, [.t 14], none, []⟩,
    ⟨some 84, .bin .eql, [.t 83, .int .i64 0], none, []⟩])
  (.cond (.t 84)
   (.seq (.reg false [
     ⟨some 85, .load (.st (.cons (.sl .str) (.cons (.int .i64) (.sl (.int .i64))))), [.t 12], none, []⟩,
     ⟨none, .store (.st (.cons (.sl .str) (.cons (.int .i64) (.sl (.int .i64))))), [.t 8, .t 85], none, []⟩])
   (.reg false [
     ⟨some 86, .load (.st (.cons (.sl .str) (.cons (.int .i64) (.sl (.int .i64))))), [.t 15], none, []⟩,
     ⟨none, .store (.st (.cons (.sl .str) (.cons (.int .i64) (.sl (.int .i64))))), [.t 9, .t 86], none, []⟩]))
   .skip))
  (.reg false [
    ⟨some 87, .mv, [.t 10], none, []⟩,
    ⟨some 88, .mv, [.t 13], none, []⟩,
    ⟨some 89, .len false, [.t 88], none, []⟩,
    ⟨some 90, .bin .add, [.t 87, .t 89], none, []⟩,
    ⟨some 10, .mv, [.t 90], none, []⟩])))))))))))
 (.clean (.reg false [
   ⟨some 45, .mv, [.t 11], none, []⟩,
   ⟨some 46, .bin .add, [.t 45, .int .i64 1], none, []⟩,
   ⟨some 11, .mv, [.t 46], none, []⟩]))))
def x6_0d : List Nat := [6, 10, 11, 12, 13, 14, 15, 16, 17]
def x6 : XF := ⟨128, [.tmp 6], [0, 1, 2, 6, 7, 8, 9, 10, 11, 12, 13, 14, 15, 16, 17],
 (.seq (.reg false [
   ⟨some 6, .mv, [.bool false], none, []⟩])
 (.seq (.reg false [
   ⟨some 18, .call 7, [], none, []⟩,
   ⟨some 7, .mv, [.t 18], none, []⟩])
 (.seq (.seq (.reg false [
   ⟨some 19, .mv, [.t 0], none, []⟩,
   ⟨some 20, .len false, [.t 19], none, []⟩,
   ⟨some 21, .bin .gtr, [.t 20, .int .i64 30], none, []⟩,
   ⟨some 22, .mv, [.t 21], none, []⟩,
   ⟨some 23, .mv, [.t 1], some (3, 22, false), []⟩,
   ⟨some 24, .len false, [.t 23], some (3, 22, false), []⟩,
   ⟨some 25, .bin .gtr, [.t 24, .int .i64 30], some (3, 22, false), []⟩,
   ⟨some 26, .pick, [.t 22, .bool true, .t 25], none, []⟩,
   ⟨some 27, .mv, [.t 26], none, []⟩,
   ⟨some 28, .mv, [.t 2], some (8, 27, false), []⟩,
   ⟨some 29, .len false, [.t 28], some (8, 27, false), []⟩,
   ⟨some 30, .bin .gtr, [.t 29, .int .i64 10], some (8, 27, false), []⟩,
   ⟨some 31, .pick, [.t 27, .bool true, .t 30], none, []⟩])
 (.cond (.t 31)
  (.seq (.reg false [
    ⟨some 32, .mv, [.t 7], none, []⟩,
    ⟨some 6, .mv, [.t 32], none, []⟩])
  .ret)
  .skip))
 (.clean (.seq (.reg false [
   ⟨some 33, .mv, [.t 0], none, []⟩,
   ⟨some 34, .build (.st (.cons (.sl .str) (.cons (.int .i64) (.sl (.int .i64))))) [(0, (.sl .str))], [.t 33], none, []⟩,
   ⟨some 8, .alloc 27 (.st (.cons (.sl .str) (.cons (.int .i64) (.sl (.int .i64))))), [], none, []⟩,
   ⟨none, .store (.st (.cons (.sl .str) (.cons (.int .i64) (.sl (.int .i64))))), [.t 8, .t 34], none, []⟩])
 (.seq (.reg false [
   ⟨some 35, .bslice 9 .str 0 [], [], none, []⟩,
   ⟨some 36, .mv, [.t 0], none, []⟩,
   ⟨some 37, .append 9 .str 16, [.t 35, .t 36], none, []⟩,
   ⟨some 38, .mv, [.t 2], none, []⟩,
   ⟨some 39, .append 9 .str 16, [.t 37, .t 38], none, []⟩,
   ⟨some 40, .build (.st (.cons (.sl .str) (.cons (.int .i64) (.sl (.int .i64))))) [(0, (.sl .str))], [.t 39], none, []⟩,
   ⟨some 9, .alloc 27 (.st (.cons (.sl .str) (.cons (.int .i64) (.sl (.int .i64))))), [], none, []⟩,
   ⟨none, .store (.st (.cons (.sl .str) (.cons (.int .i64) (.sl (.int .i64))))), [.t 9, .t 40], none, []⟩])
 (.clean (.seq (.reg false [
   ⟨some 10, .mv, [.int .i64 0], none, []⟩])
 (.seq (.seq (.reg false [
   ⟨some 11, .mv, [.int .i64 0], none, []⟩])
 (.block 0 (.loop x6_0)))
 (.clean (.seq (.reg true [
   ⟨some 91, .mv, [.t 7], none, []⟩,
   ⟨some 92, .mv, [.t 91], none, [0]⟩,
   ⟨some 93, .mv, [.t 10], some (1, 92, true), [1, 0]⟩,
   ⟨some 94, .load (.st (.cons (.sl .str) (.cons (.int .i64) (.sl (.int .i64))))), [.t 8], some (1, 92, true), [1, 0]⟩,
   ⟨some 95, .call 12, [.t 94], some (1, 92, true), [3, 1, 0]⟩,
   ⟨some 96, .len false, [.t 95], some (1, 92, true), [4, 3, 1, 0]⟩,
   ⟨some 97, .bin .add, [.t 93, .t 96], some (1, 92, true), [2, 1, 0, 5, 4, 3]⟩,
   ⟨some 98, .mv, [.t 0], some (1, 92, true), [1, 0]⟩,
   ⟨some 99, .len false, [.t 98], some (1, 92, true), [7, 1, 0]⟩,
   ⟨some 100, .bin .eql, [.t 97, .t 99], some (1, 92, true), [6, 2, 1, 0, 5, 4, 3, 8, 7]⟩,
   ⟨some 101, .pick, [.t 92, .t 100, .bool false], none, [1, 0, 9, 6, 2, 5, 4, 3, 8, 7]⟩,
   ⟨some 102, .mv, [.t 101], none, [10, 1, 0, 9, 6, 2, 5, 4, 3, 8, 7]⟩,
   ⟨some 103, .load (.st (.cons (.sl .str) (.cons (.int .i64) (.sl (.int .i64))))), [.t 9], some (11, 102, true), [11, 10, 1, 0, 9, 6, 2, 5, 4, 3, 8, 7]⟩,
   ⟨some 104, .call 12, [.t 103], some (11, 102, true), [12, 11, 10, 1, 0, 9, 6, 2, 5, 4, 3, 8, 7]⟩,
   ⟨some 105, .len false, [.t 104], some (11, 102, true), [13, 12, 11, 10, 1, 0, 9, 6, 2, 5, 4, 3, 8, 7]⟩,
   ⟨some 106, .load (.st (.cons (.sl .str) (.cons (.int .i64) (.sl (.int .i64))))), [.t 8], some (11, 102, true), [11, 10, 1, 0, 9, 6, 2, 5, 4, 3, 8, 7]⟩,
   ⟨some 107, .call 12, [.t 106], some (11, 102, true), [15, 11, 10, 1, 0, 9, 6, 2, 5, 4, 3, 8, 7, 13, 12]⟩,
   ⟨some 108, .len false, [.t 107], some (11, 102, true), [16, 15, 11, 10, 1, 0, 9, 6, 2, 5, 4, 3, 8, 7, 13, 12]⟩,
   ⟨some 109, .mv, [.t 2], some (11, 102, true), [11, 10, 1, 0, 9, 6, 2, 5, 4, 3, 8, 7]⟩,
   ⟨some 110, .len false, [.t 109], some (11, 102, true), [18, 11, 10, 1, 0, 9, 6, 2, 5, 4, 3, 8, 7]⟩,
   ⟨some 111, .bin .add, [.t 108, .t 110], some (11, 102, true), [17, 16, 15, 11, 10, 1, 0, 9, 6, 2, 5, 4, 3, 8, 7, 13, 12, 19, 18]⟩,
   ⟨some 112, .bin .eql, [.t 105, .t 111], some (11, 102, true), [14, 13, 12, 11, 10, 1, 0, 9, 6, 2, 5, 4, 3, 8, 7, 20, 17, 16, 15, 19, 18]⟩,
   ⟨some 113, .pick, [.t 102, .t 112, .bool false], none, [11, 10, 1, 0, 9, 6, 2, 5, 4, 3, 8, 7, 21, 14, 13, 12, 20, 17, 16, 15, 19, 18]⟩,
   ⟨some 114, .mv, [.t 113], none, [22, 11, 10, 1, 0, 9, 6, 2, 5, 4, 3, 8, 7, 21, 14, 13, 12, 20, 17, 16, 15, 19, 18]⟩,
   ⟨some 115, .faddr 1 (.int .i64), [.t 8], some (23, 114, true), [23, 22, 11, 10, 1, 0, 9, 6, 2, 5, 4, 3, 8, 7, 21, 14, 13, 12, 20, 17, 16, 15, 19, 18]⟩,
   ⟨some 116, .load (.int .i64), [.t 115], some (23, 114, true), [24, 23, 22, 11, 10, 1, 0, 9, 6, 2, 5, 4, 3, 8, 7, 21, 14, 13, 12, 20, 17, 16, 15, 19, 18]⟩,
   ⟨some 117, .faddr 1 (.int .i64), [.t 9], some (23, 114, true), [23, 22, 11, 10, 1, 0, 9, 6, 2, 5, 4, 3, 8, 7, 21, 14, 13, 12, 20, 17, 16, 15, 19, 18]⟩,
   ⟨some 118, .load (.int .i64), [.t 117], some (23, 114, true), [26, 23, 22, 11, 10, 1, 0, 9, 6, 2, 5, 4, 3, 8, 7, 21, 14, 13, 12, 20, 17, 16, 15, 19, 18]⟩,
   ⟨some 119, .bin .eql, [.t 116, .t 118], some (23, 114, true), [25, 24, 23, 22, 11, 10, 1, 0, 9, 6, 2, 5, 4, 3, 8, 7, 21, 14, 13, 12, 20, 17, 16, 15, 19, 18, 27, 26]⟩,
   ⟨some 120, .pick, [.t 114, .t 119, .bool false], none, [23, 22, 11, 10, 1, 0, 9, 6, 2, 5, 4, 3, 8, 7, 21, 14, 13, 12, 20, 17, 16, 15, 19, 18, 28, 25, 24, 27, 26]⟩,
   ⟨some 121, .mv, [.t 120], none, [29, 23, 22, 11, 10, 1, 0, 9, 6, 2, 5, 4, 3, 8, 7, 21, 14, 13, 12, 20, 17, 16, 15, 19, 18, 28, 25, 24, 27, 26]⟩,
   ⟨some 122, .faddr 2 (.sl (.int .i64)), [.t 8], some (30, 121, true), [30, 29, 23, 22, 11, 10, 1, 0, 9, 6, 2, 5, 4, 3, 8, 7, 21, 14, 13, 12, 20, 17, 16, 15, 19, 18, 28, 25, 24, 27, 26]⟩,
   ⟨some 123, .load (.sl (.int .i64)), [.t 122], some (30, 121, true), [31, 30, 29, 23, 22, 11, 10, 1, 0, 9, 6, 2, 5, 4, 3, 8, 7, 21, 14, 13, 12, 20, 17, 16, 15, 19, 18, 28, 25, 24, 27, 26]⟩,
   ⟨some 124, .faddr 2 (.sl (.int .i64)), [.t 9], some (30, 121, true), [30, 29, 23, 22, 11, 10, 1, 0, 9, 6, 2, 5, 4, 3, 8, 7, 21, 14, 13, 12, 20, 17, 16, 15, 19, 18, 28, 25, 24, 27, 26]⟩,
   ⟨some 125, .load (.sl (.int .i64)), [.t 124], some (30, 121, true), [33, 30, 29, 23, 22, 11, 10, 1, 0, 9, 6, 2, 5, 4, 3, 8, 7, 21, 14, 13, 12, 20, 17, 16, 15, 19, 18, 28, 25, 24, 27, 26]⟩,
   ⟨some 126, .call 18, [.t 123, .t 125], some (30, 121, true), [32, 31, 30, 29, 23, 22, 11, 10, 1, 0, 9, 6, 2, 5, 4, 3, 8, 7, 21, 14, 13, 12, 20, 17, 16, 15, 19, 18, 28, 25, 24, 27, 26, 34, 33]⟩,
   ⟨some 127, .pick, [.t 121, .t 126, .bool false], none, [30, 29, 23, 22, 11, 10, 1, 0, 9, 6, 2, 5, 4, 3, 8, 7, 21, 14, 13, 12, 20, 17, 16, 15, 19, 18, 28, 25, 24, 27, 26, 35, 32, 31, 34, 33]⟩,
   ⟨some 6, .mv, [.t 127], none, [36, 30, 29, 23, 22, 11, 10, 1, 0, 9, 6, 2, 5, 4, 3, 8, 7, 21, 14, 13, 12, 20, 17, 16, 15, 19, 18, 28, 25, 24, 27, 26, 35, 32, 31, 34, 33]⟩])
 .ret)))))))))))⟩
/- 0=first 1=numbers 2=more 6= 7=head 8=a 9=b 10=n 11=i 12=x 13=l 14=e 15=y 16=m 17=f -/
/-! tonneau/tonneaulaw42.small -/
def x7 : XF := ⟨156, [.tmp 0], [0, 1, 2, 3, 4, 5, 6, 7, 8, 10, 11, 12, 13, 14, 16, 17, 19, 20, 21, 22, 23],
 (.seq (.reg false [
   ⟨some 0, .mv, [.bool false], none, []⟩])
 (.seq (.reg false [
   ⟨some 24, .call 21, [.int .i64 0], none, []⟩,
   ⟨some 25, .call 21, [.int .i64 1], none, []⟩,
   ⟨some 26, .call 21, [.int .i64 2], none, []⟩,
   ⟨some 27, .call 21, [.int .i64 3], none, []⟩,
   ⟨some 28, .bslice 9 .str 4 [0, 1, 2, 3], [.t 24, .t 25, .t 26, .t 27], none, []⟩,
   ⟨some 29, .build (.st (.cons (.sl .str) (.cons (.int .i64) (.sl (.int .i64))))) [(0, (.sl .str))], [.t 28], none, []⟩,
   ⟨some 1, .alloc 27 (.st (.cons (.sl .str) (.cons (.int .i64) (.sl (.int .i64))))), [], none, []⟩,
   ⟨none, .store (.st (.cons (.sl .str) (.cons (.int .i64) (.sl (.int .i64))))), [.t 1, .t 29], none, []⟩])
 (.top (.clean (.seq (.reg false [
   ⟨some 31, .load (.st (.cons (.sl .str) (.cons (.int .i64) (.sl (.int .i64))))), [.t 1], none, []⟩,
   ⟨some 32, .call 11, [.t 31, .int .i64 1], none, []⟩,
   ⟨some 30, .mv, [.t 32], none, []⟩,
   ⟨some 33, .extract 0, [.t 30], none, []⟩,
   ⟨some 34, .extract 1, [.t 30], none, []⟩,
   ⟨some 35, .extract 2, [.t 30], none, []⟩,
   ⟨some 2, .alloc 27 (.st (.cons (.sl .str) (.cons (.int .i64) (.sl (.int .i64))))), [], none, []⟩,
   ⟨none, .store (.st (.cons (.sl .str) (.cons (.int .i64) (.sl (.int .i64))))), [.t 2, .t 33], none, []⟩,
   ⟨some 3, .mv, [.t 34], none, []⟩,
   ⟨some 4, .mv, [.t 35], none, []⟩])
 (.clean (.seq (.reg false [
   ⟨some 37, .load (.st (.cons (.sl .str) (.cons (.int .i64) (.sl (.int .i64))))), [.t 2], none, []⟩,
   ⟨some 38, .call 11, [.t 37, .int .i64 2], none, []⟩,
   ⟨some 36, .mv, [.t 38], none, []⟩,
   ⟨some 39, .extract 0, [.t 36], none, []⟩,
   ⟨some 40, .extract 1, [.t 36], none, []⟩,
   ⟨some 41, .extract 2, [.t 36], none, []⟩,
   ⟨some 5, .alloc 27 (.st (.cons (.sl .str) (.cons (.int .i64) (.sl (.int .i64))))), [], none, []⟩,
   ⟨none, .store (.st (.cons (.sl .str) (.cons (.int .i64) (.sl (.int .i64))))), [.t 5, .t 39], none, []⟩,
   ⟨some 6, .mv, [.t 40], none, []⟩,
   ⟨some 7, .mv, [.t 41], none, []⟩])
 (.clean (.seq (.reg false [
   ⟨some 43, .load (.st (.cons (.sl .str) (.cons (.int .i64) (.sl (.int .i64))))), [.t 5], none, []⟩,
   ⟨some 44, .call 11, [.t 43, .int .i64 1], none, []⟩,
   ⟨some 42, .mv, [.t 44], none, []⟩,
   ⟨some 45, .extract 0, [.t 42], none, []⟩,
   ⟨some 46, .extract 1, [.t 42], none, []⟩,
   ⟨some 47, .extract 2, [.t 42], none, []⟩,
   ⟨some 8, .alloc 27 (.st (.cons (.sl .str) (.cons (.int .i64) (.sl (.int .i64))))), [], none, []⟩,
   ⟨none, .store (.st (.cons (.sl .str) (.cons (.int .i64) (.sl (.int .i64))))), [.t 8, .t 45], none, []⟩,
   ⟨some 9, .mv, [.t 46], none, []⟩,
   ⟨some 10, .mv, [.t 47], none, []⟩])
 (.clean (.seq (.reg false [
   ⟨some 49, .load (.st (.cons (.sl .str) (.cons (.int .i64) (.sl (.int .i64))))), [.t 5], none, []⟩,
   ⟨some 50, .call 11, [.t 49, .int .i64 0], none, []⟩,
   ⟨some 48, .mv, [.t 50], none, []⟩,
   ⟨some 51, .extract 0, [.t 48], none, []⟩,
   ⟨some 52, .extract 1, [.t 48], none, []⟩,
   ⟨some 53, .extract 2, [.t 48], none, []⟩,
   ⟨some 11, .alloc 27 (.st (.cons (.sl .str) (.cons (.int .i64) (.sl (.int .i64))))), [], none, []⟩,
   ⟨none, .store (.st (.cons (.sl .str) (.cons (.int .i64) (.sl (.int .i64))))), [.t 11, .t 51], none, []⟩,
   ⟨some 12, .mv, [.t 52], none, []⟩,
   ⟨some 13, .mv, [.t 53], none, []⟩])
 (.clean (.seq (.reg false [
   ⟨some 55, .load (.st (.cons (.sl .str) (.cons (.int .i64) (.sl (.int .i64))))), [.t 11], none, []⟩,
   ⟨some 56, .call 11, [.t 55, .int .i64 0], none, []⟩,
   ⟨some 54, .mv, [.t 56], none, []⟩,
   ⟨some 57, .extract 0, [.t 54], none, []⟩,
   ⟨some 58, .extract 1, [.t 54], none, []⟩,
   ⟨some 59, .extract 2, [.t 54], none, []⟩,
   ⟨some 14, .alloc 27 (.st (.cons (.sl .str) (.cons (.int .i64) (.sl (.int .i64))))), [], none, []⟩,
   ⟨none, .store (.st (.cons (.sl .str) (.cons (.int .i64) (.sl (.int .i64))))), [.t 14, .t 57], none, []⟩,
   ⟨some 15, .mv, [.t 58], none, []⟩,
   ⟨some 16, .mv, [.t 59], none, []⟩])
 (.clean (.seq (.reg false [
   ⟨some 61, .load (.st (.cons (.sl .str) (.cons (.int .i64) (.sl (.int .i64))))), [.t 11], none, []⟩,
   ⟨some 62, .call 11, [.t 61, .int .i64 9], none, []⟩,
   ⟨some 60, .mv, [.t 62], none, []⟩,
   ⟨some 63, .extract 0, [.t 60], none, []⟩,
   ⟨some 64, .extract 1, [.t 60], none, []⟩,
   ⟨some 65, .extract 2, [.t 60], none, []⟩,
   ⟨some 17, .alloc 27 (.st (.cons (.sl .str) (.cons (.int .i64) (.sl (.int .i64))))), [], none, []⟩,
   ⟨none, .store (.st (.cons (.sl .str) (.cons (.int .i64) (.sl (.int .i64))))), [.t 17, .t 63], none, []⟩,
   ⟨some 18, .mv, [.t 64], none, []⟩,
   ⟨some 19, .mv, [.t 65], none, []⟩])
 (.clean (.seq (.reg false [
   ⟨some 67, .build (.st (.cons (.sl .str) (.cons (.int .i64) (.sl (.int .i64))))) [], [], none, []⟩,
   ⟨some 68, .call 21, [.int .i64 5], none, []⟩,
   ⟨some 69, .call 10, [.t 67, .t 68], none, []⟩,
   ⟨some 66, .mv, [.t 69], none, []⟩,
   ⟨some 70, .extract 0, [.t 66], none, []⟩,
   ⟨some 71, .extract 1, [.t 66], none, []⟩,
   ⟨some 20, .alloc 27 (.st (.cons (.sl .str) (.cons (.int .i64) (.sl (.int .i64))))), [], none, []⟩,
   ⟨none, .store (.st (.cons (.sl .str) (.cons (.int .i64) (.sl (.int .i64))))), [.t 20, .t 70], none, []⟩,
   ⟨some 21, .mv, [.t 71], none, []⟩])
 (.clean (.seq (.reg false [
   ⟨some 72, .mv, [.t 4], none, []⟩,
   ⟨some 73, .bin .eql, [.t 72, .int .i64 0], none, []⟩,
   ⟨some 74, .mv, [.t 73], none, []⟩,
   ⟨some 75, .mv, [.t 7], some (2, 74, true), []⟩,
   ⟨some 76, .bin .eql, [.t 75, .int .i64 0], some (2, 74, true), []⟩,
   ⟨some 77, .pick, [.t 74, .t 76, .bool false], none, []⟩,
   ⟨some 78, .mv, [.t 77], none, []⟩,
   ⟨some 79, .mv, [.t 10], some (6, 78, true), []⟩,
   ⟨some 80, .bin .eql, [.t 79, .int .i64 5], some (6, 78, true), []⟩,
   ⟨some 81, .pick, [.t 78, .t 80, .bool false], none, []⟩,
   ⟨some 82, .mv, [.t 81], none, []⟩,
   ⟨some 83, .mv, [.t 13], some (10, 82, true), []⟩,
   ⟨some 84, .bin .eql, [.t 83, .int .i64 0], some (10, 82, true), []⟩,
   ⟨some 85, .pick, [.t 82, .t 84, .bool false], none, []⟩,
   ⟨some 86, .mv, [.t 85], none, []⟩,
   ⟨some 87, .mv, [.t 16], some (14, 86, true), []⟩,
   ⟨some 88, .bin .eql, [.t 87, .int .i64 5], some (14, 86, true), []⟩,
   ⟨some 89, .pick, [.t 86, .t 88, .bool false], none, []⟩,
   ⟨some 90, .mv, [.t 89], none, []⟩,
   ⟨some 91, .mv, [.t 19], some (18, 90, true), []⟩,
   ⟨some 92, .bin .eql, [.t 91, .int .i64 4], some (18, 90, true), []⟩,
   ⟨some 93, .pick, [.t 90, .t 92, .bool false], none, []⟩,
   ⟨some 94, .mv, [.t 93], none, []⟩,
   ⟨some 95, .mv, [.t 21], some (22, 94, true), []⟩,
   ⟨some 96, .bin .eql, [.t 95, .int .i64 0], some (22, 94, true), []⟩,
   ⟨some 97, .pick, [.t 94, .t 96, .bool false], none, []⟩,
   ⟨some 98, .mv, [.t 97], none, []⟩,
   ⟨some 99, .mv, [.t 3], some (26, 98, true), []⟩,
   ⟨some 100, .len false, [.t 99], some (26, 98, true), []⟩,
   ⟨some 101, .mv, [.t 6], some (26, 98, true), []⟩,
   ⟨some 102, .len false, [.t 101], some (26, 98, true), []⟩,
   ⟨some 103, .bin .add, [.t 100, .t 102], some (26, 98, true), []⟩,
   ⟨some 104, .bin .eql, [.t 103, .int .i64 0], some (26, 98, true), []⟩,
   ⟨some 105, .pick, [.t 98, .t 104, .bool false], none, []⟩,
   ⟨some 106, .mv, [.t 105], none, []⟩,
   ⟨some 107, .faddr 0 (.sl .str), [.t 20], some (34, 106, true), []⟩,
   ⟨some 108, .load (.sl .str), [.t 107], some (34, 106, true), []⟩,
   ⟨some 109, .len false, [.t 108], some (34, 106, true), []⟩,
   ⟨some 110, .bin .eql, [.t 109, .int .i64 1], some (34, 106, true), []⟩,
   ⟨some 111, .pick, [.t 106, .t 110, .bool false], none, []⟩,
   ⟨some 22, .mv, [.t 111], none, []⟩])
 (.clean (.seq (.reg true [
   ⟨some 112, .mv, [.t 12], none, []⟩,
   ⟨some 113, .faddr 0 (.sl .str), [.t 1], none, []⟩,
   ⟨some 114, .load (.sl .str), [.t 113], none, [1]⟩,
   ⟨some 115, .slice .str false true false, [.t 114, .int .i64 3], none, [2, 1]⟩,
   ⟨some 116, .call 16, [.t 112, .t 115], none, [0, 3, 2, 1]⟩,
   ⟨some 117, .mv, [.t 116], none, [4, 0, 3, 2, 1]⟩,
   ⟨some 118, .load (.st (.cons (.sl .str) (.cons (.int .i64) (.sl (.int .i64))))), [.t 5], some (5, 117, true), [5, 4, 0, 3, 2, 1]⟩,
   ⟨some 119, .call 13, [.t 118], some (5, 117, true), [6, 5, 4, 0, 3, 2, 1]⟩,
   ⟨some 120, .bslice 3 (.int .i64) 2 [0, 1], [.int .i64 0, .int .i64 3], some (5, 117, true), [5, 4, 0, 3, 2, 1]⟩,
   ⟨some 121, .call 18, [.t 119, .t 120], some (5, 117, true), [7, 6, 5, 4, 0, 3, 2, 1, 8]⟩,
   ⟨some 122, .pick, [.t 117, .t 121, .bool false], none, [5, 4, 0, 3, 2, 1, 9, 7, 6, 8]⟩,
   ⟨some 123, .mv, [.t 122], none, [10, 5, 4, 0, 3, 2, 1, 9, 7, 6, 8]⟩,
   ⟨some 124, .load (.st (.cons (.sl .str) (.cons (.int .i64) (.sl (.int .i64))))), [.t 5], some (11, 123, true), [11, 10, 5, 4, 0, 3, 2, 1, 9, 7, 6, 8]⟩,
   ⟨some 125, .call 12, [.t 124], some (11, 123, true), [12, 11, 10, 5, 4, 0, 3, 2, 1, 9, 7, 6, 8]⟩,
   ⟨some 126, .len false, [.t 125], some (11, 123, true), [13, 12, 11, 10, 5, 4, 0, 3, 2, 1, 9, 7, 6, 8]⟩,
   ⟨some 127, .bin .eql, [.t 126, .int .i64 4], some (11, 123, true), [14, 13, 12, 11, 10, 5, 4, 0, 3, 2, 1, 9, 7, 6, 8]⟩,
   ⟨some 128, .pick, [.t 123, .t 127, .bool false], none, [11, 10, 5, 4, 0, 3, 2, 1, 9, 7, 6, 8, 15, 14, 13, 12]⟩,
   ⟨some 129, .mv, [.t 128], none, [16, 11, 10, 5, 4, 0, 3, 2, 1, 9, 7, 6, 8, 15, 14, 13, 12]⟩,
   ⟨some 130, .load (.st (.cons (.sl .str) (.cons (.int .i64) (.sl (.int .i64))))), [.t 11], some (17, 129, true), [17, 16, 11, 10, 5, 4, 0, 3, 2, 1, 9, 7, 6, 8, 15, 14, 13, 12]⟩,
   ⟨some 131, .call 12, [.t 130], some (17, 129, true), [18, 17, 16, 11, 10, 5, 4, 0, 3, 2, 1, 9, 7, 6, 8, 15, 14, 13, 12]⟩,
   ⟨some 132, .faddr 0 (.sl .str), [.t 1], some (17, 129, true), [17, 16, 11, 10, 5, 4, 0, 3, 2, 1, 9, 7, 6, 8, 15, 14, 13, 12]⟩,
   ⟨some 133, .load (.sl .str), [.t 132], some (17, 129, true), [20, 17, 16, 11, 10, 5, 4, 0, 3, 2, 1, 9, 7, 6, 8, 15, 14, 13, 12]⟩,
   ⟨some 134, .slice .str true false false, [.t 133, .int .i64 3], some (17, 129, true), [21, 20, 17, 16, 11, 10, 5, 4, 0, 3, 2, 1, 9, 7, 6, 8, 15, 14, 13, 12]⟩,
   ⟨some 135, .call 16, [.t 131, .t 134], some (17, 129, true), [19, 18, 17, 16, 11, 10, 5, 4, 0, 3, 2, 1, 9, 7, 6, 8, 15, 14, 13, 12, 22, 21, 20]⟩,
   ⟨some 136, .pick, [.t 129, .t 135, .bool false], none, [17, 16, 11, 10, 5, 4, 0, 3, 2, 1, 9, 7, 6, 8, 15, 14, 13, 12, 23, 19, 18, 22, 21, 20]⟩,
   ⟨some 137, .mv, [.t 136], none, [24, 17, 16, 11, 10, 5, 4, 0, 3, 2, 1, 9, 7, 6, 8, 15, 14, 13, 12, 23, 19, 18, 22, 21, 20]⟩,
   ⟨some 138, .load (.st (.cons (.sl .str) (.cons (.int .i64) (.sl (.int .i64))))), [.t 11], some (25, 137, true), [25, 24, 17, 16, 11, 10, 5, 4, 0, 3, 2, 1, 9, 7, 6, 8, 15, 14, 13, 12, 23, 19, 18, 22, 21, 20]⟩,
   ⟨some 139, .call 13, [.t 138], some (25, 137, true), [26, 25, 24, 17, 16, 11, 10, 5, 4, 0, 3, 2, 1, 9, 7, 6, 8, 15, 14, 13, 12, 23, 19, 18, 22, 21, 20]⟩,
   ⟨some 140, .bslice 3 (.int .i64) 1 [0], [.int .i64 3], some (25, 137, true), [25, 24, 17, 16, 11, 10, 5, 4, 0, 3, 2, 1, 9, 7, 6, 8, 15, 14, 13, 12, 23, 19, 18, 22, 21, 20]⟩,
   ⟨some 141, .call 18, [.t 139, .t 140], some (25, 137, true), [27, 26, 25, 24, 17, 16, 11, 10, 5, 4, 0, 3, 2, 1, 9, 7, 6, 8, 15, 14, 13, 12, 23, 19, 18, 22, 21, 20, 28]⟩,
   ⟨some 142, .pick, [.t 137, .t 141, .bool false], none, [25, 24, 17, 16, 11, 10, 5, 4, 0, 3, 2, 1, 9, 7, 6, 8, 15, 14, 13, 12, 23, 19, 18, 22, 21, 20, 29, 27, 26, 28]⟩,
   ⟨some 23, .mv, [.t 142], none, [30, 25, 24, 17, 16, 11, 10, 5, 4, 0, 3, 2, 1, 9, 7, 6, 8, 15, 14, 13, 12, 23, 19, 18, 22, 21, 20, 29, 27, 26, 28]⟩])
 (.clean (.seq (.reg false [
   ⟨some 143, .mv, [.t 22], none, []⟩,
   ⟨some 144, .mv, [.t 143], none, []⟩,
   ⟨some 145, .mv, [.t 23], some (1, 144, true), []⟩,
   ⟨some 146, .pick, [.t 144, .t 145, .bool false], none, []⟩,
   ⟨some 147, .mv, [.t 146], none, []⟩,
   ⟨some 148, .load (.st (.cons (.sl .str) (.cons (.int .i64) (.sl (.int .i64))))), [.t 11], some (4, 147, true), []⟩,
   ⟨some 149, .call 9, [.t 148], some (4, 147, true), []⟩,
   ⟨some 150, .pick, [.t 147, .t 149, .bool false], none, []⟩,
   ⟨some 151, .mv, [.t 150], none, []⟩,
   ⟨some 152, .build (.st (.cons (.sl .str) (.cons (.int .i64) (.sl (.int .i64))))) [(1, (.int .i64))], [.int .i64 1], some (8, 151, true), []⟩,
   ⟨some 153, .call 9, [.t 152], some (8, 151, true), []⟩,
   ⟨some 154, .not, [.t 153], some (8, 151, true), []⟩,
   ⟨some 155, .pick, [.t 151, .t 154, .bool false], none, []⟩,
   ⟨some 0, .mv, [.t 155], none, []⟩])
 .ret)))))))))))))))))))))))⟩
/- 0= 1=w 2=a 3=x 4=e 5=b 6=y 7=f 8=_ 10=g 11=c 12=z 13=h 14=_ 16=i 17=_ 19=k 20=d 21=l 22=one 23=two -/
/-! tonneau/post.Right -/
def x9_0 : XC := (.seq (.reg false [
   ⟨some 29, .bin .lss, [.t 28, .t 27], none, []⟩])
 (.seq (.cond (.t 29)
  .skip
  (.exit 0))
 (.seq (.block 1 (.seq (.reg false [
    ⟨some 30, .iaddr (.int .i64), [.t 26, .t 28], none, []⟩,
    ⟨some 31, .load (.int .i64), [.t 30], none, []⟩,
    ⟨some 5, .mv, [.t 31], none, []⟩])
  (.seq (.seq (.reg false [
    ⟨some 32, .mv, [.t 5], none, []⟩,
    ⟨some 33, .mv, [.t 3], none, []⟩,
    ⟨some 34, .bin .leq, [.t 32, .t 33], none, []⟩,
    ⟨some 35, .mv, [.t 34], none, []⟩,
    ⟨some 36, .mv, [.t 5], some (3, 35, false), []⟩,
    ⟨some 37, .faddr 0 (.sl .str), [.t 1], some (3, 35, false), []⟩,
    ⟨some 38, .load (.sl .str), [.t 37], some (3, 35, false), []⟩,
    ⟨some 39, .len false, [.t 38], some (3, 35, false), []⟩,
    ⟨some 40, .bin .geq, [.t 36, .t 39], some (3, 35, false), []⟩,
    ⟨some 41, .pick, [.t 35, .bool true, .t 40], none, []⟩])
  (.cond (.t 41)
   (.seq (.reg false [
     ⟨some 2, .mv, [.bool false], none, []⟩])
   .ret)
   .skip))
  (.reg false [
    ⟨some 42, .mv, [.t 5], none, []⟩,
    ⟨some 3, .mv, [.t 42], none, []⟩]))))
 (.reg false [
   ⟨some 43, .bin .add, [.t 28, .int .i64 1], none, []⟩,
   ⟨some 28, .mv, [.t 43], none, []⟩]))))
def x9_0d : List Nat := [2, 3, 5, 28]
def x9 : XF := ⟨44, [.tmp 2], [0, 1, 2, 3, 5, 26, 27, 28],
 (.seq (.reg false [
   ⟨some 1, .box 27, [.t 0], none, []⟩,
   ⟨some 2, .mv, [.bool false], none, []⟩])
 (.seq (.seq (.reg false [
   ⟨some 6, .faddr 0 (.sl .str), [.t 1], none, []⟩,
   ⟨some 7, .load (.sl .str), [.t 6], none, []⟩,
   ⟨some 8, .len false, [.t 7], none, []⟩,
   ⟨some 9, .bin .gtr, [.t 8, .int .i64 10000], none, []⟩,
   ⟨some 10, .mv, [.t 9], none, []⟩,
   ⟨some 11, .faddr 1 (.int .i64), [.t 1], some (4, 10, false), []⟩,
   ⟨some 12, .load (.int .i64), [.t 11], some (4, 10, false), []⟩,
   ⟨some 13, .bin .lss, [.t 12, .int .i64 0], some (4, 10, false), []⟩,
   ⟨some 14, .pick, [.t 10, .bool true, .t 13], none, []⟩,
   ⟨some 15, .mv, [.t 14], none, []⟩,
   ⟨some 16, .faddr 1 (.int .i64), [.t 1], some (9, 15, false), []⟩,
   ⟨some 17, .load (.int .i64), [.t 16], some (9, 15, false), []⟩,
   ⟨some 18, .faddr 0 (.sl .str), [.t 1], some (9, 15, false), []⟩,
   ⟨some 19, .load (.sl .str), [.t 18], some (9, 15, false), []⟩,
   ⟨some 20, .len false, [.t 19], some (9, 15, false), []⟩,
   ⟨some 21, .bin .gtr, [.t 17, .t 20], some (9, 15, false), []⟩,
   ⟨some 22, .pick, [.t 15, .bool true, .t 21], none, []⟩])
 (.cond (.t 22)
  (.seq (.reg false [
    ⟨some 2, .mv, [.bool false], none, []⟩])
  .ret)
  .skip))
 (.clean (.seq (.reg false [
   ⟨some 23, .faddr 1 (.int .i64), [.t 1], none, []⟩,
   ⟨some 24, .load (.int .i64), [.t 23], none, []⟩,
   ⟨some 3, .mv, [.t 24], none, []⟩])
 (.seq (.seq (.reg false [
   ⟨some 25, .faddr 2 (.sl (.int .i64)), [.t 1], none, []⟩,
   ⟨some 26, .load (.sl (.int .i64)), [.t 25], none, []⟩,
   ⟨some 27, .len false, [.t 26], none, []⟩,
   ⟨some 28, .mv, [.int .i64 0], none, []⟩])
 (.block 0 (.loop x9_0)))
 (.seq (.reg false [
   ⟨some 2, .mv, [.bool true], none, []⟩])
 .ret))))))⟩
/- 0=w 1=w 2= 3=last 5=n 26= 27= 28= -/
/-! tonneau/post.Send -/
def x10 : XF := ⟨25, [.cell 4 (.st (.cons (.sl .str) (.cons (.int .i64) (.sl (.int .i64))))), .tmp 5], [0, 1, 2, 4, 5, 6],
 (.seq (.reg false [
   ⟨some 2, .box 27, [.t 0], none, []⟩,
   ⟨some 4, .alloc 27 (.st (.cons (.sl .str) (.cons (.int .i64) (.sl (.int .i64))))), [], none, []⟩,
   ⟨some 5, .mv, [.int .i64 0], none, []⟩])
 (.seq (.seq (.reg false [
   ⟨some 7, .load (.st (.cons (.sl .str) (.cons (.int .i64) (.sl (.int .i64))))), [.t 2], none, []⟩,
   ⟨some 8, .call 9, [.t 7], none, []⟩,
   ⟨some 9, .not, [.t 8], none, []⟩])
 (.cond (.t 9)
  (.seq (.reg false [
    ⟨some 10, .build (.st (.cons (.sl .str) (.cons (.int .i64) (.sl (.int .i64))))) [], [], none, []⟩,
    ⟨none, .store (.st (.cons (.sl .str) (.cons (.int .i64) (.sl (.int .i64))))), [.t 4, .t 10], none, []⟩,
    ⟨some 5, .mv, [.int .i64 1], none, []⟩])
  .ret)
  .skip))
 (.clean (.seq (.seq (.reg false [
   ⟨some 11, .faddr 0 (.sl .str), [.t 2], none, []⟩,
   ⟨some 12, .load (.sl .str), [.t 11], none, []⟩,
   ⟨some 13, .len false, [.t 12], none, []⟩,
   ⟨some 14, .bin .eql, [.t 13, .int .i64 10000], none, []⟩])
 (.cond (.t 14)
  (.seq (.reg false [
    ⟨some 15, .build (.st (.cons (.sl .str) (.cons (.int .i64) (.sl (.int .i64))))) [], [], none, []⟩,
    ⟨none, .store (.st (.cons (.sl .str) (.cons (.int .i64) (.sl (.int .i64))))), [.t 4, .t 15], none, []⟩,
    ⟨some 5, .mv, [.int .i64 6], none, []⟩])
  .ret)
  .skip))
 (.clean (.seq (.icall false [
   ⟨some 16, .load (.st (.cons (.sl .str) (.cons (.int .i64) (.sl (.int .i64))))), [.t 2], none, []⟩] ⟨some 17, .callv, [.fn 22, .t 16], none, []⟩ [
   ⟨some 6, .alloc 27 (.st (.cons (.sl .str) (.cons (.int .i64) (.sl (.int .i64))))), [], none, []⟩,
   ⟨none, .store (.st (.cons (.sl .str) (.cons (.int .i64) (.sl (.int .i64))))), [.t 6, .t 17], none, []⟩] 22 x22.n x22.res x22.kv x22.code)
 (.seq (.reg false [
   ⟨some 18, .faddr 0 (.sl .str), [.t 6], none, []⟩,
   ⟨some 19, .load (.sl .str), [.t 18], none, []⟩,
   ⟨some 20, .mv, [.t 1], none, []⟩,
   ⟨some 21, .bslice 9 .str 1 [0], [.t 20], none, []⟩,
   ⟨some 22, .append 9 .str 16, [.t 19, .t 21], none, []⟩,
   ⟨some 23, .faddr 0 (.sl .str), [.t 6], none, []⟩,
   ⟨none, .store (.sl .str), [.t 23, .t 22], none, []⟩])
 (.seq (.reg false [
   ⟨some 24, .load (.st (.cons (.sl .str) (.cons (.int .i64) (.sl (.int .i64))))), [.t 6], none, []⟩,
   ⟨none, .store (.st (.cons (.sl .str) (.cons (.int .i64) (.sl (.int .i64))))), [.t 4, .t 24], none, []⟩,
   ⟨some 5, .mv, [.int .i64 0], none, []⟩])
 .ret))))))))⟩
/- 0=w 1=e 2=w 4= 5= 6=out -/
/-! tonneau/post.Arrive -/
def x11_0 : XC := (.seq (.seq (.reg true [
   ⟨some 57, .faddr 2 (.sl (.int .i64)), [.t 9], none, []⟩,
   ⟨some 58, .load (.sl (.int .i64)), [.t 57], none, [0]⟩,
   ⟨some 59, .len false, [.t 58], none, [1, 0]⟩,
   ⟨some 60, .bin .gtr, [.t 59, .int .i64 0], none, [2, 1, 0]⟩,
   ⟨some 61, .mv, [.t 60], none, [3, 2, 1, 0]⟩,
   ⟨some 62, .faddr 2 (.sl (.int .i64)), [.t 9], some (4, 61, true), [4, 3, 2, 1, 0]⟩,
   ⟨some 63, .load (.sl (.int .i64)), [.t 62], some (4, 61, true), [5, 4, 3, 2, 1, 0]⟩,
   ⟨some 64, .iaddr (.int .i64), [.t 63, .int .i64 0], some (4, 61, true), [6, 5, 4, 3, 2, 1, 0]⟩,
   ⟨some 65, .load (.int .i64), [.t 64], some (4, 61, true), [7, 6, 5, 4, 3, 2, 1, 0]⟩,
   ⟨some 66, .faddr 1 (.int .i64), [.t 9], some (4, 61, true), [4, 3, 2, 1, 0]⟩,
   ⟨some 67, .load (.int .i64), [.t 66], some (4, 61, true), [9, 4, 3, 2, 1, 0]⟩,
   ⟨some 68, .bin .eql, [.t 65, .t 67], some (4, 61, true), [8, 7, 6, 5, 4, 3, 2, 1, 0, 10, 9]⟩,
   ⟨some 69, .pick, [.t 61, .t 68, .bool false], none, [4, 3, 2, 1, 0, 11, 8, 7, 6, 5, 10, 9]⟩])
 (.cond (.t 69)
  .skip
  (.exit 0)))
 (.clean (.block 1 (.seq (.reg false [
    ⟨some 70, .faddr 2 (.sl (.int .i64)), [.t 9], none, []⟩,
    ⟨some 71, .load (.sl (.int .i64)), [.t 70], none, []⟩,
    ⟨some 72, .slice (.int .i64) true false false, [.t 71, .int .i64 1], none, []⟩,
    ⟨some 73, .faddr 2 (.sl (.int .i64)), [.t 9], none, []⟩,
    ⟨none, .store (.sl (.int .i64)), [.t 73, .t 72], none, []⟩])
  (.reg false [
    ⟨some 74, .faddr 1 (.int .i64), [.t 9], none, []⟩,
    ⟨some 75, .load (.int .i64), [.t 74], none, []⟩,
    ⟨some 76, .bin .add, [.t 75, .int .i64 1], none, []⟩,
    ⟨some 77, .faddr 1 (.int .i64), [.t 9], none, []⟩,
    ⟨none, .store (.int .i64), [.t 77, .t 76], none, []⟩])))))
def x11_0d : List Nat := []
def x11 : XF := ⟨87, [.cell 4 (.st (.cons (.sl .str) (.cons (.int .i64) (.sl (.int .i64))))), .tmp 5, .tmp 6], [0, 1, 2, 4, 5, 6, 7, 8, 9],
 (.seq (.reg false [
   ⟨some 2, .box 27, [.t 0], none, []⟩,
   ⟨some 4, .alloc 27 (.st (.cons (.sl .str) (.cons (.int .i64) (.sl (.int .i64))))), [], none, []⟩,
   ⟨some 5, .nilrow 9 .str, [], none, []⟩,
   ⟨some 6, .mv, [.int .i64 0], none, []⟩])
 (.seq (.seq (.reg false [
   ⟨some 10, .load (.st (.cons (.sl .str) (.cons (.int .i64) (.sl (.int .i64))))), [.t 2], none, []⟩,
   ⟨some 11, .call 9, [.t 10], none, []⟩,
   ⟨some 12, .not, [.t 11], none, []⟩])
 (.cond (.t 12)
  (.seq (.reg false [
    ⟨some 13, .build (.st (.cons (.sl .str) (.cons (.int .i64) (.sl (.int .i64))))) [], [], none, []⟩,
    ⟨none, .store (.st (.cons (.sl .str) (.cons (.int .i64) (.sl (.int .i64))))), [.t 4, .t 13], none, []⟩,
    ⟨some 5, .nilrow 9 .str, [], none, []⟩,
    ⟨some 6, .mv, [.int .i64 1], none, []⟩])
  .ret)
  .skip))
 (.clean (.seq (.seq (.reg false [
   ⟨some 14, .mv, [.t 1], none, []⟩,
   ⟨some 15, .bin .lss, [.t 14, .int .i64 0], none, []⟩,
   ⟨some 16, .mv, [.t 15], none, []⟩,
   ⟨some 17, .mv, [.t 1], some (2, 16, false), []⟩,
   ⟨some 18, .faddr 0 (.sl .str), [.t 2], some (2, 16, false), []⟩,
   ⟨some 19, .load (.sl .str), [.t 18], some (2, 16, false), []⟩,
   ⟨some 20, .len false, [.t 19], some (2, 16, false), []⟩,
   ⟨some 21, .bin .geq, [.t 17, .t 20], some (2, 16, false), []⟩,
   ⟨some 22, .pick, [.t 16, .bool true, .t 21], none, []⟩])
 (.cond (.t 22)
  (.seq (.reg false [
    ⟨some 23, .build (.st (.cons (.sl .str) (.cons (.int .i64) (.sl (.int .i64))))) [], [], none, []⟩,
    ⟨none, .store (.st (.cons (.sl .str) (.cons (.int .i64) (.sl (.int .i64))))), [.t 4, .t 23], none, []⟩,
    ⟨some 5, .nilrow 9 .str, [], none, []⟩,
    ⟨some 6, .mv, [.int .i64 4], none, []⟩])
  .ret)
  .skip))
 (.clean (.seq (.reg false [
   ⟨some 25, .faddr 2 (.sl (.int .i64)), [.t 2], none, []⟩,
   ⟨some 26, .load (.sl (.int .i64)), [.t 25], none, []⟩,
   ⟨some 27, .mv, [.t 1], none, []⟩,
   ⟨some 28, .call 23, [.t 26, .t 27], none, []⟩,
   ⟨some 24, .mv, [.t 28], none, []⟩,
   ⟨some 29, .extract 0, [.t 24], none, []⟩,
   ⟨some 30, .extract 1, [.t 24], none, []⟩,
   ⟨some 7, .mv, [.t 29], none, []⟩,
   ⟨some 8, .mv, [.t 30], none, []⟩])
 (.clean (.seq (.seq (.reg false [
   ⟨some 31, .mv, [.t 8], none, []⟩,
   ⟨some 32, .mv, [.t 31], none, []⟩,
   ⟨some 33, .mv, [.t 1], some (1, 32, false), []⟩,
   ⟨some 34, .faddr 1 (.int .i64), [.t 2], some (1, 32, false), []⟩,
   ⟨some 35, .load (.int .i64), [.t 34], some (1, 32, false), []⟩,
   ⟨some 36, .bin .lss, [.t 33, .t 35], some (1, 32, false), []⟩,
   ⟨some 37, .pick, [.t 32, .bool true, .t 36], none, []⟩])
 (.cond (.t 37)
  (.seq (.reg false [
    ⟨some 38, .build (.st (.cons (.sl .str) (.cons (.int .i64) (.sl (.int .i64))))) [], [], none, []⟩,
    ⟨none, .store (.st (.cons (.sl .str) (.cons (.int .i64) (.sl (.int .i64))))), [.t 4, .t 38], none, []⟩,
    ⟨some 5, .nilrow 9 .str, [], none, []⟩,
    ⟨some 6, .mv, [.int .i64 5], none, []⟩])
  .ret)
  .skip))
 (.clean (.seq (.icall false [
   ⟨some 39, .load (.st (.cons (.sl .str) (.cons (.int .i64) (.sl (.int .i64))))), [.t 2], none, []⟩] ⟨some 40, .callv, [.fn 22, .t 39], none, []⟩ [
   ⟨some 9, .alloc 27 (.st (.cons (.sl .str) (.cons (.int .i64) (.sl (.int .i64))))), [], none, []⟩,
   ⟨none, .store (.st (.cons (.sl .str) (.cons (.int .i64) (.sl (.int .i64))))), [.t 9, .t 40], none, []⟩] 22 x22.n x22.res x22.kv x22.code)
 (.seq (.seq (.reg false [
   ⟨some 41, .mv, [.t 1], none, []⟩,
   ⟨some 42, .faddr 1 (.int .i64), [.t 9], none, []⟩,
   ⟨some 43, .load (.int .i64), [.t 42], none, []⟩,
   ⟨some 44, .bin .gtr, [.t 41, .t 43], none, []⟩])
 (.cond (.t 44)
  (.seq (.reg false [
    ⟨some 45, .faddr 2 (.sl (.int .i64)), [.t 9], none, []⟩,
    ⟨some 46, .load (.sl (.int .i64)), [.t 45], none, []⟩,
    ⟨some 47, .mv, [.t 7], none, []⟩,
    ⟨some 48, .mv, [.t 1], none, []⟩,
    ⟨some 49, .bslice 3 (.int .i64) 1 [0], [.t 48], none, []⟩,
    ⟨some 50, .call 24, [.t 46, .t 47, .t 49], none, []⟩,
    ⟨some 51, .faddr 2 (.sl (.int .i64)), [.t 9], none, []⟩,
    ⟨none, .store (.sl (.int .i64)), [.t 51, .t 50], none, []⟩])
  (.clean (.seq (.reg false [
    ⟨some 52, .load (.st (.cons (.sl .str) (.cons (.int .i64) (.sl (.int .i64))))), [.t 9], none, []⟩,
    ⟨none, .store (.st (.cons (.sl .str) (.cons (.int .i64) (.sl (.int .i64))))), [.t 4, .t 52], none, []⟩,
    ⟨some 5, .nilrow 9 .str, [], none, []⟩,
    ⟨some 6, .mv, [.int .i64 0], none, []⟩])
  .ret)))
  .skip))
 (.clean (.seq (.reg false [
   ⟨some 53, .faddr 1 (.int .i64), [.t 9], none, []⟩,
   ⟨some 54, .load (.int .i64), [.t 53], none, []⟩,
   ⟨some 55, .bin .add, [.t 54, .int .i64 1], none, []⟩,
   ⟨some 56, .faddr 1 (.int .i64), [.t 9], none, []⟩,
   ⟨none, .store (.int .i64), [.t 56, .t 55], none, []⟩])
 (.seq (.block 0 (.loop x11_0))
 (.clean (.seq (.reg true [
   ⟨some 78, .load (.st (.cons (.sl .str) (.cons (.int .i64) (.sl (.int .i64))))), [.t 9], none, []⟩,
   ⟨some 79, .faddr 0 (.sl .str), [.t 9], none, []⟩,
   ⟨some 80, .load (.sl .str), [.t 79], none, [1]⟩,
   ⟨some 81, .faddr 1 (.int .i64), [.t 2], none, []⟩,
   ⟨some 82, .load (.int .i64), [.t 81], none, [3]⟩,
   ⟨some 83, .faddr 1 (.int .i64), [.t 9], none, []⟩,
   ⟨some 84, .load (.int .i64), [.t 83], none, [5]⟩,
   ⟨some 85, .slice .str true true false, [.t 80, .t 82, .t 84], none, [2, 1, 4, 3, 6, 5]⟩,
   ⟨some 86, .call 25, [.t 85], none, [7, 2, 1, 4, 3, 6, 5]⟩,
   ⟨none, .store (.st (.cons (.sl .str) (.cons (.int .i64) (.sl (.int .i64))))), [.t 4, .t 78], none, [0, 8, 7, 2, 1, 4, 3, 6, 5]⟩,
   ⟨some 5, .mv, [.t 86], none, [8, 7, 2, 1, 4, 3, 6, 5, 9, 0]⟩,
   ⟨some 6, .mv, [.int .i64 0], none, [10, 8, 7, 2, 1, 4, 3, 6, 5, 9, 0]⟩])
 .ret))))))))))))))))⟩
/- 0=w 1=seq 2=w 4= 5= 6= 7=at 8=early 9=out -/
/-! tonneau/post.Flight -/
def x12 : XF := ⟨12, [.tmp 2], [0, 1, 2],
 (.seq (.reg false [
   ⟨some 1, .box 27, [.t 0], none, []⟩,
   ⟨some 2, .nilrow 9 .str, [], none, []⟩])
 (.seq (.seq (.reg false [
   ⟨some 3, .load (.st (.cons (.sl .str) (.cons (.int .i64) (.sl (.int .i64))))), [.t 1], none, []⟩,
   ⟨some 4, .call 9, [.t 3], none, []⟩,
   ⟨some 5, .not, [.t 4], none, []⟩])
 (.cond (.t 5)
  (.seq (.reg false [
    ⟨some 2, .nilrow 9 .str, [], none, []⟩])
  .ret)
  .skip))
 (.seq (.reg false [
   ⟨some 6, .faddr 0 (.sl .str), [.t 1], none, []⟩,
   ⟨some 7, .load (.sl .str), [.t 6], none, []⟩,
   ⟨some 8, .faddr 1 (.int .i64), [.t 1], none, []⟩,
   ⟨some 9, .load (.int .i64), [.t 8], none, []⟩,
   ⟨some 10, .slice .str true false false, [.t 7, .t 9], none, []⟩,
   ⟨some 11, .call 25, [.t 10], none, []⟩,
   ⟨some 2, .mv, [.t 11], none, []⟩])
 .ret)))⟩
/- 0=w 1=w 2= -/
/-! tonneau/post.Again -/
def x13_0 : XC := (.seq (.seq (.reg false [
   ⟨some 12, .mv, [.t 4], none, []⟩,
   ⟨some 13, .faddr 0 (.sl .str), [.t 1], none, []⟩,
   ⟨some 14, .load (.sl .str), [.t 13], none, []⟩,
   ⟨some 15, .len false, [.t 14], none, []⟩,
   ⟨some 16, .bin .lss, [.t 12, .t 15], none, []⟩])
 (.cond (.t 16)
  .skip
  (.exit 0)))
 (.clean (.seq (.block 1 (.seq (.reg false [
    ⟨some 20, .faddr 2 (.sl (.int .i64)), [.t 1], none, []⟩,
    ⟨some 21, .load (.sl (.int .i64)), [.t 20], none, []⟩,
    ⟨some 22, .mv, [.t 4], none, []⟩,
    ⟨some 23, .call 23, [.t 21, .t 22], none, []⟩,
    ⟨some 19, .mv, [.t 23], none, []⟩,
    ⟨some 24, .extract 0, [.t 19], none, []⟩,
    ⟨some 25, .extract 1, [.t 19], none, []⟩,
    ⟨some 5, .mv, [.t 24], none, []⟩,
    ⟨some 6, .mv, [.t 25], none, []⟩])
  (.clean (.seq (.reg false [
    ⟨some 26, .mv, [.t 6], none, []⟩,
    ⟨some 27, .not, [.t 26], none, []⟩])
  (.cond (.t 27)
   (.reg false [
     ⟨some 28, .mv, [.t 3], none, []⟩,
     ⟨some 29, .mv, [.t 4], none, []⟩,
     ⟨some 30, .bslice 3 (.int .i64) 1 [0], [.t 29], none, []⟩,
     ⟨some 31, .append 3 (.int .i64) 8, [.t 28, .t 30], none, []⟩,
     ⟨some 3, .mv, [.t 31], none, []⟩])
   .skip)))))
 (.clean (.reg false [
   ⟨some 17, .mv, [.t 4], none, []⟩,
   ⟨some 18, .bin .add, [.t 17, .int .i64 1], none, []⟩,
   ⟨some 4, .mv, [.t 18], none, []⟩])))))
def x13_0d : List Nat := [3, 4, 6]
def x13 : XF := ⟨33, [.tmp 2], [0, 1, 2, 3, 4, 6],
 (.seq (.reg false [
   ⟨some 1, .box 27, [.t 0], none, []⟩,
   ⟨some 2, .nilrow 3 (.int .i64), [], none, []⟩])
 (.seq (.seq (.reg false [
   ⟨some 7, .load (.st (.cons (.sl .str) (.cons (.int .i64) (.sl (.int .i64))))), [.t 1], none, []⟩,
   ⟨some 8, .call 9, [.t 7], none, []⟩,
   ⟨some 9, .not, [.t 8], none, []⟩])
 (.cond (.t 9)
  (.seq (.reg false [
    ⟨some 2, .nilrow 3 (.int .i64), [], none, []⟩])
  .ret)
  .skip))
 (.seq (.reg false [
   ⟨some 3, .nilrow 3 (.int .i64), [], none, []⟩])
 (.seq (.seq (.reg false [
   ⟨some 10, .faddr 1 (.int .i64), [.t 1], none, []⟩,
   ⟨some 11, .load (.int .i64), [.t 10], none, []⟩,
   ⟨some 4, .mv, [.t 11], none, []⟩])
 (.block 0 (.loop x13_0)))
 (.seq (.reg false [
   ⟨some 32, .mv, [.t 3], none, []⟩,
   ⟨some 2, .mv, [.t 32], none, []⟩])
 .ret)))))⟩
/- 0=w 1=w 2= 3=out 4=n 6=early -/
/-! tonneau/tonneauref42.Same -/
def x16_0 : XC := (.seq (.seq (.reg false [
   ⟨some 11, .mv, [.t 5], none, []⟩,
   ⟨some 12, .mv, [.t 0], none, []⟩,
   ⟨some 13, .len false, [.t 12], none, []⟩,
   ⟨some 14, .bin .lss, [.t 11, .t 13], none, []⟩])
 (.cond (.t 14)
  .skip
  (.exit 0)))
 (.seq (.block 1 (.seq (.reg true [
    ⟨some 17, .mv, [.t 0], none, []⟩,
    ⟨some 18, .mv, [.t 5], none, []⟩,
    ⟨some 19, .iaddr .str, [.t 17, .t 18], none, [0, 1]⟩,
    ⟨some 20, .load .str, [.t 19], none, [2, 0, 1]⟩,
    ⟨some 21, .mv, [.t 1], none, []⟩,
    ⟨some 22, .mv, [.t 5], none, []⟩,
    ⟨some 23, .iaddr .str, [.t 21, .t 22], none, [4, 5]⟩,
    ⟨some 24, .load .str, [.t 23], none, [6, 4, 5]⟩,
    ⟨some 25, .beq true .str, [.t 20, .t 24], none, [3, 2, 0, 1, 7, 6, 4, 5]⟩])
  (.cond (.t 25)
   (.seq (.reg false [
     ⟨some 4, .mv, [.bool false], none, []⟩])
   .ret)
   .skip)))
 (.clean (.reg false [
   ⟨some 15, .mv, [.t 5], none, []⟩,
   ⟨some 16, .bin .add, [.t 15, .int .i64 1], none, []⟩,
   ⟨some 5, .mv, [.t 16], none, []⟩]))))
def x16_0d : List Nat := [4, 5]
def x16 : XF := ⟨26, [.tmp 4], [0, 1, 4, 5],
 (.seq (.reg false [
   ⟨some 4, .mv, [.bool false], none, []⟩])
 (.seq (.seq (.reg false [
   ⟨some 6, .mv, [.t 0], none, []⟩,
   ⟨some 7, .len false, [.t 6], none, []⟩,
   ⟨some 8, .mv, [.t 1], none, []⟩,
   ⟨some 9, .len false, [.t 8], none, []⟩,
   ⟨some 10, .bin .neq, [.t 7, .t 9], none, []⟩])
 (.cond (.t 10)
  (.seq (.reg false [
    ⟨some 4, .mv, [.bool false], none, []⟩])
  .ret)
  .skip))
 (.clean (.seq (.seq (.reg false [
   ⟨some 5, .mv, [.int .i64 0], none, []⟩])
 (.block 0 (.loop x16_0)))
 (.seq (.reg false [
   ⟨some 4, .mv, [.bool true], none, []⟩])
 .ret)))))⟩
/- 0=a 1=b 4= 5=i -/
/-! (*tonneau/tonneauref42.Way).Next -/
def x17_0 : XC := (.seq (.seq (.reg false [
   ⟨some 4, .mv, [.t 3], none, []⟩,
   ⟨some 5, .mv, [.t 0], none, []⟩,
   ⟨some 6, .nilck, [.t 5], none, []⟩,
   ⟨some 7, .faddr 0 (.sl .str), [.t 6], none, []⟩,
   ⟨some 8, .load (.sl .str), [.t 7], none, []⟩,
   ⟨some 9, .len false, [.t 8], none, []⟩,
   ⟨some 10, .bin .lss, [.t 4, .t 9], none, []⟩,
   ⟨some 11, .mv, [.t 10], none, []⟩,
   ⟨some 12, .mv, [.t 0], some (7, 11, true), []⟩,
   ⟨some 13, .nilck, [.t 12], some (7, 11, true), []⟩,
   ⟨some 14, .faddr 1 (.sl .bool), [.t 13], some (7, 11, true), []⟩,
   ⟨some 15, .load (.sl .bool), [.t 14], some (7, 11, true), []⟩,
   ⟨some 16, .mv, [.t 3], some (7, 11, true), []⟩,
   ⟨some 17, .iaddr .bool, [.t 15, .t 16], some (7, 11, true), []⟩,
   ⟨some 18, .load .bool, [.t 17], some (7, 11, true), []⟩,
   ⟨some 19, .pick, [.t 11, .t 18, .bool false], none, []⟩])
 (.cond (.t 19)
  .skip
  (.exit 0)))
 (.clean (.block 1 (.reg false [
    ⟨some 20, .mv, [.t 3], none, []⟩,
    ⟨some 21, .bin .add, [.t 20, .int .i64 1], none, []⟩,
    ⟨some 3, .mv, [.t 21], none, []⟩]))))
def x17_0d : List Nat := [3]
def x17 : XF := ⟨23, [.tmp 2], [0, 2, 3],
 (.seq (.reg false [
   ⟨some 2, .mv, [.int .i64 0], none, []⟩])
 (.seq (.reg false [
   ⟨some 3, .mv, [.int .i64 0], none, []⟩])
 (.seq (.block 0 (.loop x17_0))
 (.seq (.reg false [
   ⟨some 22, .mv, [.t 3], none, []⟩,
   ⟨some 2, .mv, [.t 22], none, []⟩])
 .ret))))⟩
/- 0=w 2= 3=n -/
/-! tonneau/tonneauref42.Ints -/
def x18_0 : XC := (.seq (.seq (.reg false [
   ⟨some 11, .mv, [.t 5], none, []⟩,
   ⟨some 12, .mv, [.t 0], none, []⟩,
   ⟨some 13, .len false, [.t 12], none, []⟩,
   ⟨some 14, .bin .lss, [.t 11, .t 13], none, []⟩])
 (.cond (.t 14)
  .skip
  (.exit 0)))
 (.seq (.block 1 (.seq (.reg true [
    ⟨some 17, .mv, [.t 0], none, []⟩,
    ⟨some 18, .mv, [.t 5], none, []⟩,
    ⟨some 19, .iaddr (.int .i64), [.t 17, .t 18], none, [0, 1]⟩,
    ⟨some 20, .load (.int .i64), [.t 19], none, [2, 0, 1]⟩,
    ⟨some 21, .mv, [.t 1], none, []⟩,
    ⟨some 22, .mv, [.t 5], none, []⟩,
    ⟨some 23, .iaddr (.int .i64), [.t 21, .t 22], none, [4, 5]⟩,
    ⟨some 24, .load (.int .i64), [.t 23], none, [6, 4, 5]⟩,
    ⟨some 25, .bin .neq, [.t 20, .t 24], none, [3, 2, 0, 1, 7, 6, 4, 5]⟩])
  (.cond (.t 25)
   (.seq (.reg false [
     ⟨some 4, .mv, [.bool false], none, []⟩])
   .ret)
   .skip)))
 (.clean (.reg false [
   ⟨some 15, .mv, [.t 5], none, []⟩,
   ⟨some 16, .bin .add, [.t 15, .int .i64 1], none, []⟩,
   ⟨some 5, .mv, [.t 16], none, []⟩]))))
def x18_0d : List Nat := [4, 5]
def x18 : XF := ⟨26, [.tmp 4], [0, 1, 4, 5],
 (.seq (.reg false [
   ⟨some 4, .mv, [.bool false], none, []⟩])
 (.seq (.seq (.reg false [
   ⟨some 6, .mv, [.t 0], none, []⟩,
   ⟨some 7, .len false, [.t 6], none, []⟩,
   ⟨some 8, .mv, [.t 1], none, []⟩,
   ⟨some 9, .len false, [.t 8], none, []⟩,
   ⟨some 10, .bin .neq, [.t 7, .t 9], none, []⟩])
 (.cond (.t 10)
  (.seq (.reg false [
    ⟨some 4, .mv, [.bool false], none, []⟩])
  .ret)
  .skip))
 (.clean (.seq (.seq (.reg false [
   ⟨some 5, .mv, [.int .i64 0], none, []⟩])
 (.block 0 (.loop x18_0)))
 (.seq (.reg false [
   ⟨some 4, .mv, [.bool true], none, []⟩])
 .ret)))))⟩
/- 0=a 1=b 4= 5=i -/
/-! (*tonneau/tonneauref42.Way).Early -/
def x19_0 : XC := (.seq (.seq (.reg false [
   ⟨some 7, .mv, [.t 4], none, []⟩,
   ⟨some 8, .mv, [.t 0], none, []⟩,
   ⟨some 9, .nilck, [.t 8], none, []⟩,
   ⟨some 10, .faddr 0 (.sl .str), [.t 9], none, []⟩,
   ⟨some 11, .load (.sl .str), [.t 10], none, []⟩,
   ⟨some 12, .len false, [.t 11], none, []⟩,
   ⟨some 13, .bin .lss, [.t 7, .t 12], none, []⟩])
 (.cond (.t 13)
  .skip
  (.exit 0)))
 (.clean (.seq (.block 1 (.seq (.reg false [
    ⟨some 16, .mv, [.t 0], none, []⟩,
    ⟨some 17, .nilck, [.t 16], none, []⟩,
    ⟨some 18, .faddr 1 (.sl .bool), [.t 17], none, []⟩,
    ⟨some 19, .load (.sl .bool), [.t 18], none, []⟩,
    ⟨some 20, .mv, [.t 4], none, []⟩,
    ⟨some 21, .iaddr .bool, [.t 19, .t 20], none, []⟩,
    ⟨some 22, .load .bool, [.t 21], none, []⟩])
  (.cond (.t 22)
   (.reg false [
     ⟨some 23, .mv, [.t 3], none, []⟩,
     ⟨some 24, .mv, [.t 4], none, []⟩,
     ⟨some 25, .bslice 3 (.int .i64) 1 [0], [.t 24], none, []⟩,
     ⟨some 26, .append 3 (.int .i64) 8, [.t 23, .t 25], none, []⟩,
     ⟨some 3, .mv, [.t 26], none, []⟩])
   .skip)))
 (.clean (.reg false [
   ⟨some 14, .mv, [.t 4], none, []⟩,
   ⟨some 15, .bin .add, [.t 14, .int .i64 1], none, []⟩,
   ⟨some 4, .mv, [.t 15], none, []⟩])))))
def x19_0d : List Nat := [3, 4]
def x19 : XF := ⟨28, [.tmp 2], [0, 2, 3, 4],
 (.seq (.reg false [
   ⟨some 2, .nilrow 3 (.int .i64), [], none, []⟩])
 (.seq (.reg false [
   ⟨some 3, .nilrow 3 (.int .i64), [], none, []⟩])
 (.seq (.seq (.reg false [
   ⟨some 5, .mv, [.t 0], none, []⟩,
   ⟨some 6, .call 17, [.t 5], none, []⟩,
   ⟨some 4, .mv, [.t 6], none, []⟩])
 (.block 0 (.loop x19_0)))
 (.seq (.reg false [
   ⟨some 27, .mv, [.t 3], none, []⟩,
   ⟨some 2, .mv, [.t 27], none, []⟩])
 .ret))))⟩
/- 0=w 2= 3=out 4=i -/
/-! (*tonneau/tonneauref42.Way).Again -/
def x20_0 : XC := (.seq (.seq (.reg false [
   ⟨some 5, .mv, [.t 4], none, []⟩,
   ⟨some 6, .mv, [.t 0], none, []⟩,
   ⟨some 7, .nilck, [.t 6], none, []⟩,
   ⟨some 8, .faddr 0 (.sl .str), [.t 7], none, []⟩,
   ⟨some 9, .load (.sl .str), [.t 8], none, []⟩,
   ⟨some 10, .len false, [.t 9], none, []⟩,
   ⟨some 11, .bin .lss, [.t 5, .t 10], none, []⟩])
 (.cond (.t 11)
  .skip
  (.exit 0)))
 (.clean (.seq (.block 1 (.seq (.reg false [
    ⟨some 14, .mv, [.t 0], none, []⟩,
    ⟨some 15, .nilck, [.t 14], none, []⟩,
    ⟨some 16, .faddr 1 (.sl .bool), [.t 15], none, []⟩,
    ⟨some 17, .load (.sl .bool), [.t 16], none, []⟩,
    ⟨some 18, .mv, [.t 4], none, []⟩,
    ⟨some 19, .iaddr .bool, [.t 17, .t 18], none, []⟩,
    ⟨some 20, .load .bool, [.t 19], none, []⟩,
    ⟨some 21, .not, [.t 20], none, []⟩])
  (.cond (.t 21)
   (.reg false [
     ⟨some 22, .mv, [.t 3], none, []⟩,
     ⟨some 23, .mv, [.t 4], none, []⟩,
     ⟨some 24, .bslice 3 (.int .i64) 1 [0], [.t 23], none, []⟩,
     ⟨some 25, .append 3 (.int .i64) 8, [.t 22, .t 24], none, []⟩,
     ⟨some 3, .mv, [.t 25], none, []⟩])
   .skip)))
 (.clean (.reg false [
   ⟨some 12, .mv, [.t 4], none, []⟩,
   ⟨some 13, .bin .add, [.t 12, .int .i64 1], none, []⟩,
   ⟨some 4, .mv, [.t 13], none, []⟩])))))
def x20_0d : List Nat := [3, 4]
def x20 : XF := ⟨27, [.tmp 2], [0, 2, 3, 4],
 (.seq (.reg false [
   ⟨some 2, .nilrow 3 (.int .i64), [], none, []⟩])
 (.seq (.reg false [
   ⟨some 3, .nilrow 3 (.int .i64), [], none, []⟩])
 (.seq (.seq (.reg false [
   ⟨some 4, .mv, [.int .i64 0], none, []⟩])
 (.block 0 (.loop x20_0)))
 (.seq (.reg false [
   ⟨some 26, .mv, [.t 3], none, []⟩,
   ⟨some 2, .mv, [.t 26], none, []⟩])
 .ret))))⟩
/- 0=w 2= 3=out 4=i -/
/-! tonneau/tonneaulaw42.text -/
def x21 : XF := ⟨7, [.tmp 2], [0, 2],
 (.seq (.reg false [
   ⟨some 2, .mv, [.str ⟨#[]⟩], none, []⟩])
 (.seq (.reg false [
   ⟨some 3, .bslice 9 .str 8 [0, 1, 2, 3, 4, 5, 6, 7], [.str ⟨#[97]⟩, .str ⟨#[98]⟩, .str ⟨#[99]⟩, .str ⟨#[100]⟩, .str ⟨#[101]⟩, .str ⟨#[102]⟩, .str ⟨#[103]⟩, .str ⟨#[104]⟩], none, []⟩,
   ⟨some 4, .mv, [.t 0], none, []⟩,
   ⟨some 5, .iaddr .str, [.t 3, .t 4], none, []⟩,
   ⟨some 6, .load .str, [.t 5], none, []⟩,
   ⟨some 2, .mv, [.t 6], none, []⟩])
 .ret))⟩
/- 0=id 2= -/
/-! slices.BinarySearch[[]int,int] -/
def x23_0 : XC := (.seq (.seq (.reg false [
   ⟨some 13, .mv, [.t 7], none, []⟩,
   ⟨some 14, .mv, [.t 8], none, []⟩,
   ⟨some 15, .bin .lss, [.t 13, .t 14], none, []⟩])
 (.cond (.t 15)
  .skip
  (.exit 0)))
 (.block 1 (.seq (.reg false [
    ⟨some 16, .mv, [.t 7], none, []⟩,
    ⟨some 17, .mv, [.t 8], none, []⟩,
    ⟨some 18, .bin .add, [.t 16, .t 17], none, []⟩,
    ⟨some 19, .conv .u64, [.t 18], none, []⟩,
    ⟨some 20, .bin .shr, [.t 19, .int .u64 1], none, []⟩,
    ⟨some 21, .conv .i64, [.t 20], none, []⟩,
    ⟨some 9, .mv, [.t 21], none, []⟩])
  (.clean (.seq (.reg false [
    ⟨some 22, .mv, [.t 0], none, []⟩,
    ⟨some 23, .mv, [.t 9], none, []⟩,
    ⟨some 24, .iaddr (.int .i64), [.t 22, .t 23], none, []⟩,
    ⟨some 25, .load (.int .i64), [.t 24], none, []⟩,
    ⟨some 26, .mv, [.t 1], none, []⟩,
    ⟨some 27, .call 27, [.t 25, .t 26], none, []⟩])
  (.cond (.t 27)
   (.reg false [
     ⟨some 28, .mv, [.t 9], none, []⟩,
     ⟨some 29, .bin .add, [.t 28, .int .i64 1], none, []⟩,
     ⟨some 7, .mv, [.t 29], none, []⟩])
   (.reg false [
     ⟨some 30, .mv, [.t 9], none, []⟩,
     ⟨some 8, .mv, [.t 30], none, []⟩])))))))
def x23_0d : List Nat := [7, 8, 9]
def x23 : XF := ⟨54, [.tmp 4, .tmp 5], [0, 1, 4, 5, 6, 7, 8, 9],
 (.seq (.reg false [
   ⟨some 4, .mv, [.int .i64 0], none, []⟩,
   ⟨some 5, .mv, [.bool false], none, []⟩])
 (.seq (.reg false [
   ⟨some 10, .mv, [.t 0], none, []⟩,
   ⟨some 11, .len false, [.t 10], none, []⟩,
   ⟨some 6, .mv, [.t 11], none, []⟩])
 (.seq (.reg false [
   ⟨some 12, .mv, [.t 6], none, []⟩,
   ⟨some 7, .mv, [.int .i64 0], none, []⟩,
   ⟨some 8, .mv, [.t 12], none, []⟩])
 (.seq (.block 0 (.loop x23_0))
 (.clean (.seq (.reg false [
   ⟨some 31, .mv, [.t 7], none, []⟩,
   ⟨some 32, .mv, [.t 7], none, []⟩,
   ⟨some 33, .mv, [.t 6], none, []⟩,
   ⟨some 34, .bin .lss, [.t 32, .t 33], none, []⟩,
   ⟨some 35, .mv, [.t 34], none, []⟩,
   ⟨some 36, .mv, [.t 0], some (4, 35, true), []⟩,
   ⟨some 37, .mv, [.t 7], some (4, 35, true), []⟩,
   ⟨some 38, .iaddr (.int .i64), [.t 36, .t 37], some (4, 35, true), []⟩,
   ⟨some 39, .load (.int .i64), [.t 38], some (4, 35, true), []⟩,
   ⟨some 40, .mv, [.t 1], some (4, 35, true), []⟩,
   ⟨some 41, .bin .eql, [.t 39, .t 40], some (4, 35, true), []⟩,
   ⟨some 42, .mv, [.t 41], some (4, 35, true), []⟩,
   ⟨some 43, .mv, [.t 0], some (11, 42, false), []⟩,
   ⟨some 44, .mv, [.t 7], some (11, 42, false), []⟩,
   ⟨some 45, .iaddr (.int .i64), [.t 43, .t 44], some (11, 42, false), []⟩,
   ⟨some 46, .load (.int .i64), [.t 45], some (11, 42, false), []⟩,
   ⟨some 47, .call 28, [.t 46], some (11, 42, false), []⟩,
   ⟨some 48, .mv, [.t 47], some (11, 42, false), []⟩,
   ⟨some 49, .mv, [.t 1], some (17, 48, true), []⟩,
   ⟨some 50, .call 28, [.t 49], some (17, 48, true), []⟩,
   ⟨some 51, .pick, [.t 48, .t 50, .bool false], some (11, 42, false), []⟩,
   ⟨some 52, .pick, [.t 42, .bool true, .t 51], some (4, 35, true), []⟩,
   ⟨some 53, .pick, [.t 35, .t 52, .bool false], none, []⟩,
   ⟨some 4, .mv, [.t 31], none, []⟩,
   ⟨some 5, .mv, [.t 53], none, []⟩])
 .ret))))))⟩
/- 0=x 1=target 4= 5= 6=n 7=i 8=j 9=h -/
/-! slices.Insert[[]int,int] -/
def x24 : XF := ⟨95, [.tmp 6], [0, 1, 2, 6, 7, 8, 9],
 (.seq (.reg false [
   ⟨some 6, .nilrow 3 (.int .i64), [], none, []⟩])
 (.seq (.reg false [
   ⟨some 10, .mv, [.t 0], none, []⟩,
   ⟨some 11, .mv, [.t 1], none, []⟩,
   ⟨some 12, .slice (.int .i64) true false false, [.t 10, .t 11], none, []⟩])
 (.seq (.reg false [
   ⟨some 13, .mv, [.t 2], none, []⟩,
   ⟨some 14, .len false, [.t 13], none, []⟩,
   ⟨some 7, .mv, [.t 14], none, []⟩])
 (.seq (.seq (.reg false [
   ⟨some 15, .mv, [.t 7], none, []⟩,
   ⟨some 16, .bin .eql, [.t 15, .int .i64 0], none, []⟩])
 (.cond (.t 16)
  (.seq (.reg false [
    ⟨some 17, .mv, [.t 0], none, []⟩,
    ⟨some 6, .mv, [.t 17], none, []⟩])
  .ret)
  .skip))
 (.seq (.reg false [
   ⟨some 18, .mv, [.t 0], none, []⟩,
   ⟨some 19, .len false, [.t 18], none, []⟩,
   ⟨some 8, .mv, [.t 19], none, []⟩])
 (.seq (.seq (.reg false [
   ⟨some 20, .mv, [.t 1], none, []⟩,
   ⟨some 21, .mv, [.t 8], none, []⟩,
   ⟨some 22, .bin .eql, [.t 20, .t 21], none, []⟩])
 (.cond (.t 22)
  (.seq (.reg false [
    ⟨some 23, .mv, [.t 0], none, []⟩,
    ⟨some 24, .mv, [.t 2], none, []⟩,
    ⟨some 25, .append 3 (.int .i64) 8, [.t 23, .t 24], none, []⟩,
    ⟨some 6, .mv, [.t 25], none, []⟩])
  .ret)
  .skip))
 (.clean (.seq (.seq .dead /- call -/
 (.cond (.t 31)
  (.seq (.reg false [
    ⟨some 32, .mv, [.t 0], none, []⟩,
    ⟨some 33, .mv, [.t 1], none, []⟩,
    ⟨some 34, .slice (.int .i64) false true false, [.t 32, .t 33], none, []⟩,
    ⟨some 35, .mv, [.t 8], none, []⟩,
    ⟨some 36, .mv, [.t 7], none, []⟩,
    ⟨some 37, .bin .add, [.t 35, .t 36], none, []⟩,
    ⟨some 38, .mv, [.t 1], none, []⟩,
    ⟨some 39, .bin .sub, [.t 37, .t 38], none, []⟩,
    ⟨some 40, .append 3 (.int .i64) 8, [.t 34, .t 39], none, []⟩,
    ⟨some 9, .mv, [.t 40], none, []⟩])
  (.clean (.seq (.reg false [
    ⟨some 41, .mv, [.t 9], none, []⟩,
    ⟨some 42, .mv, [.t 1], none, []⟩,
    ⟨some 43, .slice (.int .i64) true false true, [.t 41, .t 42], none, []⟩,
    ⟨some 44, .mv, [.t 2], none, []⟩,
    ⟨some 45, .copy 3 (.int .i64), [.t 43, .t 44], none, []⟩])
  (.seq (.reg true [
    ⟨some 46, .mv, [.t 9], none, []⟩,
    ⟨some 47, .mv, [.t 1], none, []⟩,
    ⟨some 48, .mv, [.t 7], none, []⟩,
    ⟨some 49, .bin .add, [.t 47, .t 48], none, [1, 2]⟩,
    ⟨some 50, .slice (.int .i64) true false true, [.t 46, .t 49], none, [0, 3, 1, 2]⟩,
    ⟨some 51, .mv, [.t 0], none, []⟩,
    ⟨some 52, .mv, [.t 1], none, []⟩,
    ⟨some 53, .slice (.int .i64) true false true, [.t 51, .t 52], none, [5, 6]⟩,
    ⟨some 54, .copy 3 (.int .i64), [.t 50, .t 53], none, [4, 0, 3, 1, 2, 7, 5, 6]⟩])
  (.seq (.reg false [
    ⟨some 55, .mv, [.t 9], none, []⟩,
    ⟨some 6, .mv, [.t 55], none, []⟩])
  .ret)))))
  .skip))
 (.clean (.seq (.reg false [
   ⟨some 56, .mv, [.t 0], none, []⟩,
   ⟨some 57, .mv, [.t 8], none, []⟩,
   ⟨some 58, .mv, [.t 7], none, []⟩,
   ⟨some 59, .bin .add, [.t 57, .t 58], none, []⟩,
   ⟨some 60, .slice (.int .i64) false true false, [.t 56, .t 59], none, []⟩,
   ⟨some 0, .mv, [.t 60], none, []⟩])
 (.clean (.seq (.seq (.reg false [
   ⟨some 61, .mv, [.t 2], none, []⟩,
   ⟨some 62, .mv, [.t 0], none, []⟩,
   ⟨some 63, .mv, [.t 1], none, []⟩,
   ⟨some 64, .mv, [.t 7], none, []⟩,
   ⟨some 65, .bin .add, [.t 63, .t 64], none, []⟩,
   ⟨some 66, .slice (.int .i64) true false false, [.t 62, .t 65], none, []⟩,
   ⟨some 67, .call 29, [.t 61, .t 66], none, []⟩,
   ⟨some 68, .not, [.t 67], none, []⟩])
 (.cond (.t 68)
  (.seq (.reg true [
    ⟨some 69, .mv, [.t 0], none, []⟩,
    ⟨some 70, .mv, [.t 1], none, []⟩,
    ⟨some 71, .mv, [.t 7], none, []⟩,
    ⟨some 72, .bin .add, [.t 70, .t 71], none, [1, 2]⟩,
    ⟨some 73, .slice (.int .i64) true false true, [.t 69, .t 72], none, [0, 3, 1, 2]⟩,
    ⟨some 74, .mv, [.t 0], none, []⟩,
    ⟨some 75, .mv, [.t 1], none, []⟩,
    ⟨some 76, .slice (.int .i64) true false true, [.t 74, .t 75], none, [5, 6]⟩,
    ⟨some 77, .copy 3 (.int .i64), [.t 73, .t 76], none, [4, 0, 3, 1, 2, 7, 5, 6]⟩])
  (.clean (.seq (.reg false [
    ⟨some 78, .mv, [.t 0], none, []⟩,
    ⟨some 79, .mv, [.t 1], none, []⟩,
    ⟨some 80, .slice (.int .i64) true false true, [.t 78, .t 79], none, []⟩,
    ⟨some 81, .mv, [.t 2], none, []⟩,
    ⟨some 82, .copy 3 (.int .i64), [.t 80, .t 81], none, []⟩])
  (.seq (.reg false [
    ⟨some 83, .mv, [.t 0], none, []⟩,
    ⟨some 6, .mv, [.t 83], none, []⟩])
  .ret))))
  .skip))
 (.clean (.seq (.reg false [
   ⟨some 84, .mv, [.t 0], none, []⟩,
   ⟨some 85, .mv, [.t 8], none, []⟩,
   ⟨some 86, .slice (.int .i64) true false true, [.t 84, .t 85], none, []⟩,
   ⟨some 87, .mv, [.t 2], none, []⟩,
   ⟨some 88, .copy 3 (.int .i64), [.t 86, .t 87], none, []⟩])
 (.seq (.reg false [
   ⟨some 89, .mv, [.t 0], none, []⟩,
   ⟨some 90, .mv, [.t 1], none, []⟩,
   ⟨some 91, .slice (.int .i64) true false false, [.t 89, .t 90], none, []⟩,
   ⟨some 92, .mv, [.t 7], none, []⟩,
   ⟨some 93, .call 30, [.t 91, .t 92], none, []⟩])
 (.seq (.reg false [
   ⟨some 94, .mv, [.t 0], none, []⟩,
   ⟨some 6, .mv, [.t 94], none, []⟩])
 .ret))))))))))))))))⟩
/- 0=s 1=i 2=v 6= 7=m 8=n 9=s2 -/
/-! slices.Clone[[]string,string] -/
def x25 : XF := ⟨8, [.tmp 2], [0, 2],
 (.seq (.reg false [
   ⟨some 2, .nilrow 9 .str, [], none, []⟩])
 (.seq (.seq (.reg false [
   ⟨some 3, .mv, [.t 0], none, []⟩,
   ⟨some 4, .isnil false .str, [.t 3], none, []⟩])
 (.cond (.t 4)
  (.seq (.reg false [
    ⟨some 2, .nilrow 9 .str, [], none, []⟩])
  .ret)
  .skip))
 (.seq (.reg false [
   ⟨some 5, .bslice 9 .str 0 [], [], none, []⟩,
   ⟨some 6, .mv, [.t 0], none, []⟩,
   ⟨some 7, .append 9 .str 16, [.t 5, .t 6], none, []⟩,
   ⟨some 2, .mv, [.t 7], none, []⟩])
 .ret)))⟩
/- 0=s 2= -/
/-! slices.Clone[[]int,int] -/
def x26 : XF := ⟨8, [.tmp 2], [0, 2],
 (.seq (.reg false [
   ⟨some 2, .nilrow 3 (.int .i64), [], none, []⟩])
 (.seq (.seq (.reg false [
   ⟨some 3, .mv, [.t 0], none, []⟩,
   ⟨some 4, .isnil false (.int .i64), [.t 3], none, []⟩])
 (.cond (.t 4)
  (.seq (.reg false [
    ⟨some 2, .nilrow 3 (.int .i64), [], none, []⟩])
  .ret)
  .skip))
 (.seq (.reg false [
   ⟨some 5, .bslice 3 (.int .i64) 0 [], [], none, []⟩,
   ⟨some 6, .mv, [.t 0], none, []⟩,
   ⟨some 7, .append 3 (.int .i64) 8, [.t 5, .t 6], none, []⟩,
   ⟨some 2, .mv, [.t 7], none, []⟩])
 .ret)))⟩
/- 0=s 2= -/
/-! cmp.Less[int] -/
def x27 : XF := ⟨17, [.tmp 4], [0, 1, 4],
 (.seq (.reg false [
   ⟨some 4, .mv, [.bool false], none, []⟩])
 (.seq (.reg false [
   ⟨some 5, .mv, [.t 0], none, []⟩,
   ⟨some 6, .call 31, [.t 5], none, []⟩,
   ⟨some 7, .mv, [.t 6], none, []⟩,
   ⟨some 8, .mv, [.t 1], some (2, 7, true), []⟩,
   ⟨some 9, .call 31, [.t 8], some (2, 7, true), []⟩,
   ⟨some 10, .not, [.t 9], some (2, 7, true), []⟩,
   ⟨some 11, .pick, [.t 7, .t 10, .bool false], none, []⟩,
   ⟨some 12, .mv, [.t 11], none, []⟩,
   ⟨some 13, .mv, [.t 0], some (7, 12, false), []⟩,
   ⟨some 14, .mv, [.t 1], some (7, 12, false), []⟩,
   ⟨some 15, .bin .lss, [.t 13, .t 14], some (7, 12, false), []⟩,
   ⟨some 16, .pick, [.t 12, .bool true, .t 15], none, []⟩,
   ⟨some 4, .mv, [.t 16], none, []⟩])
 .ret))⟩
/- 0=x 1=y 4= -/
/-! slices.isNaN[int] -/
def x28 : XF := ⟨6, [.tmp 2], [0, 2],
 (.seq (.reg false [
   ⟨some 2, .mv, [.bool false], none, []⟩])
 (.seq (.reg false [
   ⟨some 3, .mv, [.t 0], none, []⟩,
   ⟨some 4, .mv, [.t 0], none, []⟩,
   ⟨some 5, .bin .neq, [.t 3, .t 4], none, []⟩,
   ⟨some 2, .mv, [.t 5], none, []⟩])
 .ret))⟩
/- 0=x 2= -/
/-! slices.rotateRight[int] -/
def x30 : XF := ⟨10, [], [0, 1],
 (.reg false [
   ⟨some 4, .mv, [.t 0], none, []⟩,
   ⟨some 5, .mv, [.t 0], none, []⟩,
   ⟨some 6, .len false, [.t 5], none, []⟩,
   ⟨some 7, .mv, [.t 1], none, []⟩,
   ⟨some 8, .bin .sub, [.t 6, .t 7], none, []⟩,
   ⟨some 9, .call 32, [.t 4, .t 8], none, []⟩])⟩
/- 0=s 1=r -/
/-! cmp.isNaN[int] -/
def x31 : XF := ⟨6, [.tmp 2], [0, 2],
 (.seq (.reg false [
   ⟨some 2, .mv, [.bool false], none, []⟩])
 (.seq (.reg false [
   ⟨some 3, .mv, [.t 0], none, []⟩,
   ⟨some 4, .mv, [.t 0], none, []⟩,
   ⟨some 5, .bin .neq, [.t 3, .t 4], none, []⟩,
   ⟨some 2, .mv, [.t 5], none, []⟩])
 .ret))⟩
/- 0=x 2= -/
/-! slices.rotateLeft[int] -/
def x32 : XF := ⟨14, [], [0, 1],
 (.seq (.reg false [
   ⟨some 4, .mv, [.t 0], none, []⟩,
   ⟨some 5, .mv, [.t 1], none, []⟩,
   ⟨some 6, .slice (.int .i64) false true false, [.t 4, .t 5], none, []⟩,
   ⟨some 7, .call 33, [.t 6], none, []⟩])
 (.seq (.reg false [
   ⟨some 8, .mv, [.t 0], none, []⟩,
   ⟨some 9, .mv, [.t 1], none, []⟩,
   ⟨some 10, .slice (.int .i64) true false false, [.t 8, .t 9], none, []⟩,
   ⟨some 11, .call 33, [.t 10], none, []⟩])
 (.reg false [
   ⟨some 12, .mv, [.t 0], none, []⟩,
   ⟨some 13, .call 33, [.t 12], none, []⟩])))⟩
/- 0=s 1=r -/
/-! slices.Reverse[[]int,int] -/
def x33_0 : XC := (.seq (.seq (.reg false [
   ⟨some 7, .mv, [.t 2], none, []⟩,
   ⟨some 8, .mv, [.t 3], none, []⟩,
   ⟨some 9, .bin .lss, [.t 7, .t 8], none, []⟩])
 (.cond (.t 9)
  .skip
  (.exit 0)))
 (.seq (.block 1 (.reg true [
    ⟨some 14, .mv, [.t 0], none, []⟩,
    ⟨some 15, .mv, [.t 2], none, []⟩,
    ⟨some 16, .mv, [.t 0], none, []⟩,
    ⟨some 17, .mv, [.t 3], none, []⟩,
    ⟨some 18, .mv, [.t 0], none, []⟩,
    ⟨some 19, .mv, [.t 3], none, []⟩,
    ⟨some 20, .iaddr (.int .i64), [.t 18, .t 19], none, [4, 5]⟩,
    ⟨some 21, .load (.int .i64), [.t 20], none, [6, 4, 5]⟩,
    ⟨some 22, .mv, [.t 0], none, []⟩,
    ⟨some 23, .mv, [.t 2], none, []⟩,
    ⟨some 24, .iaddr (.int .i64), [.t 22, .t 23], none, [8, 9]⟩,
    ⟨some 25, .load (.int .i64), [.t 24], none, [10, 8, 9]⟩,
    ⟨some 26, .iaddr (.int .i64), [.t 14, .t 15], none, [0, 1, 4, 5, 6, 7, 11, 10, 8, 9]⟩,
    ⟨none, .store (.int .i64), [.t 26, .t 21], none, [12, 0, 1, 4, 5, 6, 7, 11, 10, 8, 9]⟩,
    ⟨some 27, .iaddr (.int .i64), [.t 16, .t 17], none, [2, 3, 0, 1, 4, 5, 6, 7, 8, 9, 10, 11, 12, 13]⟩,
    ⟨none, .store (.int .i64), [.t 27, .t 25], none, [14, 2, 3, 0, 1, 4, 5, 6, 7, 8, 9, 10, 11, 12, 13]⟩]))
 (.clean (.reg false [
   ⟨some 10, .mv, [.t 2], none, []⟩,
   ⟨some 11, .bin .add, [.t 10, .int .i64 1], none, []⟩,
   ⟨some 12, .mv, [.t 3], none, []⟩,
   ⟨some 13, .bin .sub, [.t 12, .int .i64 1], none, []⟩,
   ⟨some 2, .mv, [.t 11], none, []⟩,
   ⟨some 3, .mv, [.t 13], none, []⟩]))))
def x33_0d : List Nat := [2, 3]
def x33 : XF := ⟨28, [], [0, 2, 3],
 (.seq (.reg false [
   ⟨some 4, .mv, [.t 0], none, []⟩,
   ⟨some 5, .len false, [.t 4], none, []⟩,
   ⟨some 6, .bin .sub, [.t 5, .int .i64 1], none, []⟩,
   ⟨some 2, .mv, [.int .i64 0], none, []⟩,
   ⟨some 3, .mv, [.t 6], none, []⟩])
 (.block 0 (.loop x33_0)))⟩
/- 0=s 2=i 3=j -/
end T
end Go.Proofs.Ytiahbkjomegkiaa
