/- The program's functions as code of the typed abstract walk (printed by a program). -/
import Derived.Test.YtecmckoglgdicaaT18
namespace Go.Proofs.Ytecmckoglgdicaa
namespace T
/-! gosem.cut.init -/
def x2 : XF := ⟨1, [], [],
 (.reg false [
   ⟨some 0, .call 1, [], none, []⟩])⟩
/-  -/
/-! tonneau/tonneaulaw22.RefuseTells -/
def x3 : XF := ⟨64, [.tmp 6], [0, 1, 2, 6, 7, 8, 9, 10, 11, 12, 13],
 (.seq (.reg false [
   ⟨some 6, .mv, [.bool false], none, []⟩])
 (.seq (.reg false [
   ⟨some 14, .call 7, [], none, []⟩,
   ⟨some 7, .mv, [.t 14], none, []⟩])
 (.seq (.seq (.reg false [
   ⟨some 15, .mv, [.t 0], none, []⟩,
   ⟨some 16, .mv, [.t 1], none, []⟩,
   ⟨some 17, .call 8, [.t 15, .t 16], none, []⟩,
   ⟨some 18, .not, [.t 17], none, []⟩,
   ⟨some 19, .mv, [.t 18], none, []⟩,
   ⟨some 20, .mv, [.t 2], some (4, 19, false), []⟩,
   ⟨some 21, .len false, [.t 20], some (4, 19, false), []⟩,
   ⟨some 22, .bin .gtr, [.t 21, .int .i64 20], some (4, 19, false), []⟩,
   ⟨some 23, .pick, [.t 19, .bool true, .t 22], none, []⟩])
 (.cond (.t 23)
  (.seq (.reg false [
    ⟨some 24, .mv, [.t 7], none, []⟩,
    ⟨some 6, .mv, [.t 24], none, []⟩])
  .ret)
  .skip))
 (.clean (.seq (.reg false [
   ⟨some 26, .mv, [.t 0], none, []⟩,
   ⟨some 27, .mv, [.t 1], none, []⟩,
   ⟨some 28, .call 9, [.t 26, .t 27], none, []⟩,
   ⟨some 25, .mv, [.t 28], none, []⟩,
   ⟨some 29, .extract 0, [.t 25], none, []⟩,
   ⟨some 30, .extract 1, [.t 25], none, []⟩,
   ⟨some 31, .extract 2, [.t 25], none, []⟩,
   ⟨some 8, .mv, [.t 29], none, []⟩,
   ⟨some 9, .mv, [.t 30], none, []⟩,
   ⟨some 10, .mv, [.t 31], none, []⟩])
 (.clean (.seq (.reg false [
   ⟨some 33, .mv, [.t 0], none, []⟩,
   ⟨some 34, .mv, [.t 1], none, []⟩,
   ⟨some 35, .call 10, [.t 33, .t 34], none, []⟩,
   ⟨some 32, .mv, [.t 35], none, []⟩,
   ⟨some 36, .extract 0, [.t 32], none, []⟩,
   ⟨some 37, .extract 1, [.t 32], none, []⟩,
   ⟨some 38, .extract 2, [.t 32], none, []⟩,
   ⟨some 11, .mv, [.t 36], none, []⟩,
   ⟨some 12, .mv, [.t 37], none, []⟩,
   ⟨some 13, .mv, [.t 38], none, []⟩])
 (.clean (.seq (.reg false [
   ⟨some 39, .mv, [.t 7], none, []⟩,
   ⟨some 40, .mv, [.t 39], none, []⟩,
   ⟨some 41, .mv, [.t 8], some (1, 40, true), []⟩,
   ⟨some 42, .mv, [.t 11], some (1, 40, true), []⟩,
   ⟨some 43, .call 11, [.t 41, .t 42], some (1, 40, true), []⟩,
   ⟨some 44, .pick, [.t 40, .t 43, .bool false], none, []⟩,
   ⟨some 45, .mv, [.t 44], none, []⟩,
   ⟨some 46, .mv, [.t 9], some (6, 45, true), []⟩,
   ⟨some 47, .mv, [.t 12], some (6, 45, true), []⟩,
   ⟨some 48, .call 11, [.t 46, .t 47], some (6, 45, true), []⟩,
   ⟨some 49, .pick, [.t 45, .t 48, .bool false], none, []⟩,
   ⟨some 50, .mv, [.t 49], none, []⟩,
   ⟨some 51, .mv, [.t 10], some (11, 50, true), []⟩,
   ⟨some 52, .mv, [.t 13], some (11, 50, true), []⟩,
   ⟨some 53, .bin .eql, [.t 51, .t 52], some (11, 50, true), []⟩,
   ⟨some 54, .pick, [.t 50, .t 53, .bool false], none, []⟩,
   ⟨some 55, .mv, [.t 54], none, []⟩,
   ⟨some 56, .mv, [.t 2], some (16, 55, true), []⟩,
   ⟨some 57, .mv, [.t 1], some (16, 55, true), []⟩,
   ⟨some 58, .call 12, [.t 56, .t 57], some (16, 55, true), []⟩,
   ⟨some 59, .mv, [.t 2], some (16, 55, true), []⟩,
   ⟨some 60, .mv, [.t 1], some (16, 55, true), []⟩,
   ⟨some 61, .call 13, [.t 59, .t 60], some (16, 55, true), []⟩,
   ⟨some 62, .beq false .bool, [.t 58, .t 61], some (16, 55, true), []⟩,
   ⟨some 63, .pick, [.t 55, .t 62, .bool false], none, []⟩,
   ⟨some 6, .mv, [.t 63], none, []⟩])
 .ret)))))))))⟩
/- 0=n 1=options 2=set 6= 7=head 8=a 9=x 10=e 11=b 12=y 13=f -/
/-! tonneau/tonneaulaw22.RefuseLeast -/
def x4_0 : XC := (.seq (.seq (.reg false [
   ⟨some 45, .mv, [.t 9], none, []⟩,
   ⟨some 46, .mv, [.t 0], none, []⟩,
   ⟨some 47, .bin .shl, [.int .i64 1, .t 46], none, []⟩,
   ⟨some 48, .bin .lss, [.t 45, .t 47], none, []⟩])
 (.cond (.t 48)
  .skip
  (.exit 0)))
 (.seq (.block 1 (.seq (.reg false [
    ⟨some 51, .mv, [.t 9], none, []⟩,
    ⟨some 52, .mv, [.t 0], none, []⟩,
    ⟨some 53, .call 14, [.t 51, .t 52], none, []⟩,
    ⟨some 10, .mv, [.t 53], none, []⟩])
  (.seq (.reg false [
    ⟨some 54, .mv, [.t 10], none, []⟩,
    ⟨some 55, .mv, [.t 1], none, []⟩,
    ⟨some 56, .call 12, [.t 54, .t 55], none, []⟩,
    ⟨some 57, .mv, [.t 56], none, []⟩,
    ⟨some 58, .mv, [.t 10], some (3, 57, true), []⟩,
    ⟨some 59, .len false, [.t 58], some (3, 57, true), []⟩,
    ⟨some 60, .mv, [.t 6], some (3, 57, true), []⟩,
    ⟨some 61, .len false, [.t 60], some (3, 57, true), []⟩,
    ⟨some 62, .bin .lss, [.t 59, .t 61], some (3, 57, true), []⟩,
    ⟨some 63, .mv, [.t 62], some (3, 57, true), []⟩,
    ⟨some 64, .mv, [.t 10], some (9, 63, false), []⟩,
    ⟨some 65, .len false, [.t 64], some (9, 63, false), []⟩,
    ⟨some 66, .mv, [.t 6], some (9, 63, false), []⟩,
    ⟨some 67, .len false, [.t 66], some (9, 63, false), []⟩,
    ⟨some 68, .bin .eql, [.t 65, .t 67], some (9, 63, false), []⟩,
    ⟨some 69, .mv, [.t 68], some (9, 63, false), []⟩,
    ⟨some 70, .mv, [.t 10], some (15, 69, true), []⟩,
    ⟨some 71, .mv, [.t 6], some (15, 69, true), []⟩,
    ⟨some 72, .call 15, [.t 70, .t 71], some (15, 69, true), []⟩,
    ⟨some 73, .pick, [.t 69, .t 72, .bool false], some (9, 63, false), []⟩,
    ⟨some 74, .pick, [.t 63, .bool true, .t 73], some (3, 57, true), []⟩,
    ⟨some 75, .pick, [.t 57, .t 74, .bool false], none, []⟩])
  (.cond (.t 75)
   (.seq (.reg false [
     ⟨some 4, .mv, [.bool false], none, []⟩])
   .ret)
   .skip))))
 (.clean (.reg false [
   ⟨some 49, .mv, [.t 9], none, []⟩,
   ⟨some 50, .bin .add, [.t 49, .int .i64 1], none, []⟩,
   ⟨some 9, .mv, [.t 50], none, []⟩]))))
def x4_0d : List Nat := [4, 9, 10]
def x4_1 : XC := (.seq (.seq (.reg false [
   ⟨some 76, .mv, [.t 11], none, []⟩,
   ⟨some 77, .mv, [.t 6], none, []⟩,
   ⟨some 78, .len false, [.t 77], none, []⟩,
   ⟨some 79, .bin .lss, [.t 76, .t 78], none, []⟩])
 (.cond (.t 79)
  .skip
  (.exit 2)))
 (.seq (.block 3 (.seq (.reg true [
    ⟨some 82, .mv, [.t 6], none, []⟩,
    ⟨some 83, .mv, [.t 11], none, []⟩,
    ⟨some 84, .iaddr (.int .i64), [.t 82, .t 83], none, [0, 1]⟩,
    ⟨some 85, .load (.int .i64), [.t 84], none, [2, 0, 1]⟩,
    ⟨some 86, .bin .lss, [.t 85, .int .i64 0], none, [3, 2, 0, 1]⟩,
    ⟨some 87, .mv, [.t 86], none, [4, 3, 2, 0, 1]⟩,
    ⟨some 88, .mv, [.t 6], some (5, 87, false), [5, 4, 3, 2, 0, 1]⟩,
    ⟨some 89, .mv, [.t 11], some (5, 87, false), [5, 4, 3, 2, 0, 1]⟩,
    ⟨some 90, .iaddr (.int .i64), [.t 88, .t 89], some (5, 87, false), [6, 5, 4, 3, 2, 0, 1, 7]⟩,
    ⟨some 91, .load (.int .i64), [.t 90], some (5, 87, false), [8, 6, 5, 4, 3, 2, 0, 1, 7]⟩,
    ⟨some 92, .mv, [.t 0], some (5, 87, false), [5, 4, 3, 2, 0, 1]⟩,
    ⟨some 93, .bin .geq, [.t 91, .t 92], some (5, 87, false), [9, 8, 6, 5, 4, 3, 2, 0, 1, 7, 10]⟩,
    ⟨some 94, .pick, [.t 87, .bool true, .t 93], none, [5, 4, 3, 2, 0, 1, 11, 9, 8, 6, 7, 10]⟩,
    ⟨some 95, .mv, [.t 94], none, [12, 5, 4, 3, 2, 0, 1, 11, 9, 8, 6, 7, 10]⟩,
    ⟨some 96, .mv, [.t 11], some (13, 95, false), [13, 12, 5, 4, 3, 2, 0, 1, 11, 9, 8, 6, 7, 10]⟩,
    ⟨some 97, .bin .gtr, [.t 96, .int .i64 0], some (13, 95, false), [14, 13, 12, 5, 4, 3, 2, 0, 1, 11, 9, 8, 6, 7, 10]⟩,
    ⟨some 98, .mv, [.t 97], some (13, 95, false), [15, 14, 13, 12, 5, 4, 3, 2, 0, 1, 11, 9, 8, 6, 7, 10]⟩,
    ⟨some 99, .mv, [.t 6], some (16, 98, true), [16, 15, 14, 13, 12, 5, 4, 3, 2, 0, 1, 11, 9, 8, 6, 7, 10]⟩,
    ⟨some 100, .mv, [.t 11], some (16, 98, true), [16, 15, 14, 13, 12, 5, 4, 3, 2, 0, 1, 11, 9, 8, 6, 7, 10]⟩,
    ⟨some 101, .bin .sub, [.t 100, .int .i64 1], some (16, 98, true), [18, 16, 15, 14, 13, 12, 5, 4, 3, 2, 0, 1, 11, 9, 8, 6, 7, 10]⟩,
    ⟨some 102, .max, [.t 101, .int .i64 0], some (16, 98, true), [19, 18, 16, 15, 14, 13, 12, 5, 4, 3, 2, 0, 1, 11, 9, 8, 6, 7, 10]⟩,
    ⟨some 103, .iaddr (.int .i64), [.t 99, .t 102], some (16, 98, true), [17, 16, 15, 14, 13, 12, 5, 4, 3, 2, 0, 1, 11, 9, 8, 6, 7, 10, 20, 19, 18]⟩,
    ⟨some 104, .load (.int .i64), [.t 103], some (16, 98, true), [21, 17, 16, 15, 14, 13, 12, 5, 4, 3, 2, 0, 1, 11, 9, 8, 6, 7, 10, 20, 19, 18]⟩,
    ⟨some 105, .mv, [.t 6], some (16, 98, true), [16, 15, 14, 13, 12, 5, 4, 3, 2, 0, 1, 11, 9, 8, 6, 7, 10]⟩,
    ⟨some 106, .mv, [.t 11], some (16, 98, true), [16, 15, 14, 13, 12, 5, 4, 3, 2, 0, 1, 11, 9, 8, 6, 7, 10]⟩,
    ⟨some 107, .iaddr (.int .i64), [.t 105, .t 106], some (16, 98, true), [23, 16, 15, 14, 13, 12, 5, 4, 3, 2, 0, 1, 11, 9, 8, 6, 7, 10, 24]⟩,
    ⟨some 108, .load (.int .i64), [.t 107], some (16, 98, true), [25, 23, 16, 15, 14, 13, 12, 5, 4, 3, 2, 0, 1, 11, 9, 8, 6, 7, 10, 24]⟩,
    ⟨some 109, .bin .geq, [.t 104, .t 108], some (16, 98, true), [22, 21, 17, 16, 15, 14, 13, 12, 5, 4, 3, 2, 0, 1, 11, 9, 8, 6, 7, 10, 20, 19, 18, 26, 25, 23, 24]⟩,
    ⟨some 110, .pick, [.t 98, .t 109, .bool false], some (13, 95, false), [16, 15, 14, 13, 12, 5, 4, 3, 2, 0, 1, 11, 9, 8, 6, 7, 10, 27, 22, 21, 17, 20, 19, 18, 26, 25, 23, 24]⟩,
    ⟨some 111, .pick, [.t 95, .bool true, .t 110], none, [13, 12, 5, 4, 3, 2, 0, 1, 11, 9, 8, 6, 7, 10, 28, 16, 15, 14, 27, 22, 21, 17, 20, 19, 18, 26, 25, 23, 24]⟩,
    ⟨some 112, .mv, [.t 111], none, [29, 13, 12, 5, 4, 3, 2, 0, 1, 11, 9, 8, 6, 7, 10, 28, 16, 15, 14, 27, 22, 21, 17, 20, 19, 18, 26, 25, 23, 24]⟩,
    ⟨some 113, .bslice 3 (.int .i64) 0 [], [], some (30, 112, false), [30, 29, 13, 12, 5, 4, 3, 2, 0, 1, 11, 9, 8, 6, 7, 10, 28, 16, 15, 14, 27, 22, 21, 17, 20, 19, 18, 26, 25, 23, 24]⟩,
    ⟨some 114, .mv, [.t 6], some (30, 112, false), [30, 29, 13, 12, 5, 4, 3, 2, 0, 1, 11, 9, 8, 6, 7, 10, 28, 16, 15, 14, 27, 22, 21, 17, 20, 19, 18, 26, 25, 23, 24]⟩,
    ⟨some 115, .mv, [.t 11], some (30, 112, false), [30, 29, 13, 12, 5, 4, 3, 2, 0, 1, 11, 9, 8, 6, 7, 10, 28, 16, 15, 14, 27, 22, 21, 17, 20, 19, 18, 26, 25, 23, 24]⟩,
    ⟨some 116, .slice (.int .i64) false true, [.t 114, .t 115], some (30, 112, false), [32, 30, 29, 13, 12, 5, 4, 3, 2, 0, 1, 11, 9, 8, 6, 7, 10, 28, 16, 15, 14, 27, 22, 21, 17, 20, 19, 18, 26, 25, 23, 24, 33]⟩,
    ⟨some 117, .append 3 (.int .i64) 8, [.t 113, .t 116], some (30, 112, false), [31, 30, 29, 13, 12, 5, 4, 3, 2, 0, 1, 11, 9, 8, 6, 7, 10, 28, 16, 15, 14, 27, 22, 21, 17, 20, 19, 18, 26, 25, 23, 24, 34, 32, 33]⟩,
    ⟨some 118, .mv, [.t 6], some (30, 112, false), [30, 29, 13, 12, 5, 4, 3, 2, 0, 1, 11, 9, 8, 6, 7, 10, 28, 16, 15, 14, 27, 22, 21, 17, 20, 19, 18, 26, 25, 23, 24]⟩,
    ⟨some 119, .mv, [.t 11], some (30, 112, false), [30, 29, 13, 12, 5, 4, 3, 2, 0, 1, 11, 9, 8, 6, 7, 10, 28, 16, 15, 14, 27, 22, 21, 17, 20, 19, 18, 26, 25, 23, 24]⟩,
    ⟨some 120, .bin .add, [.t 119, .int .i64 1], some (30, 112, false), [37, 30, 29, 13, 12, 5, 4, 3, 2, 0, 1, 11, 9, 8, 6, 7, 10, 28, 16, 15, 14, 27, 22, 21, 17, 20, 19, 18, 26, 25, 23, 24]⟩,
    ⟨some 121, .slice (.int .i64) true false, [.t 118, .t 120], some (30, 112, false), [36, 30, 29, 13, 12, 5, 4, 3, 2, 0, 1, 11, 9, 8, 6, 7, 10, 28, 16, 15, 14, 27, 22, 21, 17, 20, 19, 18, 26, 25, 23, 24, 38, 37]⟩,
    ⟨some 122, .append 3 (.int .i64) 8, [.t 117, .t 121], some (30, 112, false), [35, 31, 30, 29, 13, 12, 5, 4, 3, 2, 0, 1, 11, 9, 8, 6, 7, 10, 28, 16, 15, 14, 27, 22, 21, 17, 20, 19, 18, 26, 25, 23, 24, 34, 32, 33, 39, 36, 38, 37]⟩,
    ⟨some 123, .mv, [.t 1], some (30, 112, false), [30, 29, 13, 12, 5, 4, 3, 2, 0, 1, 11, 9, 8, 6, 7, 10, 28, 16, 15, 14, 27, 22, 21, 17, 20, 19, 18, 26, 25, 23, 24]⟩,
    ⟨some 124, .call 12, [.t 122, .t 123], some (30, 112, false), [40, 35, 31, 30, 29, 13, 12, 5, 4, 3, 2, 0, 1, 11, 9, 8, 6, 7, 10, 28, 16, 15, 14, 27, 22, 21, 17, 20, 19, 18, 26, 25, 23, 24, 34, 32, 33, 39, 36, 38, 37, 41]⟩,
    ⟨some 125, .pick, [.t 112, .bool true, .t 124], none, [30, 29, 13, 12, 5, 4, 3, 2, 0, 1, 11, 9, 8, 6, 7, 10, 28, 16, 15, 14, 27, 22, 21, 17, 20, 19, 18, 26, 25, 23, 24, 42, 40, 35, 31, 34, 32, 33, 39, 36, 38, 37, 41]⟩])
  (.cond (.t 125)
   (.seq (.reg false [
     ⟨some 4, .mv, [.bool false], none, []⟩])
   .ret)
   .skip)))
 (.clean (.reg false [
   ⟨some 80, .mv, [.t 11], none, []⟩,
   ⟨some 81, .bin .add, [.t 80, .int .i64 1], none, []⟩,
   ⟨some 11, .mv, [.t 81], none, []⟩]))))
def x4_1d : List Nat := [4, 11]
def x4 : XF := ⟨127, [.tmp 4], [0, 1, 4, 5, 6, 8, 9, 10, 11],
 (.seq (.reg false [
   ⟨some 4, .mv, [.bool false], none, []⟩])
 (.seq (.reg false [
   ⟨some 12, .call 7, [], none, []⟩,
   ⟨some 5, .mv, [.t 12], none, []⟩])
 (.seq (.seq (.reg false [
   ⟨some 13, .mv, [.t 0], none, []⟩,
   ⟨some 14, .mv, [.t 1], none, []⟩,
   ⟨some 15, .call 8, [.t 13, .t 14], none, []⟩,
   ⟨some 16, .not, [.t 15], none, []⟩])
 (.cond (.t 16)
  (.seq (.reg false [
    ⟨some 17, .mv, [.t 5], none, []⟩,
    ⟨some 4, .mv, [.t 17], none, []⟩])
  .ret)
  .skip))
 (.clean (.seq (.reg false [
   ⟨some 19, .mv, [.t 0], none, []⟩,
   ⟨some 20, .mv, [.t 1], none, []⟩,
   ⟨some 21, .call 9, [.t 19, .t 20], none, []⟩,
   ⟨some 18, .mv, [.t 21], none, []⟩,
   ⟨some 22, .extract 0, [.t 18], none, []⟩,
   ⟨some 23, .extract 1, [.t 18], none, []⟩,
   ⟨some 24, .extract 2, [.t 18], none, []⟩,
   ⟨some 6, .mv, [.t 22], none, []⟩,
   ⟨some 7, .mv, [.t 23], none, []⟩,
   ⟨some 8, .mv, [.t 24], none, []⟩])
 (.clean (.seq (.seq (.reg false [
   ⟨some 25, .mv, [.t 8], none, []⟩,
   ⟨some 26, .bin .neq, [.t 25, .int .i64 0], none, []⟩])
 (.cond (.t 26)
  (.seq (.reg false [
    ⟨some 27, .mv, [.t 5], none, []⟩,
    ⟨some 28, .mv, [.t 27], none, []⟩,
    ⟨some 29, .mv, [.t 6], some (1, 28, true), []⟩,
    ⟨some 30, .len false, [.t 29], some (1, 28, true), []⟩,
    ⟨some 31, .bin .eql, [.t 30, .int .i64 0], some (1, 28, true), []⟩,
    ⟨some 32, .pick, [.t 28, .t 31, .bool false], none, []⟩,
    ⟨some 4, .mv, [.t 32], none, []⟩])
  .ret)
  .skip))
 (.clean (.seq (.seq (.reg false [
   ⟨some 33, .mv, [.t 0], none, []⟩,
   ⟨some 34, .bin .lss, [.t 33, .int .i64 0], none, []⟩,
   ⟨some 35, .mv, [.t 34], none, []⟩,
   ⟨some 36, .mv, [.t 0], some (2, 35, false), []⟩,
   ⟨some 37, .bin .gtr, [.t 36, .int .i64 20], some (2, 35, false), []⟩,
   ⟨some 38, .pick, [.t 35, .bool true, .t 37], none, []⟩,
   ⟨some 39, .mv, [.t 38], none, []⟩,
   ⟨some 40, .mv, [.t 6], some (6, 39, false), []⟩,
   ⟨some 41, .mv, [.t 1], some (6, 39, false), []⟩,
   ⟨some 42, .call 12, [.t 40, .t 41], some (6, 39, false), []⟩,
   ⟨some 43, .not, [.t 42], some (6, 39, false), []⟩,
   ⟨some 44, .pick, [.t 39, .bool true, .t 43], none, []⟩])
 (.cond (.t 44)
  (.seq (.reg false [
    ⟨some 4, .mv, [.bool false], none, []⟩])
  .ret)
  .skip))
 (.clean (.seq (.seq (.reg false [
   ⟨some 9, .mv, [.int .i64 0], none, []⟩])
 (.block 0 (.loop x4_0)))
 (.clean (.seq (.seq (.reg false [
   ⟨some 11, .mv, [.int .i64 0], none, []⟩])
 (.block 2 (.loop x4_1)))
 (.seq (.reg false [
   ⟨some 126, .mv, [.t 5], none, []⟩,
   ⟨some 4, .mv, [.t 126], none, []⟩])
 .ret))))))))))))))⟩
/- 0=n 1=options 4= 5=head 6=set 8=e 9=mask 10=other 11=k -/
/-! tonneau/tonneaulaw22.RefuseWitness -/
def x5_1 : XC := (.seq (.seq (.reg false [
   ⟨some 87, .mv, [.t 13], none, []⟩,
   ⟨some 88, .mv, [.t 10], none, []⟩,
   ⟨some 89, .bin .lss, [.t 87, .t 88], none, []⟩])
 (.cond (.t 89)
  .skip
  (.exit 2)))
 (.seq (.block 3 (.seq (.reg false [
    ⟨some 92, .mv, [.t 1], none, []⟩,
    ⟨some 93, .mv, [.t 13], none, []⟩,
    ⟨some 94, .mv, [.t 13], none, []⟩,
    ⟨some 95, .bin .add, [.t 94, .int .i64 1], none, []⟩,
    ⟨some 96, .slice (.sl (.int .i64)) true true, [.t 92, .t 93, .t 95], none, []⟩,
    ⟨some 14, .mv, [.t 96], none, []⟩])
  (.clean (.seq (.reg false [
    ⟨some 97, .mv, [.t 6], none, []⟩,
    ⟨some 98, .mv, [.t 9], none, []⟩,
    ⟨some 99, .mv, [.t 9], none, []⟩,
    ⟨some 100, .bin .add, [.t 99, .int .i64 1], none, []⟩,
    ⟨some 101, .slice (.int .i64) true true, [.t 97, .t 98, .t 100], none, []⟩,
    ⟨some 102, .mv, [.t 14], none, []⟩,
    ⟨some 103, .call 12, [.t 101, .t 102], none, []⟩,
    ⟨some 104, .mv, [.t 103], none, []⟩,
    ⟨some 105, .mv, [.t 12], some (7, 104, true), []⟩,
    ⟨some 106, .mv, [.t 14], some (7, 104, true), []⟩,
    ⟨some 107, .call 12, [.t 105, .t 106], some (7, 104, true), []⟩,
    ⟨some 108, .not, [.t 107], some (7, 104, true), []⟩,
    ⟨some 109, .pick, [.t 104, .t 108, .bool false], none, []⟩])
  (.cond (.t 109)
   (.seq (.reg false [
     ⟨some 4, .mv, [.bool false], none, []⟩])
   .ret)
   .skip)))))
 (.clean (.reg false [
   ⟨some 90, .mv, [.t 13], none, []⟩,
   ⟨some 91, .bin .add, [.t 90, .int .i64 1], none, []⟩,
   ⟨some 13, .mv, [.t 91], none, []⟩]))))
def x5_1d : List Nat := [4, 13, 14]
def x5_0 : XC := (.seq (.seq (.reg false [
   ⟨some 41, .mv, [.t 9], none, []⟩,
   ⟨some 42, .mv, [.t 6], none, []⟩,
   ⟨some 43, .len false, [.t 42], none, []⟩,
   ⟨some 44, .bin .lss, [.t 41, .t 43], none, []⟩])
 (.cond (.t 44)
  .skip
  (.exit 0)))
 (.seq (.block 1 (.seq (.reg false [
    ⟨some 47, .mv, [.t 7], none, []⟩,
    ⟨some 48, .mv, [.t 9], none, []⟩,
    ⟨some 49, .iaddr (.int .i64), [.t 47, .t 48], none, []⟩,
    ⟨some 50, .load (.int .i64), [.t 49], none, []⟩,
    ⟨some 10, .mv, [.t 50], none, []⟩])
  (.seq (.seq (.reg false [
    ⟨some 51, .mv, [.t 10], none, []⟩,
    ⟨some 52, .bin .lss, [.t 51, .int .i64 0], none, []⟩,
    ⟨some 53, .mv, [.t 52], none, []⟩,
    ⟨some 54, .mv, [.t 10], some (2, 53, false), []⟩,
    ⟨some 55, .mv, [.t 1], some (2, 53, false), []⟩,
    ⟨some 56, .len false, [.t 55], some (2, 53, false), []⟩,
    ⟨some 57, .bin .geq, [.t 54, .t 56], some (2, 53, false), []⟩,
    ⟨some 58, .pick, [.t 53, .bool true, .t 57], none, []⟩])
  (.cond (.t 58)
   (.seq (.reg false [
     ⟨some 4, .mv, [.bool false], none, []⟩])
   .ret)
   .skip))
  (.clean (.seq (.reg false [
    ⟨some 59, .mv, [.t 1], none, []⟩,
    ⟨some 60, .mv, [.t 10], none, []⟩,
    ⟨some 61, .mv, [.t 10], none, []⟩,
    ⟨some 62, .bin .add, [.t 61, .int .i64 1], none, []⟩,
    ⟨some 63, .slice (.sl (.int .i64)) true true, [.t 59, .t 60, .t 62], none, []⟩,
    ⟨some 11, .mv, [.t 63], none, []⟩])
  (.clean (.seq (.reg true [
    ⟨some 64, .bslice 3 (.int .i64) 0 [], [], none, []⟩,
    ⟨some 65, .mv, [.t 6], none, []⟩,
    ⟨some 66, .mv, [.t 9], none, []⟩,
    ⟨some 67, .slice (.int .i64) false true, [.t 65, .t 66], none, [1, 2]⟩,
    ⟨some 68, .append 3 (.int .i64) 8, [.t 64, .t 67], none, [0, 3, 1, 2]⟩,
    ⟨some 69, .mv, [.t 6], none, []⟩,
    ⟨some 70, .mv, [.t 9], none, []⟩,
    ⟨some 71, .bin .add, [.t 70, .int .i64 1], none, [6]⟩,
    ⟨some 72, .slice (.int .i64) true false, [.t 69, .t 71], none, [5, 7, 6]⟩,
    ⟨some 73, .append 3 (.int .i64) 8, [.t 68, .t 72], none, [4, 0, 3, 1, 2, 8, 5, 7, 6]⟩,
    ⟨some 12, .mv, [.t 73], none, [9, 4, 0, 3, 1, 2, 8, 5, 7, 6]⟩])
  (.clean (.seq (.seq (.reg false [
    ⟨some 74, .mv, [.t 6], none, []⟩,
    ⟨some 75, .mv, [.t 9], none, []⟩,
    ⟨some 76, .mv, [.t 9], none, []⟩,
    ⟨some 77, .bin .add, [.t 76, .int .i64 1], none, []⟩,
    ⟨some 78, .slice (.int .i64) true true, [.t 74, .t 75, .t 77], none, []⟩,
    ⟨some 79, .mv, [.t 11], none, []⟩,
    ⟨some 80, .call 12, [.t 78, .t 79], none, []⟩,
    ⟨some 81, .not, [.t 80], none, []⟩,
    ⟨some 82, .mv, [.t 81], none, []⟩,
    ⟨some 83, .mv, [.t 12], some (8, 82, false), []⟩,
    ⟨some 84, .mv, [.t 11], some (8, 82, false), []⟩,
    ⟨some 85, .call 12, [.t 83, .t 84], some (8, 82, false), []⟩,
    ⟨some 86, .pick, [.t 82, .bool true, .t 85], none, []⟩])
  (.cond (.t 86)
   (.seq (.reg false [
     ⟨some 4, .mv, [.bool false], none, []⟩])
   .ret)
   .skip))
  (.clean (.seq (.reg false [
    ⟨some 13, .mv, [.int .i64 0], none, []⟩])
  (.block 2 (.loop x5_1)))))))))))))
 (.clean (.reg false [
   ⟨some 45, .mv, [.t 9], none, []⟩,
   ⟨some 46, .bin .add, [.t 45, .int .i64 1], none, []⟩,
   ⟨some 9, .mv, [.t 46], none, []⟩]))))
def x5_0d : List Nat := [4, 9, 10, 11, 12, 13, 14]
def x5 : XF := ⟨111, [.tmp 4], [0, 1, 4, 5, 6, 7, 8, 9, 10, 11, 12, 13, 14],
 (.seq (.reg false [
   ⟨some 4, .mv, [.bool false], none, []⟩])
 (.seq (.reg false [
   ⟨some 15, .call 7, [], none, []⟩,
   ⟨some 5, .mv, [.t 15], none, []⟩])
 (.seq (.seq (.reg false [
   ⟨some 16, .mv, [.t 0], none, []⟩,
   ⟨some 17, .mv, [.t 1], none, []⟩,
   ⟨some 18, .call 8, [.t 16, .t 17], none, []⟩,
   ⟨some 19, .not, [.t 18], none, []⟩])
 (.cond (.t 19)
  (.seq (.reg false [
    ⟨some 20, .mv, [.t 5], none, []⟩,
    ⟨some 4, .mv, [.t 20], none, []⟩])
  .ret)
  .skip))
 (.clean (.seq (.reg false [
   ⟨some 22, .mv, [.t 0], none, []⟩,
   ⟨some 23, .mv, [.t 1], none, []⟩,
   ⟨some 24, .call 9, [.t 22, .t 23], none, []⟩,
   ⟨some 21, .mv, [.t 24], none, []⟩,
   ⟨some 25, .extract 0, [.t 21], none, []⟩,
   ⟨some 26, .extract 1, [.t 21], none, []⟩,
   ⟨some 27, .extract 2, [.t 21], none, []⟩,
   ⟨some 6, .mv, [.t 25], none, []⟩,
   ⟨some 7, .mv, [.t 26], none, []⟩,
   ⟨some 8, .mv, [.t 27], none, []⟩])
 (.clean (.seq (.seq (.reg false [
   ⟨some 28, .mv, [.t 8], none, []⟩,
   ⟨some 29, .bin .neq, [.t 28, .int .i64 0], none, []⟩])
 (.cond (.t 29)
  (.seq (.reg false [
    ⟨some 30, .mv, [.t 5], none, []⟩,
    ⟨some 31, .mv, [.t 30], none, []⟩,
    ⟨some 32, .mv, [.t 7], some (1, 31, true), []⟩,
    ⟨some 33, .len false, [.t 32], some (1, 31, true), []⟩,
    ⟨some 34, .bin .eql, [.t 33, .int .i64 0], some (1, 31, true), []⟩,
    ⟨some 35, .pick, [.t 31, .t 34, .bool false], none, []⟩,
    ⟨some 4, .mv, [.t 35], none, []⟩])
  .ret)
  .skip))
 (.clean (.seq (.seq (.reg false [
   ⟨some 36, .mv, [.t 7], none, []⟩,
   ⟨some 37, .len false, [.t 36], none, []⟩,
   ⟨some 38, .mv, [.t 6], none, []⟩,
   ⟨some 39, .len false, [.t 38], none, []⟩,
   ⟨some 40, .bin .neq, [.t 37, .t 39], none, []⟩])
 (.cond (.t 40)
  (.seq (.reg false [
    ⟨some 4, .mv, [.bool false], none, []⟩])
  .ret)
  .skip))
 (.clean (.seq (.seq (.reg false [
   ⟨some 9, .mv, [.int .i64 0], none, []⟩])
 (.block 0 (.loop x5_0)))
 (.seq (.reg false [
   ⟨some 110, .mv, [.t 5], none, []⟩,
   ⟨some 4, .mv, [.t 110], none, []⟩])
 .ret))))))))))))⟩
/- 0=n 1=options 4= 5=head 6=set 7=witnesses 8=e 9=k 10=w 11=one 12=rest 13=i 14=early -/
/-! tonneau/tonneaulaw22.RefuseMore -/
def x6_0 : XC := (.seq (.seq (.reg false [
   ⟨some 111, .mv, [.t 22], none, []⟩,
   ⟨some 112, .mv, [.t 1], none, []⟩,
   ⟨some 113, .mv, [.t 17], none, []⟩,
   ⟨some 114, .iaddr (.sl (.int .i64)), [.t 112, .t 113], none, []⟩,
   ⟨some 115, .load (.sl (.int .i64)), [.t 114], none, []⟩,
   ⟨some 116, .len false, [.t 115], none, []⟩,
   ⟨some 117, .bin .lss, [.t 111, .t 116], none, []⟩])
 (.cond (.t 117)
  .skip
  (.exit 0)))
 (.clean (.seq (.block 1 (.seq (.seq (.reg false [
    ⟨some 120, .mv, [.t 1], none, []⟩,
    ⟨some 121, .mv, [.t 17], none, []⟩,
    ⟨some 122, .iaddr (.sl (.int .i64)), [.t 120, .t 121], none, []⟩,
    ⟨some 123, .load (.sl (.int .i64)), [.t 122], none, []⟩,
    ⟨some 124, .mv, [.t 22], none, []⟩,
    ⟨some 125, .iaddr (.int .i64), [.t 123, .t 124], none, []⟩,
    ⟨some 126, .load (.int .i64), [.t 125], none, []⟩,
    ⟨some 127, .bin .lss, [.t 126, .int .i64 0], none, []⟩,
    ⟨some 128, .mv, [.t 127], none, []⟩,
    ⟨some 129, .mv, [.t 1], some (8, 128, false), []⟩,
    ⟨some 130, .mv, [.t 17], some (8, 128, false), []⟩,
    ⟨some 131, .iaddr (.sl (.int .i64)), [.t 129, .t 130], some (8, 128, false), []⟩,
    ⟨some 132, .load (.sl (.int .i64)), [.t 131], some (8, 128, false), []⟩,
    ⟨some 133, .mv, [.t 22], some (8, 128, false), []⟩,
    ⟨some 134, .iaddr (.int .i64), [.t 132, .t 133], some (8, 128, false), []⟩,
    ⟨some 135, .load (.int .i64), [.t 134], some (8, 128, false), []⟩,
    ⟨some 136, .mv, [.t 0], some (8, 128, false), []⟩,
    ⟨some 137, .bin .geq, [.t 135, .t 136], some (8, 128, false), []⟩,
    ⟨some 138, .pick, [.t 128, .bool true, .t 137], none, []⟩])
  (.cond (.t 138)
   (.seq (.reg false [
     ⟨some 8, .mv, [.bool false], none, []⟩])
   .ret)
   .skip))
  (.clean (.reg false [
    ⟨some 139, .mv, [.t 21], none, []⟩,
    ⟨some 140, .mv, [.t 1], none, []⟩,
    ⟨some 141, .mv, [.t 17], none, []⟩,
    ⟨some 142, .iaddr (.sl (.int .i64)), [.t 140, .t 141], none, []⟩,
    ⟨some 143, .load (.sl (.int .i64)), [.t 142], none, []⟩,
    ⟨some 144, .mv, [.t 22], none, []⟩,
    ⟨some 145, .iaddr (.int .i64), [.t 143, .t 144], none, []⟩,
    ⟨some 146, .load (.int .i64), [.t 145], none, []⟩,
    ⟨some 147, .iaddr .bool, [.t 139, .t 146], none, []⟩,
    ⟨none, .store .bool, [.t 147, .bool true], none, []⟩]))))
 (.clean (.reg false [
   ⟨some 118, .mv, [.t 22], none, []⟩,
   ⟨some 119, .bin .add, [.t 118, .int .i64 1], none, []⟩,
   ⟨some 22, .mv, [.t 119], none, []⟩])))))
def x6_0d : List Nat := [8, 22]
def x6_1 : XC := (.seq (.seq (.reg false [
   ⟨some 148, .mv, [.t 23], none, []⟩,
   ⟨some 149, .mv, [.t 2], none, []⟩,
   ⟨some 150, .len false, [.t 149], none, []⟩,
   ⟨some 151, .bin .lss, [.t 148, .t 150], none, []⟩])
 (.cond (.t 151)
  .skip
  (.exit 2)))
 (.seq (.block 3 (.seq (.reg false [
    ⟨some 154, .mv, [.t 2], none, []⟩,
    ⟨some 155, .mv, [.t 23], none, []⟩,
    ⟨some 156, .iaddr (.int .i64), [.t 154, .t 155], none, []⟩,
    ⟨some 157, .load (.int .i64), [.t 156], none, []⟩,
    ⟨some 158, .bin .geq, [.t 157, .int .i64 0], none, []⟩,
    ⟨some 159, .mv, [.t 158], none, []⟩,
    ⟨some 160, .mv, [.t 2], some (5, 159, true), []⟩,
    ⟨some 161, .mv, [.t 23], some (5, 159, true), []⟩,
    ⟨some 162, .iaddr (.int .i64), [.t 160, .t 161], some (5, 159, true), []⟩,
    ⟨some 163, .load (.int .i64), [.t 162], some (5, 159, true), []⟩,
    ⟨some 164, .mv, [.t 0], some (5, 159, true), []⟩,
    ⟨some 165, .bin .lss, [.t 163, .t 164], some (5, 159, true), []⟩,
    ⟨some 166, .pick, [.t 159, .t 165, .bool false], none, []⟩])
  (.cond (.t 166)
   (.reg false [
     ⟨some 167, .mv, [.t 21], none, []⟩,
     ⟨some 168, .mv, [.t 2], none, []⟩,
     ⟨some 169, .mv, [.t 23], none, []⟩,
     ⟨some 170, .iaddr (.int .i64), [.t 168, .t 169], none, []⟩,
     ⟨some 171, .load (.int .i64), [.t 170], none, []⟩,
     ⟨some 172, .iaddr .bool, [.t 167, .t 171], none, []⟩,
     ⟨none, .store .bool, [.t 172, .bool true], none, []⟩])
   .skip)))
 (.clean (.reg false [
   ⟨some 152, .mv, [.t 23], none, []⟩,
   ⟨some 153, .bin .add, [.t 152, .int .i64 1], none, []⟩,
   ⟨some 23, .mv, [.t 153], none, []⟩]))))
def x6_1d : List Nat := [23]
def x6_2 : XC := (.seq (.seq (.reg false [
   ⟨some 173, .mv, [.t 25], none, []⟩,
   ⟨some 174, .mv, [.t 0], none, []⟩,
   ⟨some 175, .bin .lss, [.t 173, .t 174], none, []⟩])
 (.cond (.t 175)
  .skip
  (.exit 4)))
 (.seq (.block 5 (.seq (.reg false [
    ⟨some 178, .mv, [.t 21], none, []⟩,
    ⟨some 179, .mv, [.t 25], none, []⟩,
    ⟨some 180, .iaddr .bool, [.t 178, .t 179], none, []⟩,
    ⟨some 181, .load .bool, [.t 180], none, []⟩])
  (.cond (.t 181)
   (.reg false [
     ⟨some 182, .mv, [.t 24], none, []⟩,
     ⟨some 183, .mv, [.t 25], none, []⟩,
     ⟨some 184, .bslice 3 (.int .i64) 1 [0], [.t 183], none, []⟩,
     ⟨some 185, .append 3 (.int .i64) 8, [.t 182, .t 184], none, []⟩,
     ⟨some 24, .mv, [.t 185], none, []⟩])
   .skip)))
 (.clean (.reg false [
   ⟨some 176, .mv, [.t 25], none, []⟩,
   ⟨some 177, .bin .add, [.t 176, .int .i64 1], none, []⟩,
   ⟨some 25, .mv, [.t 177], none, []⟩]))))
def x6_2d : List Nat := [24, 25]
def x6 : XF := ⟨217, [.tmp 8], [0, 1, 2, 3, 8, 9, 10, 11, 13, 14, 16, 17, 18, 20, 21, 22, 23, 24, 25, 26, 28],
 (.seq (.reg false [
   ⟨some 8, .mv, [.bool false], none, []⟩])
 (.seq (.reg false [
   ⟨some 29, .call 7, [], none, []⟩,
   ⟨some 9, .mv, [.t 29], none, []⟩])
 (.seq (.reg false [
   ⟨some 30, .bslice 23 (.sl (.int .i64)) 0 [], [], none, []⟩,
   ⟨some 31, .mv, [.t 1], none, []⟩,
   ⟨some 32, .append 23 (.sl (.int .i64)) 24, [.t 30, .t 31], none, []⟩,
   ⟨some 33, .mv, [.t 2], none, []⟩,
   ⟨some 34, .bslice 23 (.sl (.int .i64)) 1 [0], [.t 33], none, []⟩,
   ⟨some 35, .append 23 (.sl (.int .i64)) 24, [.t 32, .t 34], none, []⟩,
   ⟨some 10, .mv, [.t 35], none, []⟩])
 (.clean (.seq (.seq (.reg false [
   ⟨some 36, .mv, [.t 0], none, []⟩,
   ⟨some 37, .mv, [.t 10], none, []⟩,
   ⟨some 38, .call 8, [.t 36, .t 37], none, []⟩,
   ⟨some 39, .not, [.t 38], none, []⟩])
 (.cond (.t 39)
  (.seq (.reg false [
    ⟨some 40, .mv, [.t 9], none, []⟩,
    ⟨some 8, .mv, [.t 40], none, []⟩])
  .ret)
  .skip))
 (.clean (.seq (.reg false [
   ⟨some 42, .mv, [.t 0], none, []⟩,
   ⟨some 43, .mv, [.t 1], none, []⟩,
   ⟨some 44, .call 9, [.t 42, .t 43], none, []⟩,
   ⟨some 41, .mv, [.t 44], none, []⟩,
   ⟨some 45, .extract 0, [.t 41], none, []⟩,
   ⟨some 46, .extract 1, [.t 41], none, []⟩,
   ⟨some 47, .extract 2, [.t 41], none, []⟩,
   ⟨some 11, .mv, [.t 45], none, []⟩,
   ⟨some 12, .mv, [.t 46], none, []⟩,
   ⟨some 13, .mv, [.t 47], none, []⟩])
 (.clean (.seq (.reg false [
   ⟨some 49, .mv, [.t 0], none, []⟩,
   ⟨some 50, .mv, [.t 10], none, []⟩,
   ⟨some 51, .call 9, [.t 49, .t 50], none, []⟩,
   ⟨some 48, .mv, [.t 51], none, []⟩,
   ⟨some 52, .extract 0, [.t 48], none, []⟩,
   ⟨some 53, .extract 1, [.t 48], none, []⟩,
   ⟨some 54, .extract 2, [.t 48], none, []⟩,
   ⟨some 14, .mv, [.t 52], none, []⟩,
   ⟨some 15, .mv, [.t 53], none, []⟩,
   ⟨some 16, .mv, [.t 54], none, []⟩])
 (.clean (.seq (.seq (.reg false [
   ⟨some 55, .mv, [.t 13], none, []⟩,
   ⟨some 56, .bin .neq, [.t 55, .int .i64 0], none, []⟩])
 (.cond (.t 56)
  (.seq (.reg false [
    ⟨some 57, .mv, [.t 9], none, []⟩,
    ⟨some 58, .mv, [.t 57], none, []⟩,
    ⟨some 59, .mv, [.t 16], some (1, 58, true), []⟩,
    ⟨some 60, .bin .neq, [.t 59, .int .i64 0], some (1, 58, true), []⟩,
    ⟨some 61, .pick, [.t 58, .t 60, .bool false], none, []⟩,
    ⟨some 8, .mv, [.t 61], none, []⟩])
  .ret)
  .skip))
 (.clean (.seq (.seq (.reg false [
   ⟨some 62, .mv, [.t 16], none, []⟩,
   ⟨some 63, .bin .eql, [.t 62, .int .i64 0], none, []⟩,
   ⟨some 64, .mv, [.t 63], none, []⟩,
   ⟨some 65, .mv, [.t 14], some (2, 64, true), []⟩,
   ⟨some 66, .len false, [.t 65], some (2, 64, true), []⟩,
   ⟨some 67, .mv, [.t 11], some (2, 64, true), []⟩,
   ⟨some 68, .len false, [.t 67], some (2, 64, true), []⟩,
   ⟨some 69, .bin .lss, [.t 66, .t 68], some (2, 64, true), []⟩,
   ⟨some 70, .mv, [.t 69], some (2, 64, true), []⟩,
   ⟨some 71, .mv, [.t 14], some (8, 70, false), []⟩,
   ⟨some 72, .len false, [.t 71], some (8, 70, false), []⟩,
   ⟨some 73, .mv, [.t 11], some (8, 70, false), []⟩,
   ⟨some 74, .len false, [.t 73], some (8, 70, false), []⟩,
   ⟨some 75, .bin .add, [.t 74, .int .i64 1], some (8, 70, false), []⟩,
   ⟨some 76, .bin .gtr, [.t 72, .t 75], some (8, 70, false), []⟩,
   ⟨some 77, .pick, [.t 70, .bool true, .t 76], some (2, 64, true), []⟩,
   ⟨some 78, .pick, [.t 64, .t 77, .bool false], none, []⟩])
 (.cond (.t 78)
  (.seq (.reg false [
    ⟨some 8, .mv, [.bool false], none, []⟩])
  .ret)
  .skip))
 (.clean (.seq (.seq (.reg false [
   ⟨some 79, .mv, [.t 1], none, []⟩,
   ⟨some 80, .len false, [.t 79], none, []⟩,
   ⟨some 81, .bin .eql, [.t 80, .int .i64 0], none, []⟩])
 (.cond (.t 81)
  (.seq (.reg false [
    ⟨some 82, .mv, [.t 9], none, []⟩,
    ⟨some 8, .mv, [.t 82], none, []⟩])
  .ret)
  .skip))
 (.clean (.seq (.seq (.reg false [
   ⟨some 83, .mv, [.t 0], none, []⟩,
   ⟨some 84, .bin .lss, [.t 83, .int .i64 0], none, []⟩,
   ⟨some 85, .mv, [.t 84], none, []⟩,
   ⟨some 86, .mv, [.t 0], some (2, 85, false), []⟩,
   ⟨some 87, .bin .gtr, [.t 86, .int .i64 20], some (2, 85, false), []⟩,
   ⟨some 88, .pick, [.t 85, .bool true, .t 87], none, []⟩])
 (.cond (.t 88)
  (.seq (.reg false [
    ⟨some 8, .mv, [.bool false], none, []⟩])
  .ret)
  .skip))
 (.clean (.seq (.reg false [
   ⟨some 89, .mv, [.t 3], none, []⟩,
   ⟨some 90, .conv .i64, [.t 89], none, []⟩,
   ⟨some 91, .mv, [.t 1], none, []⟩,
   ⟨some 92, .len false, [.t 91], none, []⟩,
   ⟨some 93, .bin .rem, [.t 90, .t 92], none, []⟩,
   ⟨some 17, .mv, [.t 93], none, []⟩])
 (.clean (.seq (.reg true [
   ⟨some 95, .mv, [.t 0], none, []⟩,
   ⟨some 96, .bslice 23 (.sl (.int .i64)) 0 [], [], none, []⟩,
   ⟨some 97, .mv, [.t 1], none, []⟩,
   ⟨some 98, .mv, [.t 17], none, []⟩,
   ⟨some 99, .slice (.sl (.int .i64)) true false, [.t 97, .t 98], none, [2, 3]⟩,
   ⟨some 100, .append 23 (.sl (.int .i64)) 24, [.t 96, .t 99], none, [1, 4, 2, 3]⟩,
   ⟨some 101, .mv, [.t 1], none, []⟩,
   ⟨some 102, .mv, [.t 17], none, []⟩,
   ⟨some 103, .slice (.sl (.int .i64)) false true, [.t 101, .t 102], none, [6, 7]⟩,
   ⟨some 104, .append 23 (.sl (.int .i64)) 24, [.t 100, .t 103], none, [5, 1, 4, 2, 3, 8, 6, 7]⟩,
   ⟨some 105, .call 9, [.t 95, .t 104], none, [0, 9, 5, 1, 4, 2, 3, 8, 6, 7]⟩,
   ⟨some 94, .mv, [.t 105], none, [10, 0, 9, 5, 1, 4, 2, 3, 8, 6, 7]⟩,
   ⟨some 106, .extract 0, [.t 94], none, [11, 10, 0, 9, 5, 1, 4, 2, 3, 8, 6, 7]⟩,
   ⟨some 107, .extract 1, [.t 94], none, [11, 10, 0, 9, 5, 1, 4, 2, 3, 8, 6, 7]⟩,
   ⟨some 108, .extract 2, [.t 94], none, [11, 10, 0, 9, 5, 1, 4, 2, 3, 8, 6, 7]⟩,
   ⟨some 18, .mv, [.t 106], none, [12, 11, 10, 0, 9, 5, 1, 4, 2, 3, 8, 6, 7]⟩,
   ⟨some 19, .mv, [.t 107], none, [13, 11, 10, 0, 9, 5, 1, 4, 2, 3, 8, 6, 7, 15, 12]⟩,
   ⟨some 20, .mv, [.t 108], none, [14, 11, 10, 0, 9, 5, 1, 4, 2, 3, 8, 6, 7, 16, 13, 15, 12]⟩])
 (.clean (.seq (.reg false [
   ⟨some 109, .mv, [.t 0], none, []⟩,
   ⟨some 110, .mkslice 4 .bool 1, [.t 109, .t 109], none, []⟩,
   ⟨some 21, .mv, [.t 110], none, []⟩])
 (.seq (.seq (.reg false [
   ⟨some 22, .mv, [.int .i64 0], none, []⟩])
 (.block 0 (.loop x6_0)))
 (.clean (.seq (.seq (.reg false [
   ⟨some 23, .mv, [.int .i64 0], none, []⟩])
 (.block 2 (.loop x6_1)))
 (.clean (.seq (.reg false [
   ⟨some 24, .nilrow 3 (.int .i64), [], none, []⟩])
 (.seq (.seq (.reg false [
   ⟨some 25, .mv, [.int .i64 0], none, []⟩])
 (.block 4 (.loop x6_2)))
 (.clean (.seq (.reg false [
   ⟨some 187, .mv, [.t 0], none, []⟩,
   ⟨some 188, .bslice 23 (.sl (.int .i64)) 0 [], [], none, []⟩,
   ⟨some 189, .mv, [.t 1], none, []⟩,
   ⟨some 190, .append 23 (.sl (.int .i64)) 24, [.t 188, .t 189], none, []⟩,
   ⟨some 191, .mv, [.t 24], none, []⟩,
   ⟨some 192, .bslice 23 (.sl (.int .i64)) 1 [0], [.t 191], none, []⟩,
   ⟨some 193, .append 23 (.sl (.int .i64)) 24, [.t 190, .t 192], none, []⟩,
   ⟨some 194, .call 9, [.t 187, .t 193], none, []⟩,
   ⟨some 186, .mv, [.t 194], none, []⟩,
   ⟨some 195, .extract 0, [.t 186], none, []⟩,
   ⟨some 196, .extract 1, [.t 186], none, []⟩,
   ⟨some 197, .extract 2, [.t 186], none, []⟩,
   ⟨some 26, .mv, [.t 195], none, []⟩,
   ⟨some 27, .mv, [.t 196], none, []⟩,
   ⟨some 28, .mv, [.t 197], none, []⟩])
 (.clean (.seq (.reg false [
   ⟨some 198, .mv, [.t 9], none, []⟩,
   ⟨some 199, .mv, [.t 198], none, []⟩,
   ⟨some 200, .mv, [.t 20], some (1, 199, true), []⟩,
   ⟨some 201, .bin .eql, [.t 200, .int .i64 0], some (1, 199, true), []⟩,
   ⟨some 202, .pick, [.t 199, .t 201, .bool false], none, []⟩,
   ⟨some 203, .mv, [.t 202], none, []⟩,
   ⟨some 204, .mv, [.t 28], some (5, 203, true), []⟩,
   ⟨some 205, .bin .eql, [.t 204, .int .i64 0], some (5, 203, true), []⟩,
   ⟨some 206, .pick, [.t 203, .t 205, .bool false], none, []⟩,
   ⟨some 207, .mv, [.t 206], none, []⟩,
   ⟨some 208, .mv, [.t 11], some (9, 207, true), []⟩,
   ⟨some 209, .mv, [.t 18], some (9, 207, true), []⟩,
   ⟨some 210, .call 11, [.t 208, .t 209], some (9, 207, true), []⟩,
   ⟨some 211, .pick, [.t 207, .t 210, .bool false], none, []⟩,
   ⟨some 212, .mv, [.t 211], none, []⟩,
   ⟨some 213, .mv, [.t 11], some (14, 212, true), []⟩,
   ⟨some 214, .mv, [.t 26], some (14, 212, true), []⟩,
   ⟨some 215, .call 11, [.t 213, .t 214], some (14, 212, true), []⟩,
   ⟨some 216, .pick, [.t 212, .t 215, .bool false], none, []⟩,
   ⟨some 8, .mv, [.t 216], none, []⟩])
 .ret)))))))))))))))))))))))))))))))))⟩
/- 0=n 1=options 2=more 3=by 8= 9=head 10=with 11=set 13=e 14=wide 16=f 17=k 18=turned 20=g 21=all 22=i 23=i 24=both 25=i 26=same 28=h -/
/-! tonneau/tonneaulaw22.small -/
def x7 : XF := ⟨100, [.tmp 0], [0, 1, 2, 3, 4, 5, 6, 9, 10, 11, 12, 13],
 (.seq (.reg false [
   ⟨some 0, .mv, [.bool false], none, []⟩])
 (.seq (.reg false [
   ⟨some 15, .bslice 3 (.int .i64) 2 [0, 1], [.int .i64 0, .int .i64 1], none, []⟩,
   ⟨some 16, .bslice 3 (.int .i64) 2 [0, 1], [.int .i64 1, .int .i64 2], none, []⟩,
   ⟨some 17, .bslice 3 (.int .i64) 2 [0, 1], [.int .i64 2, .int .i64 3], none, []⟩,
   ⟨some 18, .bslice 23 (.sl (.int .i64)) 3 [0, 1, 2], [.t 15, .t 16, .t 17], none, []⟩,
   ⟨some 19, .call 9, [.int .i64 4, .t 18], none, []⟩,
   ⟨some 14, .mv, [.t 19], none, []⟩,
   ⟨some 20, .extract 0, [.t 14], none, []⟩,
   ⟨some 21, .extract 1, [.t 14], none, []⟩,
   ⟨some 22, .extract 2, [.t 14], none, []⟩,
   ⟨some 1, .mv, [.t 20], none, []⟩,
   ⟨some 2, .mv, [.t 21], none, []⟩,
   ⟨some 3, .mv, [.t 22], none, []⟩])
 (.clean (.seq (.reg false [
   ⟨some 24, .bslice 3 (.int .i64) 2 [0, 1], [.int .i64 0, .int .i64 1], none, []⟩,
   ⟨some 25, .bslice 3 (.int .i64) 2 [0, 1], [.int .i64 1, .int .i64 2], none, []⟩,
   ⟨some 26, .bslice 3 (.int .i64) 2 [0, 1], [.int .i64 1, .int .i64 3], none, []⟩,
   ⟨some 27, .bslice 23 (.sl (.int .i64)) 3 [0, 1, 2], [.t 24, .t 25, .t 26], none, []⟩,
   ⟨some 28, .call 9, [.int .i64 4, .t 27], none, []⟩,
   ⟨some 23, .mv, [.t 28], none, []⟩,
   ⟨some 29, .extract 0, [.t 23], none, []⟩,
   ⟨some 30, .extract 1, [.t 23], none, []⟩,
   ⟨some 31, .extract 2, [.t 23], none, []⟩,
   ⟨some 4, .mv, [.t 29], none, []⟩,
   ⟨some 5, .mv, [.t 30], none, []⟩,
   ⟨some 6, .mv, [.t 31], none, []⟩])
 (.clean (.seq (.reg false [
   ⟨some 33, .bslice 3 (.int .i64) 1 [0], [.int .i64 0], none, []⟩,
   ⟨some 34, .bslice 3 (.int .i64) 1 [0], [.int .i64 1], none, []⟩,
   ⟨some 35, .bslice 23 (.sl (.int .i64)) 3 [0, 1, 2], [.t 33, .nil, .t 34], none, []⟩,
   ⟨some 36, .call 9, [.int .i64 3, .t 35], none, []⟩,
   ⟨some 32, .mv, [.t 36], none, []⟩,
   ⟨some 37, .extract 0, [.t 32], none, []⟩,
   ⟨some 38, .extract 1, [.t 32], none, []⟩,
   ⟨some 39, .extract 2, [.t 32], none, []⟩,
   ⟨some 7, .mv, [.t 37], none, []⟩,
   ⟨some 8, .mv, [.t 38], none, []⟩,
   ⟨some 9, .mv, [.t 39], none, []⟩])
 (.clean (.seq (.reg false [
   ⟨some 41, .call 9, [.int .i64 3, .nil], none, []⟩,
   ⟨some 40, .mv, [.t 41], none, []⟩,
   ⟨some 42, .extract 0, [.t 40], none, []⟩,
   ⟨some 43, .extract 1, [.t 40], none, []⟩,
   ⟨some 44, .extract 2, [.t 40], none, []⟩,
   ⟨some 10, .mv, [.t 42], none, []⟩,
   ⟨some 11, .mv, [.t 43], none, []⟩,
   ⟨some 12, .mv, [.t 44], none, []⟩])
 (.clean (.seq (.reg false [
   ⟨some 45, .mv, [.t 3], none, []⟩,
   ⟨some 46, .bin .eql, [.t 45, .int .i64 0], none, []⟩,
   ⟨some 47, .mv, [.t 46], none, []⟩,
   ⟨some 48, .mv, [.t 1], some (2, 47, true), []⟩,
   ⟨some 49, .bslice 3 (.int .i64) 2 [0, 1], [.int .i64 0, .int .i64 2], some (2, 47, true), []⟩,
   ⟨some 50, .call 11, [.t 48, .t 49], some (2, 47, true), []⟩,
   ⟨some 51, .pick, [.t 47, .t 50, .bool false], none, []⟩,
   ⟨some 52, .mv, [.t 51], none, []⟩,
   ⟨some 53, .mv, [.t 2], some (7, 52, true), []⟩,
   ⟨some 54, .bslice 3 (.int .i64) 2 [0, 1], [.int .i64 0, .int .i64 1], some (7, 52, true), []⟩,
   ⟨some 55, .call 11, [.t 53, .t 54], some (7, 52, true), []⟩,
   ⟨some 56, .pick, [.t 52, .t 55, .bool false], none, []⟩,
   ⟨some 57, .mv, [.t 56], none, []⟩,
   ⟨some 58, .mv, [.t 6], some (12, 57, true), []⟩,
   ⟨some 59, .bin .eql, [.t 58, .int .i64 0], some (12, 57, true), []⟩,
   ⟨some 60, .pick, [.t 57, .t 59, .bool false], none, []⟩,
   ⟨some 61, .mv, [.t 60], none, []⟩,
   ⟨some 62, .mv, [.t 4], some (16, 61, true), []⟩,
   ⟨some 63, .bslice 3 (.int .i64) 1 [0], [.int .i64 1], some (16, 61, true), []⟩,
   ⟨some 64, .call 11, [.t 62, .t 63], some (16, 61, true), []⟩,
   ⟨some 65, .pick, [.t 61, .t 64, .bool false], none, []⟩,
   ⟨some 66, .mv, [.t 65], none, []⟩,
   ⟨some 67, .mv, [.t 5], some (21, 66, true), []⟩,
   ⟨some 68, .bslice 3 (.int .i64) 1 [0], [.int .i64 0], some (21, 66, true), []⟩,
   ⟨some 69, .call 11, [.t 67, .t 68], some (21, 66, true), []⟩,
   ⟨some 70, .pick, [.t 66, .t 69, .bool false], none, []⟩,
   ⟨some 13, .mv, [.t 70], none, []⟩])
 (.clean (.seq (.reg false [
   ⟨some 71, .mv, [.t 13], none, []⟩,
   ⟨some 72, .mv, [.t 71], none, []⟩,
   ⟨some 73, .mv, [.t 9], some (1, 72, true), []⟩,
   ⟨some 74, .bin .eql, [.t 73, .int .i64 4], some (1, 72, true), []⟩,
   ⟨some 75, .pick, [.t 72, .t 74, .bool false], none, []⟩,
   ⟨some 76, .mv, [.t 75], none, []⟩,
   ⟨some 77, .mv, [.t 12], some (5, 76, true), []⟩,
   ⟨some 78, .bin .eql, [.t 77, .int .i64 0], some (5, 76, true), []⟩,
   ⟨some 79, .pick, [.t 76, .t 78, .bool false], none, []⟩,
   ⟨some 80, .mv, [.t 79], none, []⟩,
   ⟨some 81, .mv, [.t 10], some (9, 80, true), []⟩,
   ⟨some 82, .len false, [.t 81], some (9, 80, true), []⟩,
   ⟨some 83, .mv, [.t 11], some (9, 80, true), []⟩,
   ⟨some 84, .len false, [.t 83], some (9, 80, true), []⟩,
   ⟨some 85, .bin .add, [.t 82, .t 84], some (9, 80, true), []⟩,
   ⟨some 86, .bin .eql, [.t 85, .int .i64 0], some (9, 80, true), []⟩,
   ⟨some 87, .pick, [.t 80, .t 86, .bool false], none, []⟩,
   ⟨some 88, .mv, [.t 87], none, []⟩,
   ⟨some 89, .bslice 3 (.int .i64) 1 [0], [.int .i64 1], some (17, 88, true), []⟩,
   ⟨some 90, .bslice 3 (.int .i64) 2 [0, 1], [.int .i64 0, .int .i64 1], some (17, 88, true), []⟩,
   ⟨some 91, .bslice 23 (.sl (.int .i64)) 1 [0], [.t 90], some (17, 88, true), []⟩,
   ⟨some 92, .call 12, [.t 89, .t 91], some (17, 88, true), []⟩,
   ⟨some 93, .pick, [.t 88, .t 92, .bool false], none, []⟩,
   ⟨some 94, .mv, [.t 93], none, []⟩,
   ⟨some 95, .bslice 3 (.int .i64) 1 [0], [.int .i64 0], some (23, 94, true), []⟩,
   ⟨some 96, .bslice 23 (.sl (.int .i64)) 1 [0], [.t 95], some (23, 94, true), []⟩,
   ⟨some 97, .call 12, [.nil, .t 96], some (23, 94, true), []⟩,
   ⟨some 98, .not, [.t 97], some (23, 94, true), []⟩,
   ⟨some 99, .pick, [.t 94, .t 98, .bool false], none, []⟩,
   ⟨some 0, .mv, [.t 99], none, []⟩])
 .ret))))))))))))⟩
/- 0= 1=a 2=x 3=e 4=b 5=y 6=f 9=g 10=c 11=z 12=h 13=one -/
/-! tonneau/tonneauref22.Few -/
def x8_0 : XC := (.seq (.seq (.reg false [
   ⟨some 17, .mv, [.t 5], none, []⟩,
   ⟨some 18, .mv, [.t 1], none, []⟩,
   ⟨some 19, .len false, [.t 18], none, []⟩,
   ⟨some 20, .bin .lss, [.t 17, .t 19], none, []⟩])
 (.cond (.t 20)
  .skip
  (.exit 0)))
 (.seq (.block 1 (.seq (.reg false [
    ⟨some 23, .mv, [.t 1], none, []⟩,
    ⟨some 24, .mv, [.t 5], none, []⟩,
    ⟨some 25, .iaddr (.sl (.int .i64)), [.t 23, .t 24], none, []⟩,
    ⟨some 26, .load (.sl (.int .i64)), [.t 25], none, []⟩,
    ⟨some 27, .len false, [.t 26], none, []⟩,
    ⟨some 28, .bin .gtr, [.t 27, .int .i64 12], none, []⟩])
  (.cond (.t 28)
   (.seq (.reg false [
     ⟨some 4, .mv, [.bool false], none, []⟩])
   .ret)
   .skip)))
 (.clean (.reg false [
   ⟨some 21, .mv, [.t 5], none, []⟩,
   ⟨some 22, .bin .add, [.t 21, .int .i64 1], none, []⟩,
   ⟨some 5, .mv, [.t 22], none, []⟩]))))
def x8_0d : List Nat := [4, 5]
def x8 : XF := ⟨29, [.tmp 4], [0, 1, 4, 5],
 (.seq (.reg false [
   ⟨some 4, .mv, [.bool false], none, []⟩])
 (.seq (.seq (.reg false [
   ⟨some 6, .mv, [.t 0], none, []⟩,
   ⟨some 7, .bin .gtr, [.t 6, .int .i64 9], none, []⟩,
   ⟨some 8, .mv, [.t 7], none, []⟩,
   ⟨some 9, .mv, [.t 0], some (2, 8, true), []⟩,
   ⟨some 10, .bin .leq, [.t 9, .int .i64 20], some (2, 8, true), []⟩,
   ⟨some 11, .pick, [.t 8, .t 10, .bool false], none, []⟩,
   ⟨some 12, .mv, [.t 11], none, []⟩,
   ⟨some 13, .mv, [.t 1], some (6, 12, false), []⟩,
   ⟨some 14, .len false, [.t 13], some (6, 12, false), []⟩,
   ⟨some 15, .bin .gtr, [.t 14, .int .i64 20], some (6, 12, false), []⟩,
   ⟨some 16, .pick, [.t 12, .bool true, .t 15], none, []⟩])
 (.cond (.t 16)
  (.seq (.reg false [
    ⟨some 4, .mv, [.bool false], none, []⟩])
  .ret)
  .skip))
 (.clean (.seq (.seq (.reg false [
   ⟨some 5, .mv, [.int .i64 0], none, []⟩])
 (.block 0 (.loop x8_0)))
 (.seq (.reg false [
   ⟨some 4, .mv, [.bool true], none, []⟩])
 .ret)))))⟩
/- 0=n 1=options 4= 5=i -/
/-! tonneau/refuse.Smallest -/
def x9_0 : XC := (.seq (.seq (.reg false [
   ⟨some 25, .mv, [.t 11], none, []⟩,
   ⟨some 26, .not, [.t 25], none, []⟩])
 (.cond (.t 26)
  .skip
  (.exit 0)))
 (.seq (.block 1 (.reg false [
    ⟨some 30, .mv, [.t 0], none, []⟩,
    ⟨some 31, .mv, [.t 7], none, []⟩,
    ⟨some 32, .mv, [.t 10], none, []⟩,
    ⟨some 33, .call 18, [.t 30, .t 31, .int .u32 0, .int .i64 0, .t 32], none, []⟩,
    ⟨some 29, .mv, [.t 33], none, []⟩,
    ⟨some 34, .extract 0, [.t 29], none, []⟩,
    ⟨some 35, .extract 1, [.t 29], none, []⟩,
    ⟨none, .store (.int .u32), [.t 9, .t 34], none, []⟩,
    ⟨some 11, .mv, [.t 35], none, []⟩]))
 (.clean (.reg false [
   ⟨some 27, .mv, [.t 10], none, []⟩,
   ⟨some 28, .bin .add, [.t 27, .int .i64 1], none, []⟩,
   ⟨some 10, .mv, [.t 28], none, []⟩]))))
def x9_0d : List Nat := [10, 11]
def x9_1 : XC := (.seq (.reg false [
   ⟨some 38, .bin .lss, [.t 37, .t 36], none, []⟩])
 (.seq (.cond (.t 38)
  .skip
  (.exit 2))
 (.seq (.block 3 (.seq (.reg false [
    ⟨some 39, .mv, [.t 37], none, []⟩,
    ⟨some 14, .alloc 3 (.int .i64), [], none, []⟩,
    ⟨none, .store (.int .i64), [.t 14, .t 39], none, []⟩])
  (.seq (.reg false [
    ⟨some 40, .load (.int .u32), [.t 9], none, []⟩,
    ⟨some 41, .load (.int .i64), [.t 14], none, []⟩,
    ⟨some 42, .bin .shr, [.t 40, .t 41], none, []⟩,
    ⟨some 43, .bin .and, [.t 42, .int .u32 1], none, []⟩,
    ⟨some 44, .bin .eql, [.t 43, .int .u32 1], none, []⟩])
  (.cond (.t 44)
   (.seq (.reg false [
     ⟨some 45, .mv, [.t 12], none, []⟩,
     ⟨some 46, .load (.int .i64), [.t 14], none, []⟩,
     ⟨some 47, .bslice 3 (.int .i64) 1 [0], [.t 46], none, []⟩,
     ⟨some 48, .append 3 (.int .i64) 8, [.t 45, .t 47], none, []⟩,
     ⟨some 12, .mv, [.t 48], none, []⟩])
   (.reg false [
     ⟨some 49, .mv, [.t 13], none, []⟩,
     ⟨some 50, .mv, [.t 7], none, []⟩,
     ⟨some 51, .mkfn 20, [.t 9, .t 14], none, []⟩,
     ⟨some 52, .call 19, [.t 50, .t 51], none, []⟩,
     ⟨some 53, .bslice 3 (.int .i64) 1 [0], [.t 52], none, []⟩,
     ⟨some 54, .append 3 (.int .i64) 8, [.t 49, .t 53], none, []⟩,
     ⟨some 13, .mv, [.t 54], none, []⟩]))
   .skip))))
 (.reg false [
   ⟨some 55, .bin .add, [.t 37, .int .i64 1], none, []⟩,
   ⟨some 37, .mv, [.t 55], none, []⟩]))))
def x9_1d : List Nat := [12, 13, 14, 37]
def x9 : XF := ⟨58, [.tmp 4, .tmp 5, .tmp 6], [0, 1, 4, 5, 6, 7, 8, 9, 10, 11, 12, 13, 14, 36, 37],
 (.seq (.reg false [
   ⟨some 4, .nilrow 3 (.int .i64), [], none, []⟩,
   ⟨some 5, .nilrow 3 (.int .i64), [], none, []⟩,
   ⟨some 6, .mv, [.int .i64 0], none, []⟩])
 (.seq (.reg false [
   ⟨some 16, .mv, [.t 0], none, []⟩,
   ⟨some 17, .mv, [.t 1], none, []⟩,
   ⟨some 18, .call 16, [.t 16, .t 17], none, []⟩,
   ⟨some 15, .mv, [.t 18], none, []⟩,
   ⟨some 19, .extract 0, [.t 15], none, []⟩,
   ⟨some 20, .extract 1, [.t 15], none, []⟩,
   ⟨some 7, .mv, [.t 19], none, []⟩,
   ⟨some 8, .mv, [.t 20], none, []⟩])
 (.clean (.seq (.seq (.reg false [
   ⟨some 21, .mv, [.t 8], none, []⟩,
   ⟨some 22, .not, [.t 21], none, []⟩])
 (.cond (.t 22)
  (.seq (.reg false [
    ⟨some 4, .nilrow 3 (.int .i64), [], none, []⟩,
    ⟨some 5, .nilrow 3 (.int .i64), [], none, []⟩,
    ⟨some 6, .mv, [.int .i64 1], none, []⟩])
  .ret)
  .skip))
 (.clean (.seq (.seq (.reg false [
   ⟨some 23, .mv, [.t 7], none, []⟩,
   ⟨some 24, .call 17, [.t 23, .int .u32 0], none, []⟩])
 (.cond (.t 24)
  (.seq (.reg false [
    ⟨some 4, .nilrow 3 (.int .i64), [], none, []⟩,
    ⟨some 5, .nilrow 3 (.int .i64), [], none, []⟩,
    ⟨some 6, .mv, [.int .i64 4], none, []⟩])
  .ret)
  .skip))
 (.clean (.seq (.reg false [
   ⟨some 9, .alloc 39 (.int .u32), [], none, []⟩])
 (.seq (.seq (.reg false [
   ⟨some 10, .mv, [.int .i64 0], none, []⟩,
   ⟨some 11, .mv, [.bool false], none, []⟩])
 (.block 0 (.loop x9_0)))
 (.clean (.seq (.reg false [
   ⟨some 12, .nilrow 3 (.int .i64), [], none, []⟩,
   ⟨some 13, .nilrow 3 (.int .i64), [], none, []⟩])
 (.seq (.seq (.reg false [
   ⟨some 36, .mv, [.t 0], none, []⟩,
   ⟨some 37, .mv, [.int .i64 0], none, []⟩])
 (.block 2 (.loop x9_1)))
 (.clean (.seq (.reg false [
   ⟨some 56, .mv, [.t 12], none, []⟩,
   ⟨some 57, .mv, [.t 13], none, []⟩,
   ⟨some 4, .mv, [.t 56], none, []⟩,
   ⟨some 5, .mv, [.t 57], none, []⟩,
   ⟨some 6, .mv, [.int .i64 0], none, []⟩])
 .ret))))))))))))))⟩
/- 0=n 1=options 4= 5= 6= 7=all 8=ok 9=best 10=many 11=found 12=set 13=witnesses 14=i 36= 37= -/
/-! tonneau/tonneauref22.Smallest -/
def x10_0 : XC := (.seq (.seq (.reg false [
   ⟨some 21, .mv, [.t 7], none, []⟩,
   ⟨some 22, .mv, [.t 1], none, []⟩,
   ⟨some 23, .len false, [.t 22], none, []⟩,
   ⟨some 24, .bin .lss, [.t 21, .t 23], none, []⟩])
 (.cond (.t 24)
  .skip
  (.exit 0)))
 (.seq (.block 1 (.seq (.reg false [
    ⟨some 27, .mv, [.t 1], none, []⟩,
    ⟨some 28, .mv, [.t 7], none, []⟩,
    ⟨some 29, .iaddr (.sl (.int .i64)), [.t 27, .t 28], none, []⟩,
    ⟨some 30, .load (.sl (.int .i64)), [.t 29], none, []⟩,
    ⟨some 31, .len false, [.t 30], none, []⟩,
    ⟨some 32, .bin .eql, [.t 31, .int .i64 0], none, []⟩])
  (.cond (.t 32)
   (.seq (.reg false [
     ⟨some 4, .nilrow 3 (.int .i64), [], none, []⟩,
     ⟨some 5, .nilrow 3 (.int .i64), [], none, []⟩,
     ⟨some 6, .mv, [.int .i64 4], none, []⟩])
   .ret)
   .skip)))
 (.clean (.reg false [
   ⟨some 25, .mv, [.t 7], none, []⟩,
   ⟨some 26, .bin .add, [.t 25, .int .i64 1], none, []⟩,
   ⟨some 7, .mv, [.t 26], none, []⟩]))))
def x10_0d : List Nat := [4, 5, 6, 7]
def x10_1 : XC := (.seq (.seq (.reg false [
   ⟨some 33, .mv, [.t 10], none, []⟩,
   ⟨some 34, .mv, [.t 0], none, []⟩,
   ⟨some 35, .bin .leq, [.t 33, .t 34], none, []⟩,
   ⟨some 36, .mv, [.t 35], none, []⟩,
   ⟨some 37, .mv, [.t 9], some (3, 36, true), []⟩,
   ⟨some 38, .not, [.t 37], some (3, 36, true), []⟩,
   ⟨some 39, .pick, [.t 36, .t 38, .bool false], none, []⟩])
 (.cond (.t 39)
  .skip
  (.exit 2)))
 (.clean (.seq (.block 3 (.reg false [
    ⟨some 43, .mv, [.t 0], none, []⟩,
    ⟨some 44, .mv, [.t 1], none, []⟩,
    ⟨some 45, .mv, [.t 10], none, []⟩,
    ⟨some 46, .call 22, [.t 43, .t 44, .nil, .int .i64 0, .t 45], none, []⟩,
    ⟨some 42, .mv, [.t 46], none, []⟩,
    ⟨some 47, .extract 0, [.t 42], none, []⟩,
    ⟨some 48, .extract 1, [.t 42], none, []⟩,
    ⟨some 8, .mv, [.t 47], none, []⟩,
    ⟨some 9, .mv, [.t 48], none, []⟩]))
 (.clean (.reg false [
   ⟨some 40, .mv, [.t 10], none, []⟩,
   ⟨some 41, .bin .add, [.t 40, .int .i64 1], none, []⟩,
   ⟨some 10, .mv, [.t 41], none, []⟩])))))
def x10_1d : List Nat := [8, 9, 10]
def x10_3 : XC := (.seq (.seq (.reg false [
   ⟨some 55, .mv, [.t 14], none, []⟩,
   ⟨some 56, .mv, [.t 1], none, []⟩,
   ⟨some 57, .len false, [.t 56], none, []⟩,
   ⟨some 58, .bin .lss, [.t 55, .t 57], none, []⟩,
   ⟨some 59, .mv, [.t 58], none, []⟩,
   ⟨some 60, .mv, [.t 13], some (4, 59, true), []⟩,
   ⟨some 61, .bin .lss, [.t 60, .int .i64 0], some (4, 59, true), []⟩,
   ⟨some 62, .pick, [.t 59, .t 61, .bool false], none, []⟩])
 (.cond (.t 62)
  .skip
  (.exit 6)))
 (.clean (.seq (.block 7 (.seq (.reg false [
    ⟨some 66, .mv, [.t 8], none, []⟩,
    ⟨some 67, .mv, [.t 1], none, []⟩,
    ⟨some 68, .mv, [.t 14], none, []⟩,
    ⟨some 69, .iaddr (.sl (.int .i64)), [.t 67, .t 68], none, []⟩,
    ⟨some 70, .load (.sl (.int .i64)), [.t 69], none, []⟩,
    ⟨some 71, .call 23, [.t 66, .t 70], none, []⟩,
    ⟨some 65, .mv, [.t 71], none, []⟩,
    ⟨some 72, .extract 0, [.t 65], none, []⟩,
    ⟨some 73, .extract 1, [.t 65], none, []⟩,
    ⟨some 15, .mv, [.t 72], none, []⟩,
    ⟨some 16, .mv, [.t 73], none, []⟩])
  (.clean (.seq (.reg false [
    ⟨some 74, .mv, [.t 15], none, []⟩,
    ⟨some 75, .bin .eql, [.t 74, .int .i64 1], none, []⟩,
    ⟨some 76, .mv, [.t 75], none, []⟩,
    ⟨some 77, .mv, [.t 16], some (2, 76, true), []⟩,
    ⟨some 78, .mv, [.t 8], some (2, 76, true), []⟩,
    ⟨some 79, .mv, [.t 12], some (2, 76, true), []⟩,
    ⟨some 80, .iaddr (.int .i64), [.t 78, .t 79], some (2, 76, true), []⟩,
    ⟨some 81, .load (.int .i64), [.t 80], some (2, 76, true), []⟩,
    ⟨some 82, .bin .eql, [.t 77, .t 81], some (2, 76, true), []⟩,
    ⟨some 83, .pick, [.t 76, .t 82, .bool false], none, []⟩])
  (.cond (.t 83)
   (.reg false [
     ⟨some 84, .mv, [.t 14], none, []⟩,
     ⟨some 13, .mv, [.t 84], none, []⟩])
   .skip)))))
 (.clean (.reg false [
   ⟨some 63, .mv, [.t 14], none, []⟩,
   ⟨some 64, .bin .add, [.t 63, .int .i64 1], none, []⟩,
   ⟨some 14, .mv, [.t 64], none, []⟩])))))
def x10_3d : List Nat := [13, 14, 15, 16]
def x10_2 : XC := (.seq (.seq (.reg false [
   ⟨some 49, .mv, [.t 12], none, []⟩,
   ⟨some 50, .mv, [.t 8], none, []⟩,
   ⟨some 51, .len false, [.t 50], none, []⟩,
   ⟨some 52, .bin .lss, [.t 49, .t 51], none, []⟩])
 (.cond (.t 52)
  .skip
  (.exit 4)))
 (.seq (.block 5 (.seq (.reg false [
    ⟨some 13, .mv, [.int .i64 (-1)], none, []⟩])
  (.seq (.seq (.reg false [
    ⟨some 14, .mv, [.int .i64 0], none, []⟩])
  (.block 6 (.loop x10_3)))
  (.clean (.reg false [
    ⟨some 85, .mv, [.t 11], none, []⟩,
    ⟨some 86, .mv, [.t 13], none, []⟩,
    ⟨some 87, .bslice 3 (.int .i64) 1 [0], [.t 86], none, []⟩,
    ⟨some 88, .append 3 (.int .i64) 8, [.t 85, .t 87], none, []⟩,
    ⟨some 11, .mv, [.t 88], none, []⟩])))))
 (.clean (.reg false [
   ⟨some 53, .mv, [.t 12], none, []⟩,
   ⟨some 54, .bin .add, [.t 53, .int .i64 1], none, []⟩,
   ⟨some 12, .mv, [.t 54], none, []⟩]))))
def x10_2d : List Nat := [11, 12, 13, 14, 15, 16]
def x10 : XF := ⟨91, [.tmp 4, .tmp 5, .tmp 6], [0, 1, 4, 5, 6, 7, 8, 9, 10, 11, 12, 13, 14, 15, 16],
 (.seq (.reg false [
   ⟨some 4, .nilrow 3 (.int .i64), [], none, []⟩,
   ⟨some 5, .nilrow 3 (.int .i64), [], none, []⟩,
   ⟨some 6, .mv, [.int .i64 0], none, []⟩])
 (.seq (.seq (.reg false [
   ⟨some 17, .mv, [.t 0], none, []⟩,
   ⟨some 18, .mv, [.t 1], none, []⟩,
   ⟨some 19, .call 21, [.t 17, .t 18], none, []⟩,
   ⟨some 20, .not, [.t 19], none, []⟩])
 (.cond (.t 20)
  (.seq (.reg false [
    ⟨some 4, .nilrow 3 (.int .i64), [], none, []⟩,
    ⟨some 5, .nilrow 3 (.int .i64), [], none, []⟩,
    ⟨some 6, .mv, [.int .i64 1], none, []⟩])
  .ret)
  .skip))
 (.clean (.seq (.seq (.reg false [
   ⟨some 7, .mv, [.int .i64 0], none, []⟩])
 (.block 0 (.loop x10_0)))
 (.clean (.seq (.reg false [
   ⟨some 8, .nilrow 3 (.int .i64), [], none, []⟩])
 (.seq (.reg false [
   ⟨some 9, .mv, [.bool false], none, []⟩])
 (.seq (.seq (.reg false [
   ⟨some 10, .mv, [.int .i64 0], none, []⟩])
 (.block 2 (.loop x10_1)))
 (.clean (.seq (.reg false [
   ⟨some 11, .nilrow 3 (.int .i64), [], none, []⟩])
 (.seq (.seq (.reg false [
   ⟨some 12, .mv, [.int .i64 0], none, []⟩])
 (.block 4 (.loop x10_2)))
 (.clean (.seq (.reg false [
   ⟨some 89, .mv, [.t 8], none, []⟩,
   ⟨some 90, .mv, [.t 11], none, []⟩,
   ⟨some 4, .mv, [.t 89], none, []⟩,
   ⟨some 5, .mv, [.t 90], none, []⟩,
   ⟨some 6, .mv, [.int .i64 0], none, []⟩])
 .ret)))))))))))))⟩
/- 0=n 1=options 4= 5= 6= 7=i 8=set 9=ok 10=many 11=witnesses 12=k 13=at 14=i 15=m 16=last -/
/-! tonneau/tonneauref22.Ints -/
def x11_0 : XC := (.seq (.seq (.reg false [
   ⟨some 11, .mv, [.t 5], none, []⟩,
   ⟨some 12, .mv, [.t 0], none, []⟩,
   ⟨some 13, .len false, [.t 12], none, []⟩,
   ⟨some 14, .bin .lss, [.t 11, .t 13], none, []⟩])
 (.cond (.t 14)
  .skip
  (.exit 0)))
 (.seq (.block 1 (.seq (.reg true [
    ⟨some 17, .mv, [.t 0], none, []⟩,
    ⟨some 18, .mv, [.t 5], none, []⟩,
    ⟨some 19, .iaddr (.int .i64), [.t 17, .t 18], none, [0, 1]⟩,
    ⟨some 20, .load (.int .i64), [.t 19], none, [2, 0, 1]⟩,
    ⟨some 21, .mv, [.t 1], none, []⟩,
    ⟨some 22, .mv, [.t 5], none, []⟩,
    ⟨some 23, .iaddr (.int .i64), [.t 21, .t 22], none, [4, 5]⟩,
    ⟨some 24, .load (.int .i64), [.t 23], none, [6, 4, 5]⟩,
    ⟨some 25, .bin .neq, [.t 20, .t 24], none, [3, 2, 0, 1, 7, 6, 4, 5]⟩])
  (.cond (.t 25)
   (.seq (.reg false [
     ⟨some 4, .mv, [.bool false], none, []⟩])
   .ret)
   .skip)))
 (.clean (.reg false [
   ⟨some 15, .mv, [.t 5], none, []⟩,
   ⟨some 16, .bin .add, [.t 15, .int .i64 1], none, []⟩,
   ⟨some 5, .mv, [.t 16], none, []⟩]))))
def x11_0d : List Nat := [4, 5]
def x11 : XF := ⟨26, [.tmp 4], [0, 1, 4, 5],
 (.seq (.reg false [
   ⟨some 4, .mv, [.bool false], none, []⟩])
 (.seq (.seq (.reg false [
   ⟨some 6, .mv, [.t 0], none, []⟩,
   ⟨some 7, .len false, [.t 6], none, []⟩,
   ⟨some 8, .mv, [.t 1], none, []⟩,
   ⟨some 9, .len false, [.t 8], none, []⟩,
   ⟨some 10, .bin .neq, [.t 7, .t 9], none, []⟩])
 (.cond (.t 10)
  (.seq (.reg false [
    ⟨some 4, .mv, [.bool false], none, []⟩])
  .ret)
  .skip))
 (.clean (.seq (.seq (.reg false [
   ⟨some 5, .mv, [.int .i64 0], none, []⟩])
 (.block 0 (.loop x11_0)))
 (.seq (.reg false [
   ⟨some 4, .mv, [.bool true], none, []⟩])
 .ret)))))⟩
/- 0=a 1=b 4= 5=i -/
/-! tonneau/refuse.Blocks -/
def x12 : XF := ⟨9, [.tmp 4], [0, 1, 2, 4],
 (.seq (.reg false [
   ⟨some 2, .box 23, [.t 0], none, []⟩,
   ⟨some 4, .mv, [.bool false], none, []⟩])
 (.seq (.reg false [
   ⟨some 5, .mv, [.t 1], none, []⟩,
   ⟨some 6, .mkfn 25, [.t 2], none, []⟩,
   ⟨some 7, .call 24, [.t 5, .t 6], none, []⟩,
   ⟨some 8, .not, [.t 7], none, []⟩,
   ⟨some 4, .mv, [.t 8], none, []⟩])
 .ret))⟩
/- 0=set 1=options 2=set 4= -/
/-! tonneau/tonneauref22.Blocks -/
def x13_0 : XC := (.seq (.seq (.reg false [
   ⟨some 8, .mv, [.t 5], none, []⟩,
   ⟨some 9, .mv, [.t 1], none, []⟩,
   ⟨some 10, .len false, [.t 9], none, []⟩,
   ⟨some 11, .bin .lss, [.t 8, .t 10], none, []⟩])
 (.cond (.t 11)
  .skip
  (.exit 0)))
 (.seq (.block 1 (.seq (.reg false [
    ⟨some 15, .mv, [.t 0], none, []⟩,
    ⟨some 16, .mv, [.t 1], none, []⟩,
    ⟨some 17, .mv, [.t 5], none, []⟩,
    ⟨some 18, .iaddr (.sl (.int .i64)), [.t 16, .t 17], none, []⟩,
    ⟨some 19, .load (.sl (.int .i64)), [.t 18], none, []⟩,
    ⟨some 20, .call 23, [.t 15, .t 19], none, []⟩,
    ⟨some 14, .mv, [.t 20], none, []⟩,
    ⟨some 21, .extract 0, [.t 14], none, []⟩,
    ⟨some 22, .extract 1, [.t 14], none, []⟩,
    ⟨some 6, .mv, [.t 21], none, []⟩,
    ⟨some 7, .mv, [.t 22], none, []⟩])
  (.clean (.seq (.reg false [
    ⟨some 23, .mv, [.t 6], none, []⟩,
    ⟨some 24, .bin .eql, [.t 23, .int .i64 0], none, []⟩])
  (.cond (.t 24)
   (.seq (.reg false [
     ⟨some 4, .mv, [.bool false], none, []⟩])
   .ret)
   .skip)))))
 (.clean (.reg false [
   ⟨some 12, .mv, [.t 5], none, []⟩,
   ⟨some 13, .bin .add, [.t 12, .int .i64 1], none, []⟩,
   ⟨some 5, .mv, [.t 13], none, []⟩]))))
def x13_0d : List Nat := [4, 5, 6]
def x13 : XF := ⟨25, [.tmp 4], [0, 1, 4, 5, 6],
 (.seq (.reg false [
   ⟨some 4, .mv, [.bool false], none, []⟩])
 (.seq (.seq (.reg false [
   ⟨some 5, .mv, [.int .i64 0], none, []⟩])
 (.block 0 (.loop x13_0)))
 (.seq (.reg false [
   ⟨some 4, .mv, [.bool true], none, []⟩])
 .ret)))⟩
/- 0=set 1=options 4= 5=i 6=n -/
/-! tonneau/tonneaulaw22.bits -/
def x14_0 : XC := (.seq (.seq (.reg false [
   ⟨some 7, .mv, [.t 6], none, []⟩,
   ⟨some 8, .mv, [.t 1], none, []⟩,
   ⟨some 9, .bin .lss, [.t 7, .t 8], none, []⟩])
 (.cond (.t 9)
  .skip
  (.exit 0)))
 (.seq (.block 1 (.seq (.reg false [
    ⟨some 12, .mv, [.t 0], none, []⟩,
    ⟨some 13, .mv, [.t 6], none, []⟩,
    ⟨some 14, .bin .shr, [.t 12, .t 13], none, []⟩,
    ⟨some 15, .bin .and, [.t 14, .int .i64 1], none, []⟩,
    ⟨some 16, .bin .eql, [.t 15, .int .i64 1], none, []⟩])
  (.cond (.t 16)
   (.reg false [
     ⟨some 17, .mv, [.t 5], none, []⟩,
     ⟨some 18, .mv, [.t 6], none, []⟩,
     ⟨some 19, .bslice 3 (.int .i64) 1 [0], [.t 18], none, []⟩,
     ⟨some 20, .append 3 (.int .i64) 8, [.t 17, .t 19], none, []⟩,
     ⟨some 5, .mv, [.t 20], none, []⟩])
   .skip)))
 (.clean (.reg false [
   ⟨some 10, .mv, [.t 6], none, []⟩,
   ⟨some 11, .bin .add, [.t 10, .int .i64 1], none, []⟩,
   ⟨some 6, .mv, [.t 11], none, []⟩]))))
def x14_0d : List Nat := [5, 6]
def x14 : XF := ⟨22, [.tmp 4], [0, 1, 4, 5, 6],
 (.seq (.reg false [
   ⟨some 4, .nilrow 3 (.int .i64), [], none, []⟩])
 (.seq (.reg false [
   ⟨some 5, .nilrow 3 (.int .i64), [], none, []⟩])
 (.seq (.seq (.reg false [
   ⟨some 6, .mv, [.int .i64 0], none, []⟩])
 (.block 0 (.loop x14_0)))
 (.seq (.reg false [
   ⟨some 21, .mv, [.t 5], none, []⟩,
   ⟨some 4, .mv, [.t 21], none, []⟩])
 .ret))))⟩
/- 0=mask 1=n 4= 5=out 6=i -/
/-! tonneau/tonneaulaw22.less -/
def x15_0 : XC := (.seq (.seq (.reg false [
   ⟨some 6, .mv, [.t 5], none, []⟩,
   ⟨some 7, .mv, [.t 0], none, []⟩,
   ⟨some 8, .len false, [.t 7], none, []⟩,
   ⟨some 9, .bin .lss, [.t 6, .t 8], none, []⟩,
   ⟨some 10, .mv, [.t 9], none, []⟩,
   ⟨some 11, .mv, [.t 5], some (4, 10, true), []⟩,
   ⟨some 12, .mv, [.t 1], some (4, 10, true), []⟩,
   ⟨some 13, .len false, [.t 12], some (4, 10, true), []⟩,
   ⟨some 14, .bin .lss, [.t 11, .t 13], some (4, 10, true), []⟩,
   ⟨some 15, .pick, [.t 10, .t 14, .bool false], none, []⟩])
 (.cond (.t 15)
  .skip
  (.exit 0)))
 (.clean (.seq (.block 1 (.seq (.reg true [
    ⟨some 18, .mv, [.t 0], none, []⟩,
    ⟨some 19, .mv, [.t 5], none, []⟩,
    ⟨some 20, .iaddr (.int .i64), [.t 18, .t 19], none, [0, 1]⟩,
    ⟨some 21, .load (.int .i64), [.t 20], none, [2, 0, 1]⟩,
    ⟨some 22, .mv, [.t 1], none, []⟩,
    ⟨some 23, .mv, [.t 5], none, []⟩,
    ⟨some 24, .iaddr (.int .i64), [.t 22, .t 23], none, [4, 5]⟩,
    ⟨some 25, .load (.int .i64), [.t 24], none, [6, 4, 5]⟩,
    ⟨some 26, .bin .neq, [.t 21, .t 25], none, [3, 2, 0, 1, 7, 6, 4, 5]⟩])
  (.cond (.t 26)
   (.seq (.reg true [
     ⟨some 27, .mv, [.t 0], none, []⟩,
     ⟨some 28, .mv, [.t 5], none, []⟩,
     ⟨some 29, .iaddr (.int .i64), [.t 27, .t 28], none, [0, 1]⟩,
     ⟨some 30, .load (.int .i64), [.t 29], none, [2, 0, 1]⟩,
     ⟨some 31, .mv, [.t 1], none, []⟩,
     ⟨some 32, .mv, [.t 5], none, []⟩,
     ⟨some 33, .iaddr (.int .i64), [.t 31, .t 32], none, [4, 5]⟩,
     ⟨some 34, .load (.int .i64), [.t 33], none, [6, 4, 5]⟩,
     ⟨some 35, .bin .lss, [.t 30, .t 34], none, [3, 2, 0, 1, 7, 6, 4, 5]⟩,
     ⟨some 4, .mv, [.t 35], none, [8, 3, 2, 0, 1, 7, 6, 4, 5]⟩])
   .ret)
   .skip)))
 (.clean (.reg false [
   ⟨some 16, .mv, [.t 5], none, []⟩,
   ⟨some 17, .bin .add, [.t 16, .int .i64 1], none, []⟩,
   ⟨some 5, .mv, [.t 17], none, []⟩])))))
def x15_0d : List Nat := [4, 5]
def x15 : XF := ⟨36, [.tmp 4], [0, 1, 4, 5],
 (.seq (.reg false [
   ⟨some 4, .mv, [.bool false], none, []⟩])
 (.seq (.seq (.reg false [
   ⟨some 5, .mv, [.int .i64 0], none, []⟩])
 (.block 0 (.loop x15_0)))
 (.seq (.reg false [
   ⟨some 4, .mv, [.bool false], none, []⟩])
 .ret)))⟩
/- 0=a 1=b 4= 5=i -/
/-! tonneau/refuse.masks -/
def x16_1 : XC := (.seq (.reg false [
   ⟨some 33, .bin .lss, [.t 32, .t 31], none, []⟩])
 (.seq (.cond (.t 33)
  .skip
  (.exit 2))
 (.seq (.block 3 (.seq (.reg false [
    ⟨some 34, .iaddr (.int .i64), [.t 30, .t 32], none, []⟩,
    ⟨some 35, .load (.int .i64), [.t 34], none, []⟩,
    ⟨some 12, .mv, [.t 35], none, []⟩])
  (.seq (.seq (.reg false [
    ⟨some 36, .mv, [.t 12], none, []⟩,
    ⟨some 37, .mv, [.t 10], none, []⟩,
    ⟨some 38, .bin .leq, [.t 36, .t 37], none, []⟩,
    ⟨some 39, .mv, [.t 38], none, []⟩,
    ⟨some 40, .mv, [.t 12], some (3, 39, false), []⟩,
    ⟨some 41, .mv, [.t 0], some (3, 39, false), []⟩,
    ⟨some 42, .bin .geq, [.t 40, .t 41], some (3, 39, false), []⟩,
    ⟨some 43, .pick, [.t 39, .bool true, .t 42], none, []⟩])
  (.cond (.t 43)
   (.seq (.reg false [
     ⟨some 4, .nilrow 39 (.int .u32), [], none, []⟩,
     ⟨some 5, .mv, [.bool false], none, []⟩])
   .ret)
   .skip))
  (.clean (.reg false [
    ⟨some 44, .mv, [.t 9], none, []⟩,
    ⟨some 45, .mv, [.t 12], none, []⟩,
    ⟨some 46, .bin .shl, [.int .u32 1, .t 45], none, []⟩,
    ⟨some 47, .bin .or, [.t 44, .t 46], none, []⟩,
    ⟨some 48, .mv, [.t 12], none, []⟩,
    ⟨some 9, .mv, [.t 47], none, []⟩,
    ⟨some 10, .mv, [.t 48], none, []⟩])))))
 (.reg false [
   ⟨some 49, .bin .add, [.t 32, .int .i64 1], none, []⟩,
   ⟨some 32, .mv, [.t 49], none, []⟩]))))
def x16_1d : List Nat := [4, 5, 9, 10, 12, 32]
def x16_0 : XC := (.seq (.reg false [
   ⟨some 27, .bin .lss, [.t 26, .t 25], none, []⟩])
 (.seq (.cond (.t 27)
  .skip
  (.exit 0))
 (.seq (.block 1 (.seq (.reg false [
    ⟨some 28, .iaddr (.sl (.int .i64)), [.t 24, .t 26], none, []⟩,
    ⟨some 29, .load (.sl (.int .i64)), [.t 28], none, []⟩,
    ⟨some 8, .mv, [.t 29], none, []⟩])
  (.seq (.reg false [
    ⟨some 9, .mv, [.int .u32 0], none, []⟩,
    ⟨some 10, .mv, [.int .i64 (-1)], none, []⟩])
  (.seq (.seq (.reg false [
    ⟨some 30, .mv, [.t 8], none, []⟩,
    ⟨some 31, .len false, [.t 30], none, []⟩,
    ⟨some 32, .mv, [.int .i64 0], none, []⟩])
  (.block 2 (.loop x16_1)))
  (.clean (.reg false [
    ⟨some 50, .mv, [.t 6], none, []⟩,
    ⟨some 51, .mv, [.t 9], none, []⟩,
    ⟨some 52, .bslice 39 (.int .u32) 1 [0], [.t 51], none, []⟩,
    ⟨some 53, .append 39 (.int .u32) 4, [.t 50, .t 52], none, []⟩,
    ⟨some 6, .mv, [.t 53], none, []⟩]))))))
 (.reg false [
   ⟨some 54, .bin .add, [.t 26, .int .i64 1], none, []⟩,
   ⟨some 26, .mv, [.t 54], none, []⟩]))))
def x16_0d : List Nat := [4, 5, 6, 8, 9, 10, 12, 26, 30, 31, 32]
def x16 : XF := ⟨56, [.tmp 4, .tmp 5], [0, 1, 4, 5, 6, 8, 9, 10, 12, 24, 25, 26, 30, 31, 32],
 (.seq (.reg false [
   ⟨some 4, .nilrow 39 (.int .u32), [], none, []⟩,
   ⟨some 5, .mv, [.bool false], none, []⟩])
 (.seq (.seq (.reg false [
   ⟨some 13, .mv, [.t 0], none, []⟩,
   ⟨some 14, .bin .lss, [.t 13, .int .i64 0], none, []⟩,
   ⟨some 15, .mv, [.t 14], none, []⟩,
   ⟨some 16, .mv, [.t 0], some (2, 15, false), []⟩,
   ⟨some 17, .bin .gtr, [.t 16, .int .i64 20], some (2, 15, false), []⟩,
   ⟨some 18, .pick, [.t 15, .bool true, .t 17], none, []⟩,
   ⟨some 19, .mv, [.t 18], none, []⟩,
   ⟨some 20, .mv, [.t 1], some (6, 19, false), []⟩,
   ⟨some 21, .len false, [.t 20], some (6, 19, false), []⟩,
   ⟨some 22, .bin .gtr, [.t 21, .int .i64 400], some (6, 19, false), []⟩,
   ⟨some 23, .pick, [.t 19, .bool true, .t 22], none, []⟩])
 (.cond (.t 23)
  (.seq (.reg false [
    ⟨some 4, .nilrow 39 (.int .u32), [], none, []⟩,
    ⟨some 5, .mv, [.bool false], none, []⟩])
  .ret)
  .skip))
 (.clean (.seq (.reg false [
   ⟨some 6, .nilrow 39 (.int .u32), [], none, []⟩])
 (.seq (.seq (.reg false [
   ⟨some 24, .mv, [.t 1], none, []⟩,
   ⟨some 25, .len false, [.t 24], none, []⟩,
   ⟨some 26, .mv, [.int .i64 0], none, []⟩])
 (.block 0 (.loop x16_0)))
 (.clean (.seq (.reg false [
   ⟨some 55, .mv, [.t 6], none, []⟩,
   ⟨some 4, .mv, [.t 55], none, []⟩,
   ⟨some 5, .mv, [.bool true], none, []⟩])
 .ret)))))))⟩
/- 0=n 1=options 4= 5= 6=out 8=o 9=m 10=last 12=i 24= 25= 26= 30= 31= 32= -/
/-! slices.Contains[[]uint32,uint32] -/
def x17 : XF := ⟨9, [.tmp 4], [0, 1, 4],
 (.seq (.reg false [
   ⟨some 4, .mv, [.bool false], none, []⟩])
 (.seq (.reg false [
   ⟨some 5, .mv, [.t 0], none, []⟩,
   ⟨some 6, .mv, [.t 1], none, []⟩,
   ⟨some 7, .call 29, [.t 5, .t 6], none, []⟩,
   ⟨some 8, .bin .geq, [.t 7, .int .i64 0], none, []⟩,
   ⟨some 4, .mv, [.t 8], none, []⟩])
 .ret))⟩
/- 0=s 1=v 4= -/
/-! tonneau/refuse.grow -/
def x18_0 : XC := (.seq (.seq (.reg false [
   ⟨some 32, .mv, [.t 4], none, []⟩,
   ⟨some 33, .bin .gtr, [.t 32, .int .i64 0], none, []⟩,
   ⟨some 34, .mv, [.t 33], none, []⟩,
   ⟨some 35, .mv, [.t 14], some (2, 34, true), []⟩,
   ⟨some 36, .mv, [.t 13], some (2, 34, true), []⟩,
   ⟨some 37, .bin .leq, [.t 35, .t 36], some (2, 34, true), []⟩,
   ⟨some 38, .pick, [.t 34, .t 37, .bool false], none, []⟩,
   ⟨some 39, .mv, [.t 38], none, []⟩,
   ⟨some 40, .mv, [.t 14], some (7, 39, true), []⟩,
   ⟨some 41, .mv, [.t 4], some (7, 39, true), []⟩,
   ⟨some 42, .bin .add, [.t 40, .t 41], some (7, 39, true), []⟩,
   ⟨some 43, .mv, [.t 0], some (7, 39, true), []⟩,
   ⟨some 44, .bin .leq, [.t 42, .t 43], some (7, 39, true), []⟩,
   ⟨some 45, .pick, [.t 39, .t 44, .bool false], none, []⟩])
 (.cond (.t 45)
  .skip
  (.exit 0)))
 (.clean (.seq (.block 1 (.seq (.reg true [
    ⟨some 49, .mv, [.t 0], none, []⟩,
    ⟨some 50, .mv, [.t 1], none, []⟩,
    ⟨some 51, .load (.int .u32), [.t 7], none, []⟩,
    ⟨some 52, .mv, [.t 14], none, []⟩,
    ⟨some 53, .bin .shl, [.int .u32 1, .t 52], none, [3]⟩,
    ⟨some 54, .bin .or, [.t 51, .t 53], none, [2, 4, 3]⟩,
    ⟨some 55, .mv, [.t 14], none, []⟩,
    ⟨some 56, .bin .add, [.t 55, .int .i64 1], none, [6]⟩,
    ⟨some 57, .mv, [.t 4], none, []⟩,
    ⟨some 58, .bin .sub, [.t 57, .int .i64 1], none, [8]⟩,
    ⟨some 59, .call 18, [.t 49, .t 50, .t 54, .t 56, .t 58], none, [0, 1, 5, 2, 4, 3, 7, 6, 9, 8]⟩,
    ⟨some 48, .mv, [.t 59], none, [10, 0, 1, 5, 2, 4, 3, 7, 6, 9, 8]⟩,
    ⟨some 60, .extract 0, [.t 48], none, [11, 10, 0, 1, 5, 2, 4, 3, 7, 6, 9, 8]⟩,
    ⟨some 61, .extract 1, [.t 48], none, [11, 10, 0, 1, 5, 2, 4, 3, 7, 6, 9, 8]⟩,
    ⟨some 15, .mv, [.t 60], none, [12, 11, 10, 0, 1, 5, 2, 4, 3, 7, 6, 9, 8]⟩,
    ⟨some 16, .mv, [.t 61], none, [13, 11, 10, 0, 1, 5, 2, 4, 3, 7, 6, 9, 8, 14, 12]⟩])
  (.clean (.seq (.reg false [
    ⟨some 62, .mv, [.t 16], none, []⟩])
  (.cond (.t 62)
   (.seq (.reg false [
     ⟨some 63, .mv, [.t 15], none, []⟩,
     ⟨some 10, .mv, [.t 63], none, []⟩,
     ⟨some 11, .mv, [.bool true], none, []⟩])
   .ret)
   .skip)))))
 (.clean (.reg false [
   ⟨some 46, .mv, [.t 14], none, []⟩,
   ⟨some 47, .bin .add, [.t 46, .int .i64 1], none, []⟩,
   ⟨some 14, .mv, [.t 47], none, []⟩])))))
def x18_0d : List Nat := [10, 11, 14, 15, 16]
def x18 : XF := ⟨64, [.tmp 10, .tmp 11], [0, 1, 2, 3, 4, 7, 10, 11, 12, 13, 14, 15, 16],
 (.seq (.reg false [
   ⟨some 7, .box 39, [.t 2], none, []⟩,
   ⟨some 10, .mv, [.int .u32 0], none, []⟩,
   ⟨some 11, .mv, [.bool false], none, []⟩])
 (.seq (.reg false [
   ⟨some 17, .mv, [.t 1], none, []⟩,
   ⟨some 18, .mkfn 30, [.t 7], none, []⟩,
   ⟨some 19, .call 19, [.t 17, .t 18], none, []⟩,
   ⟨some 12, .mv, [.t 19], none, []⟩])
 (.seq (.seq (.reg false [
   ⟨some 20, .mv, [.t 12], none, []⟩,
   ⟨some 21, .bin .lss, [.t 20, .int .i64 0], none, []⟩])
 (.cond (.t 21)
  (.seq (.reg false [
    ⟨some 22, .load (.int .u32), [.t 7], none, []⟩,
    ⟨some 23, .mv, [.t 4], none, []⟩,
    ⟨some 24, .bin .eql, [.t 23, .int .i64 0], none, []⟩,
    ⟨some 10, .mv, [.t 22], none, []⟩,
    ⟨some 11, .mv, [.t 24], none, []⟩])
  .ret)
  .skip))
 (.clean (.seq (.reg false [
   ⟨some 25, .mv, [.t 1], none, []⟩,
   ⟨some 26, .mv, [.t 12], none, []⟩,
   ⟨some 27, .iaddr (.int .u32), [.t 25, .t 26], none, []⟩,
   ⟨some 28, .load (.int .u32), [.t 27], none, []⟩,
   ⟨some 29, .call 31, [.t 28], none, []⟩,
   ⟨some 30, .bin .sub, [.t 29, .int .i64 1], none, []⟩,
   ⟨some 13, .mv, [.t 30], none, []⟩])
 (.clean (.seq (.seq (.reg false [
   ⟨some 31, .mv, [.t 3], none, []⟩,
   ⟨some 14, .mv, [.t 31], none, []⟩])
 (.block 0 (.loop x18_0)))
 (.seq (.reg false [
   ⟨some 10, .mv, [.int .u32 0], none, []⟩,
   ⟨some 11, .mv, [.bool false], none, []⟩])
 .ret))))))))⟩
/- 0=n 1=options 2=set 3=from 4=many 7=set 10= 11= 12=open 13=last 14=i 15=out 16=ok -/
/-! slices.IndexFunc[[]uint32,uint32] -/
def x19_0 : XC := (.seq (.reg false [
   ⟨some 9, .bin .lss, [.t 8, .t 7], none, []⟩])
 (.seq (.cond (.t 9)
  .skip
  (.exit 0))
 (.seq (.block 1 (.seq (.reg false [
    ⟨some 10, .mv, [.t 8], none, []⟩,
    ⟨some 5, .mv, [.t 10], none, []⟩])
  (.seq (.reg false [
    ⟨some 11, .mv, [.t 1], none, []⟩,
    ⟨some 12, .mv, [.t 0], none, []⟩,
    ⟨some 13, .mv, [.t 5], none, []⟩,
    ⟨some 14, .iaddr (.int .u32), [.t 12, .t 13], none, []⟩,
    ⟨some 15, .load (.int .u32), [.t 14], none, []⟩,
    ⟨some 16, .callv, [.t 11, .t 15], none, []⟩])
  (.cond (.t 16)
   (.seq (.reg false [
     ⟨some 17, .mv, [.t 5], none, []⟩,
     ⟨some 4, .mv, [.t 17], none, []⟩])
   .ret)
   .skip))))
 (.reg false [
   ⟨some 18, .bin .add, [.t 8, .int .i64 1], none, []⟩,
   ⟨some 8, .mv, [.t 18], none, []⟩]))))
def x19_0d : List Nat := [4, 5, 8]
def x19 : XF := ⟨19, [.tmp 4], [0, 1, 4, 5, 7, 8],
 (.seq (.reg false [
   ⟨some 4, .mv, [.int .i64 0], none, []⟩])
 (.seq (.seq (.reg false [
   ⟨some 6, .mv, [.t 0], none, []⟩,
   ⟨some 7, .len false, [.t 6], none, []⟩,
   ⟨some 8, .mv, [.int .i64 0], none, []⟩])
 (.block 0 (.loop x19_0)))
 (.seq (.reg false [
   ⟨some 4, .mv, [.int .i64 (-1)], none, []⟩])
 .ret)))⟩
/- 0=s 1=f 4= 5=i 7= 8= -/
/-! tonneau/refuse.Smallest$1 -/
def x20 : XF := ⟨11, [.tmp 4], [0, 1, 2, 4],
 (.seq (.reg false [
   ⟨some 4, .mv, [.bool false], none, []⟩])
 (.seq (.reg true [
   ⟨some 5, .mv, [.t 0], none, []⟩,
   ⟨some 6, .load (.int .u32), [.t 1], none, []⟩,
   ⟨some 7, .bin .and, [.t 5, .t 6], none, [0, 1]⟩,
   ⟨some 8, .load (.int .i64), [.t 2], none, []⟩,
   ⟨some 9, .bin .shl, [.int .u32 1, .t 8], none, [3]⟩,
   ⟨some 10, .bin .eql, [.t 7, .t 9], none, [2, 0, 1, 4, 3]⟩,
   ⟨some 4, .mv, [.t 10], none, [5, 2, 0, 1, 4, 3]⟩])
 .ret))⟩
/- 0=m 1= 2= 4= -/
/-! tonneau/tonneauref22.Right -/
def x21_1 : XC := (.seq (.seq (.reg false [
   ⟨some 25, .mv, [.t 6], none, []⟩,
   ⟨some 26, .mv, [.t 1], none, []⟩,
   ⟨some 27, .mv, [.t 5], none, []⟩,
   ⟨some 28, .iaddr (.sl (.int .i64)), [.t 26, .t 27], none, []⟩,
   ⟨some 29, .load (.sl (.int .i64)), [.t 28], none, []⟩,
   ⟨some 30, .len false, [.t 29], none, []⟩,
   ⟨some 31, .bin .lss, [.t 25, .t 30], none, []⟩])
 (.cond (.t 31)
  .skip
  (.exit 2)))
 (.clean (.seq (.block 3 (.seq (.reg false [
    ⟨some 34, .mv, [.t 1], none, []⟩,
    ⟨some 35, .mv, [.t 5], none, []⟩,
    ⟨some 36, .iaddr (.sl (.int .i64)), [.t 34, .t 35], none, []⟩,
    ⟨some 37, .load (.sl (.int .i64)), [.t 36], none, []⟩,
    ⟨some 38, .mv, [.t 6], none, []⟩,
    ⟨some 39, .iaddr (.int .i64), [.t 37, .t 38], none, []⟩,
    ⟨some 40, .load (.int .i64), [.t 39], none, []⟩,
    ⟨some 7, .mv, [.t 40], none, []⟩])
  (.clean (.seq (.reg false [
    ⟨some 41, .mv, [.t 7], none, []⟩,
    ⟨some 42, .bin .lss, [.t 41, .int .i64 0], none, []⟩,
    ⟨some 43, .mv, [.t 42], none, []⟩,
    ⟨some 44, .mv, [.t 7], some (2, 43, false), []⟩,
    ⟨some 45, .mv, [.t 0], some (2, 43, false), []⟩,
    ⟨some 46, .bin .geq, [.t 44, .t 45], some (2, 43, false), []⟩,
    ⟨some 47, .pick, [.t 43, .bool true, .t 46], none, []⟩,
    ⟨some 48, .mv, [.t 47], none, []⟩,
    ⟨some 49, .mv, [.t 6], some (7, 48, false), []⟩,
    ⟨some 50, .bin .gtr, [.t 49, .int .i64 0], some (7, 48, false), []⟩,
    ⟨some 51, .mv, [.t 50], some (7, 48, false), []⟩,
    ⟨some 52, .mv, [.t 1], some (10, 51, true), []⟩,
    ⟨some 53, .mv, [.t 5], some (10, 51, true), []⟩,
    ⟨some 54, .iaddr (.sl (.int .i64)), [.t 52, .t 53], some (10, 51, true), []⟩,
    ⟨some 55, .load (.sl (.int .i64)), [.t 54], some (10, 51, true), []⟩,
    ⟨some 56, .mv, [.t 6], some (10, 51, true), []⟩,
    ⟨some 57, .bin .sub, [.t 56, .int .i64 1], some (10, 51, true), []⟩,
    ⟨some 58, .max, [.t 57, .int .i64 0], some (10, 51, true), []⟩,
    ⟨some 59, .iaddr (.int .i64), [.t 55, .t 58], some (10, 51, true), []⟩,
    ⟨some 60, .load (.int .i64), [.t 59], some (10, 51, true), []⟩,
    ⟨some 61, .mv, [.t 7], some (10, 51, true), []⟩,
    ⟨some 62, .bin .geq, [.t 60, .t 61], some (10, 51, true), []⟩,
    ⟨some 63, .pick, [.t 51, .t 62, .bool false], some (7, 48, false), []⟩,
    ⟨some 64, .pick, [.t 48, .bool true, .t 63], none, []⟩])
  (.cond (.t 64)
   (.seq (.reg false [
     ⟨some 4, .mv, [.bool false], none, []⟩])
   .ret)
   .skip)))))
 (.clean (.reg false [
   ⟨some 32, .mv, [.t 6], none, []⟩,
   ⟨some 33, .bin .add, [.t 32, .int .i64 1], none, []⟩,
   ⟨some 6, .mv, [.t 33], none, []⟩])))))
def x21_1d : List Nat := [4, 6, 7]
def x21_0 : XC := (.seq (.seq (.reg false [
   ⟨some 19, .mv, [.t 5], none, []⟩,
   ⟨some 20, .mv, [.t 1], none, []⟩,
   ⟨some 21, .len false, [.t 20], none, []⟩,
   ⟨some 22, .bin .lss, [.t 19, .t 21], none, []⟩])
 (.cond (.t 22)
  .skip
  (.exit 0)))
 (.seq (.block 1 (.seq (.reg false [
    ⟨some 6, .mv, [.int .i64 0], none, []⟩])
  (.block 2 (.loop x21_1))))
 (.clean (.reg false [
   ⟨some 23, .mv, [.t 5], none, []⟩,
   ⟨some 24, .bin .add, [.t 23, .int .i64 1], none, []⟩,
   ⟨some 5, .mv, [.t 24], none, []⟩]))))
def x21_0d : List Nat := [4, 5, 6, 7]
def x21 : XF := ⟨65, [.tmp 4], [0, 1, 4, 5, 6, 7],
 (.seq (.reg false [
   ⟨some 4, .mv, [.bool false], none, []⟩])
 (.seq (.seq (.reg false [
   ⟨some 8, .mv, [.t 0], none, []⟩,
   ⟨some 9, .bin .lss, [.t 8, .int .i64 0], none, []⟩,
   ⟨some 10, .mv, [.t 9], none, []⟩,
   ⟨some 11, .mv, [.t 0], some (2, 10, false), []⟩,
   ⟨some 12, .bin .gtr, [.t 11, .int .i64 20], some (2, 10, false), []⟩,
   ⟨some 13, .pick, [.t 10, .bool true, .t 12], none, []⟩,
   ⟨some 14, .mv, [.t 13], none, []⟩,
   ⟨some 15, .mv, [.t 1], some (6, 14, false), []⟩,
   ⟨some 16, .len false, [.t 15], some (6, 14, false), []⟩,
   ⟨some 17, .bin .gtr, [.t 16, .int .i64 400], some (6, 14, false), []⟩,
   ⟨some 18, .pick, [.t 14, .bool true, .t 17], none, []⟩])
 (.cond (.t 18)
  (.seq (.reg false [
    ⟨some 4, .mv, [.bool false], none, []⟩])
  .ret)
  .skip))
 (.clean (.seq (.seq (.reg false [
   ⟨some 5, .mv, [.int .i64 0], none, []⟩])
 (.block 0 (.loop x21_0)))
 (.seq (.reg false [
   ⟨some 4, .mv, [.bool true], none, []⟩])
 .ret)))))⟩
/- 0=n 1=options 4= 5=i 6=k 7=x -/
/-! tonneau/tonneauref22.Find -/
def x22_0 : XC := (.seq (.seq (.reg false [
   ⟨some 22, .mv, [.t 12], none, []⟩,
   ⟨some 23, .mv, [.t 4], none, []⟩,
   ⟨some 24, .bin .add, [.t 22, .t 23], none, []⟩,
   ⟨some 25, .mv, [.t 0], none, []⟩,
   ⟨some 26, .bin .leq, [.t 24, .t 25], none, []⟩])
 (.cond (.t 26)
  .skip
  (.exit 0)))
 (.clean (.seq (.block 1 (.seq (.reg false [
    ⟨some 30, .mv, [.t 0], none, []⟩,
    ⟨some 31, .mv, [.t 1], none, []⟩,
    ⟨some 32, .bslice 3 (.int .i64) 0 [], [], none, []⟩,
    ⟨some 33, .mv, [.t 2], none, []⟩,
    ⟨some 34, .append 3 (.int .i64) 8, [.t 32, .t 33], none, []⟩,
    ⟨some 35, .mv, [.t 12], none, []⟩,
    ⟨some 36, .bslice 3 (.int .i64) 1 [0], [.t 35], none, []⟩,
    ⟨some 37, .append 3 (.int .i64) 8, [.t 34, .t 36], none, []⟩,
    ⟨some 38, .mv, [.t 12], none, []⟩,
    ⟨some 39, .bin .add, [.t 38, .int .i64 1], none, []⟩,
    ⟨some 40, .mv, [.t 4], none, []⟩,
    ⟨some 41, .bin .sub, [.t 40, .int .i64 1], none, []⟩,
    ⟨some 42, .call 22, [.t 30, .t 31, .t 37, .t 39, .t 41], none, []⟩,
    ⟨some 29, .mv, [.t 42], none, []⟩,
    ⟨some 43, .extract 0, [.t 29], none, []⟩,
    ⟨some 44, .extract 1, [.t 29], none, []⟩,
    ⟨some 13, .mv, [.t 43], none, []⟩,
    ⟨some 14, .mv, [.t 44], none, []⟩])
  (.clean (.seq (.reg false [
    ⟨some 45, .mv, [.t 14], none, []⟩])
  (.cond (.t 45)
   (.seq (.reg false [
     ⟨some 46, .mv, [.t 13], none, []⟩,
     ⟨some 10, .mv, [.t 46], none, []⟩,
     ⟨some 11, .mv, [.bool true], none, []⟩])
   .ret)
   .skip)))))
 (.clean (.reg false [
   ⟨some 27, .mv, [.t 12], none, []⟩,
   ⟨some 28, .bin .add, [.t 27, .int .i64 1], none, []⟩,
   ⟨some 12, .mv, [.t 28], none, []⟩])))))
def x22_0d : List Nat := [10, 11, 12, 13, 14]
def x22 : XF := ⟨47, [.tmp 10, .tmp 11], [0, 1, 2, 3, 4, 10, 11, 12, 13, 14],
 (.seq (.reg false [
   ⟨some 10, .nilrow 3 (.int .i64), [], none, []⟩,
   ⟨some 11, .mv, [.bool false], none, []⟩])
 (.seq (.seq (.reg false [
   ⟨some 15, .mv, [.t 4], none, []⟩,
   ⟨some 16, .bin .eql, [.t 15, .int .i64 0], none, []⟩])
 (.cond (.t 16)
  (.seq (.reg false [
    ⟨some 17, .mv, [.t 2], none, []⟩,
    ⟨some 18, .mv, [.t 2], none, []⟩,
    ⟨some 19, .mv, [.t 1], none, []⟩,
    ⟨some 20, .call 13, [.t 18, .t 19], none, []⟩,
    ⟨some 10, .mv, [.t 17], none, []⟩,
    ⟨some 11, .mv, [.t 20], none, []⟩])
  .ret)
  .skip))
 (.clean (.seq (.seq (.reg false [
   ⟨some 21, .mv, [.t 3], none, []⟩,
   ⟨some 12, .mv, [.t 21], none, []⟩])
 (.block 0 (.loop x22_0)))
 (.seq (.reg false [
   ⟨some 10, .nilrow 3 (.int .i64), [], none, []⟩,
   ⟨some 11, .mv, [.bool false], none, []⟩])
 .ret)))))⟩
/- 0=n 1=options 2=set 3=from 4=many 10= 11= 12=i 13=out 14=ok -/
/-! tonneau/tonneauref22.common -/
def x23_1 : XC := (.seq (.seq (.reg false [
   ⟨some 17, .mv, [.t 10], none, []⟩,
   ⟨some 18, .mv, [.t 1], none, []⟩,
   ⟨some 19, .len false, [.t 18], none, []⟩,
   ⟨some 20, .bin .lss, [.t 17, .t 19], none, []⟩])
 (.cond (.t 20)
  .skip
  (.exit 2)))
 (.seq (.block 3 (.reg true [
    ⟨some 23, .mv, [.t 9], none, []⟩,
    ⟨some 24, .mv, [.t 23], none, [0]⟩,
    ⟨some 25, .mv, [.t 1], some (1, 24, false), [1, 0]⟩,
    ⟨some 26, .mv, [.t 10], some (1, 24, false), [1, 0]⟩,
    ⟨some 27, .iaddr (.int .i64), [.t 25, .t 26], some (1, 24, false), [2, 1, 0, 3]⟩,
    ⟨some 28, .load (.int .i64), [.t 27], some (1, 24, false), [4, 2, 1, 0, 3]⟩,
    ⟨some 29, .mv, [.t 0], some (1, 24, false), [1, 0]⟩,
    ⟨some 30, .mv, [.t 8], some (1, 24, false), [1, 0]⟩,
    ⟨some 31, .iaddr (.int .i64), [.t 29, .t 30], some (1, 24, false), [6, 1, 0, 7]⟩,
    ⟨some 32, .load (.int .i64), [.t 31], some (1, 24, false), [8, 6, 1, 0, 7]⟩,
    ⟨some 33, .bin .eql, [.t 28, .t 32], some (1, 24, false), [5, 4, 2, 1, 0, 3, 9, 8, 6, 7]⟩,
    ⟨some 34, .pick, [.t 24, .bool true, .t 33], none, [1, 0, 10, 5, 4, 2, 3, 9, 8, 6, 7]⟩,
    ⟨some 9, .mv, [.t 34], none, [11, 1, 0, 10, 5, 4, 2, 3, 9, 8, 6, 7]⟩]))
 (.clean (.reg false [
   ⟨some 21, .mv, [.t 10], none, []⟩,
   ⟨some 22, .bin .add, [.t 21, .int .i64 1], none, []⟩,
   ⟨some 10, .mv, [.t 22], none, []⟩]))))
def x23_1d : List Nat := [9, 10]
def x23_0 : XC := (.seq (.seq (.reg false [
   ⟨some 11, .mv, [.t 8], none, []⟩,
   ⟨some 12, .mv, [.t 0], none, []⟩,
   ⟨some 13, .len false, [.t 12], none, []⟩,
   ⟨some 14, .bin .lss, [.t 11, .t 13], none, []⟩])
 (.cond (.t 14)
  .skip
  (.exit 0)))
 (.seq (.block 1 (.seq (.reg false [
    ⟨some 9, .mv, [.bool false], none, []⟩])
  (.seq (.seq (.reg false [
    ⟨some 10, .mv, [.int .i64 0], none, []⟩])
  (.block 2 (.loop x23_1)))
  (.clean (.seq (.reg false [
    ⟨some 35, .mv, [.t 9], none, []⟩])
  (.cond (.t 35)
   (.seq (.reg false [
     ⟨some 36, .mv, [.t 6], none, []⟩,
     ⟨some 37, .bin .add, [.t 36, .int .i64 1], none, []⟩,
     ⟨some 6, .mv, [.t 37], none, []⟩])
   (.reg false [
     ⟨some 38, .mv, [.t 0], none, []⟩,
     ⟨some 39, .mv, [.t 8], none, []⟩,
     ⟨some 40, .iaddr (.int .i64), [.t 38, .t 39], none, []⟩,
     ⟨some 41, .load (.int .i64), [.t 40], none, []⟩,
     ⟨some 7, .mv, [.t 41], none, []⟩]))
   .skip))))))
 (.clean (.reg false [
   ⟨some 15, .mv, [.t 8], none, []⟩,
   ⟨some 16, .bin .add, [.t 15, .int .i64 1], none, []⟩,
   ⟨some 8, .mv, [.t 16], none, []⟩]))))
def x23_0d : List Nat := [6, 7, 8, 9, 10]
def x23 : XF := ⟨44, [.tmp 4, .tmp 5], [0, 1, 4, 5, 6, 7, 8, 9, 10],
 (.seq (.reg false [
   ⟨some 4, .mv, [.int .i64 0], none, []⟩,
   ⟨some 5, .mv, [.int .i64 0], none, []⟩])
 (.seq (.reg false [
   ⟨some 6, .mv, [.int .i64 0], none, []⟩])
 (.seq (.reg false [
   ⟨some 7, .mv, [.int .i64 (-1)], none, []⟩])
 (.seq (.seq (.reg false [
   ⟨some 8, .mv, [.int .i64 0], none, []⟩])
 (.block 0 (.loop x23_0)))
 (.clean (.seq (.reg false [
   ⟨some 42, .mv, [.t 6], none, []⟩,
   ⟨some 43, .mv, [.t 7], none, []⟩,
   ⟨some 4, .mv, [.t 42], none, []⟩,
   ⟨some 5, .mv, [.t 43], none, []⟩])
 .ret))))))⟩
/- 0=set 1=option 4= 5= 6=n 7=last 8=i 9=is 10=k -/
/-! slices.ContainsFunc[[][]int,[]int] -/
def x24 : XF := ⟨9, [.tmp 4], [0, 1, 4],
 (.seq (.reg false [
   ⟨some 4, .mv, [.bool false], none, []⟩])
 (.seq (.reg false [
   ⟨some 5, .mv, [.t 0], none, []⟩,
   ⟨some 6, .mv, [.t 1], none, []⟩,
   ⟨some 7, .call 32, [.t 5, .t 6], none, []⟩,
   ⟨some 8, .bin .geq, [.t 7, .int .i64 0], none, []⟩,
   ⟨some 4, .mv, [.t 8], none, []⟩])
 .ret))⟩
/- 0=s 1=f 4= -/
/-! tonneau/refuse.Blocks$1 -/
def x25 : XF := ⟨8, [.tmp 3], [0, 1, 2, 3],
 (.seq (.reg false [
   ⟨some 2, .box 23, [.t 0], none, []⟩,
   ⟨some 3, .mv, [.bool false], none, []⟩])
 (.seq (.reg false [
   ⟨some 4, .load (.sl (.int .i64)), [.t 1], none, []⟩,
   ⟨some 5, .mkfn 27, [.t 2], none, []⟩,
   ⟨some 6, .call 26, [.t 4, .t 5], none, []⟩,
   ⟨some 7, .not, [.t 6], none, []⟩,
   ⟨some 3, .mv, [.t 7], none, []⟩])
 .ret))⟩
/- 0=o 1= 2=o 3= -/
/-! slices.ContainsFunc[[]int,int] -/
def x26 : XF := ⟨9, [.tmp 4], [0, 1, 4],
 (.seq (.reg false [
   ⟨some 4, .mv, [.bool false], none, []⟩])
 (.seq (.reg false [
   ⟨some 5, .mv, [.t 0], none, []⟩,
   ⟨some 6, .mv, [.t 1], none, []⟩,
   ⟨some 7, .call 33, [.t 5, .t 6], none, []⟩,
   ⟨some 8, .bin .geq, [.t 7, .int .i64 0], none, []⟩,
   ⟨some 4, .mv, [.t 8], none, []⟩])
 .ret))⟩
/- 0=s 1=f 4= -/
/-! tonneau/refuse.Blocks$1$1 -/
def x27 : XF := ⟨7, [.tmp 3], [0, 1, 3],
 (.seq (.reg false [
   ⟨some 3, .mv, [.bool false], none, []⟩])
 (.seq (.reg false [
   ⟨some 4, .load (.sl (.int .i64)), [.t 1], none, []⟩,
   ⟨some 5, .mv, [.t 0], none, []⟩,
   ⟨some 6, .call 28, [.t 4, .t 5], none, []⟩,
   ⟨some 3, .mv, [.t 6], none, []⟩])
 .ret))⟩
/- 0=i 1= 3= -/
/-! slices.Contains[[]int,int] -/
def x28 : XF := ⟨9, [.tmp 4], [0, 1, 4],
 (.seq (.reg false [
   ⟨some 4, .mv, [.bool false], none, []⟩])
 (.seq (.reg false [
   ⟨some 5, .mv, [.t 0], none, []⟩,
   ⟨some 6, .mv, [.t 1], none, []⟩,
   ⟨some 7, .call 34, [.t 5, .t 6], none, []⟩,
   ⟨some 8, .bin .geq, [.t 7, .int .i64 0], none, []⟩,
   ⟨some 4, .mv, [.t 8], none, []⟩])
 .ret))⟩
/- 0=s 1=v 4= -/
/-! slices.Index[[]uint32,uint32] -/
def x29_0 : XC := (.seq (.reg false [
   ⟨some 9, .bin .lss, [.t 8, .t 7], none, []⟩])
 (.seq (.cond (.t 9)
  .skip
  (.exit 0))
 (.seq (.block 1 (.seq (.reg false [
    ⟨some 10, .mv, [.t 8], none, []⟩,
    ⟨some 5, .mv, [.t 10], none, []⟩])
  (.seq (.reg false [
    ⟨some 11, .mv, [.t 1], none, []⟩,
    ⟨some 12, .mv, [.t 0], none, []⟩,
    ⟨some 13, .mv, [.t 5], none, []⟩,
    ⟨some 14, .iaddr (.int .u32), [.t 12, .t 13], none, []⟩,
    ⟨some 15, .load (.int .u32), [.t 14], none, []⟩,
    ⟨some 16, .bin .eql, [.t 11, .t 15], none, []⟩])
  (.cond (.t 16)
   (.seq (.reg false [
     ⟨some 17, .mv, [.t 5], none, []⟩,
     ⟨some 4, .mv, [.t 17], none, []⟩])
   .ret)
   .skip))))
 (.reg false [
   ⟨some 18, .bin .add, [.t 8, .int .i64 1], none, []⟩,
   ⟨some 8, .mv, [.t 18], none, []⟩]))))
def x29_0d : List Nat := [4, 5, 8]
def x29 : XF := ⟨19, [.tmp 4], [0, 1, 4, 5, 7, 8],
 (.seq (.reg false [
   ⟨some 4, .mv, [.int .i64 0], none, []⟩])
 (.seq (.seq (.reg false [
   ⟨some 6, .mv, [.t 0], none, []⟩,
   ⟨some 7, .len false, [.t 6], none, []⟩,
   ⟨some 8, .mv, [.int .i64 0], none, []⟩])
 (.block 0 (.loop x29_0)))
 (.seq (.reg false [
   ⟨some 4, .mv, [.int .i64 (-1)], none, []⟩])
 .ret)))⟩
/- 0=s 1=v 4= 5=i 7= 8= -/
/-! tonneau/refuse.grow$1 -/
def x30 : XF := ⟨8, [.tmp 3], [0, 1, 3],
 (.seq (.reg false [
   ⟨some 3, .mv, [.bool false], none, []⟩])
 (.seq (.reg false [
   ⟨some 4, .mv, [.t 0], none, []⟩,
   ⟨some 5, .load (.int .u32), [.t 1], none, []⟩,
   ⟨some 6, .bin .and, [.t 4, .t 5], none, []⟩,
   ⟨some 7, .bin .eql, [.t 6, .int .u32 0], none, []⟩,
   ⟨some 3, .mv, [.t 7], none, []⟩])
 .ret))⟩
/- 0=m 1= 3= -/
/-! slices.IndexFunc[[][]int,[]int] -/
def x32_0 : XC := (.seq (.reg false [
   ⟨some 9, .bin .lss, [.t 8, .t 7], none, []⟩])
 (.seq (.cond (.t 9)
  .skip
  (.exit 0))
 (.seq (.block 1 (.seq (.reg false [
    ⟨some 10, .mv, [.t 8], none, []⟩,
    ⟨some 5, .mv, [.t 10], none, []⟩])
  (.seq (.reg false [
    ⟨some 11, .mv, [.t 1], none, []⟩,
    ⟨some 12, .mv, [.t 0], none, []⟩,
    ⟨some 13, .mv, [.t 5], none, []⟩,
    ⟨some 14, .iaddr (.sl (.int .i64)), [.t 12, .t 13], none, []⟩,
    ⟨some 15, .load (.sl (.int .i64)), [.t 14], none, []⟩,
    ⟨some 16, .callv, [.t 11, .t 15], none, []⟩])
  (.cond (.t 16)
   (.seq (.reg false [
     ⟨some 17, .mv, [.t 5], none, []⟩,
     ⟨some 4, .mv, [.t 17], none, []⟩])
   .ret)
   .skip))))
 (.reg false [
   ⟨some 18, .bin .add, [.t 8, .int .i64 1], none, []⟩,
   ⟨some 8, .mv, [.t 18], none, []⟩]))))
def x32_0d : List Nat := [4, 5, 8]
def x32 : XF := ⟨19, [.tmp 4], [0, 1, 4, 5, 7, 8],
 (.seq (.reg false [
   ⟨some 4, .mv, [.int .i64 0], none, []⟩])
 (.seq (.seq (.reg false [
   ⟨some 6, .mv, [.t 0], none, []⟩,
   ⟨some 7, .len false, [.t 6], none, []⟩,
   ⟨some 8, .mv, [.int .i64 0], none, []⟩])
 (.block 0 (.loop x32_0)))
 (.seq (.reg false [
   ⟨some 4, .mv, [.int .i64 (-1)], none, []⟩])
 .ret)))⟩
/- 0=s 1=f 4= 5=i 7= 8= -/
/-! slices.IndexFunc[[]int,int] -/
def x33_0 : XC := (.seq (.reg false [
   ⟨some 9, .bin .lss, [.t 8, .t 7], none, []⟩])
 (.seq (.cond (.t 9)
  .skip
  (.exit 0))
 (.seq (.block 1 (.seq (.reg false [
    ⟨some 10, .mv, [.t 8], none, []⟩,
    ⟨some 5, .mv, [.t 10], none, []⟩])
  (.seq (.reg false [
    ⟨some 11, .mv, [.t 1], none, []⟩,
    ⟨some 12, .mv, [.t 0], none, []⟩,
    ⟨some 13, .mv, [.t 5], none, []⟩,
    ⟨some 14, .iaddr (.int .i64), [.t 12, .t 13], none, []⟩,
    ⟨some 15, .load (.int .i64), [.t 14], none, []⟩,
    ⟨some 16, .callv, [.t 11, .t 15], none, []⟩])
  (.cond (.t 16)
   (.seq (.reg false [
     ⟨some 17, .mv, [.t 5], none, []⟩,
     ⟨some 4, .mv, [.t 17], none, []⟩])
   .ret)
   .skip))))
 (.reg false [
   ⟨some 18, .bin .add, [.t 8, .int .i64 1], none, []⟩,
   ⟨some 8, .mv, [.t 18], none, []⟩]))))
def x33_0d : List Nat := [4, 5, 8]
def x33 : XF := ⟨19, [.tmp 4], [0, 1, 4, 5, 7, 8],
 (.seq (.reg false [
   ⟨some 4, .mv, [.int .i64 0], none, []⟩])
 (.seq (.seq (.reg false [
   ⟨some 6, .mv, [.t 0], none, []⟩,
   ⟨some 7, .len false, [.t 6], none, []⟩,
   ⟨some 8, .mv, [.int .i64 0], none, []⟩])
 (.block 0 (.loop x33_0)))
 (.seq (.reg false [
   ⟨some 4, .mv, [.int .i64 (-1)], none, []⟩])
 .ret)))⟩
/- 0=s 1=f 4= 5=i 7= 8= -/
/-! slices.Index[[]int,int] -/
def x34_0 : XC := (.seq (.reg false [
   ⟨some 9, .bin .lss, [.t 8, .t 7], none, []⟩])
 (.seq (.cond (.t 9)
  .skip
  (.exit 0))
 (.seq (.block 1 (.seq (.reg false [
    ⟨some 10, .mv, [.t 8], none, []⟩,
    ⟨some 5, .mv, [.t 10], none, []⟩])
  (.seq (.reg false [
    ⟨some 11, .mv, [.t 1], none, []⟩,
    ⟨some 12, .mv, [.t 0], none, []⟩,
    ⟨some 13, .mv, [.t 5], none, []⟩,
    ⟨some 14, .iaddr (.int .i64), [.t 12, .t 13], none, []⟩,
    ⟨some 15, .load (.int .i64), [.t 14], none, []⟩,
    ⟨some 16, .bin .eql, [.t 11, .t 15], none, []⟩])
  (.cond (.t 16)
   (.seq (.reg false [
     ⟨some 17, .mv, [.t 5], none, []⟩,
     ⟨some 4, .mv, [.t 17], none, []⟩])
   .ret)
   .skip))))
 (.reg false [
   ⟨some 18, .bin .add, [.t 8, .int .i64 1], none, []⟩,
   ⟨some 8, .mv, [.t 18], none, []⟩]))))
def x34_0d : List Nat := [4, 5, 8]
def x34 : XF := ⟨19, [.tmp 4], [0, 1, 4, 5, 7, 8],
 (.seq (.reg false [
   ⟨some 4, .mv, [.int .i64 0], none, []⟩])
 (.seq (.seq (.reg false [
   ⟨some 6, .mv, [.t 0], none, []⟩,
   ⟨some 7, .len false, [.t 6], none, []⟩,
   ⟨some 8, .mv, [.int .i64 0], none, []⟩])
 (.block 0 (.loop x34_0)))
 (.seq (.reg false [
   ⟨some 4, .mv, [.int .i64 (-1)], none, []⟩])
 .ret)))⟩
/- 0=s 1=v 4= 5=i 7= 8= -/
end T
end Go.Proofs.Ytecmckoglgdicaa
