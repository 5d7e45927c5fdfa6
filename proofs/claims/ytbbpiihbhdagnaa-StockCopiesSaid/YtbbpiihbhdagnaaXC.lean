/- The program's functions as code of the typed abstract walk (printed by a program). -/
import Derived.Test.YtbbpiihbhdagnaaT18
set_option linter.unusedVariables false
namespace Go.Proofs.Ytbbpiihbhdagnaa
namespace T
/-! tonneau/stock.copied -/
def x27 : XF := ⟨8, [.cell 2 (.st (.cons (.int .i64) (.cons (.int .i64) (.sl (.st (.cons (.int .i64) (.cons (.int .i64) (.int .i64))))))))], [0, 1, 2],
 (.seq (.reg false [
   ⟨some 1, .box 24, [.t 0], none, []⟩,
   ⟨some 2, .alloc 24 (.st (.cons (.int .i64) (.cons (.int .i64) (.sl (.st (.cons (.int .i64) (.cons (.int .i64) (.int .i64)))))))), [], none, []⟩])
 (.seq (.reg false [
   ⟨some 3, .faddr 2 (.sl (.st (.cons (.int .i64) (.cons (.int .i64) (.int .i64))))), [.t 1], none, []⟩,
   ⟨some 4, .load (.sl (.st (.cons (.int .i64) (.cons (.int .i64) (.int .i64))))), [.t 3], none, []⟩,
   ⟨some 5, .call 35, [.t 4], none, []⟩,
   ⟨some 6, .faddr 2 (.sl (.st (.cons (.int .i64) (.cons (.int .i64) (.int .i64))))), [.t 1], none, []⟩,
   ⟨none, .store (.sl (.st (.cons (.int .i64) (.cons (.int .i64) (.int .i64))))), [.t 6, .t 5], none, []⟩])
 (.seq (.reg false [
   ⟨some 7, .load (.st (.cons (.int .i64) (.cons (.int .i64) (.sl (.st (.cons (.int .i64) (.cons (.int .i64) (.int .i64)))))))), [.t 1], none, []⟩,
   ⟨none, .store (.st (.cons (.int .i64) (.cons (.int .i64) (.sl (.st (.cons (.int .i64) (.cons (.int .i64) (.int .i64)))))))), [.t 2, .t 7], none, []⟩])
 .ret)))⟩
/- 0=s 1=s 2= -/
/-! tonneau/tonneauref40.Copied -/
def x26 : XF := ⟨9, [.cell 2 (.st (.cons (.int .i64) (.cons (.int .i64) (.sl (.st (.cons (.int .i64) (.cons (.int .i64) (.int .i64))))))))], [0, 1, 2],
 (.seq (.reg false [
   ⟨some 1, .box 24, [.t 0], none, []⟩,
   ⟨some 2, .alloc 24 (.st (.cons (.int .i64) (.cons (.int .i64) (.sl (.st (.cons (.int .i64) (.cons (.int .i64) (.int .i64)))))))), [], none, []⟩])
 (.seq (.reg false [
   ⟨some 3, .bslice 41 (.st (.cons (.int .i64) (.cons (.int .i64) (.int .i64)))) 0 [], [], none, []⟩,
   ⟨some 4, .faddr 2 (.sl (.st (.cons (.int .i64) (.cons (.int .i64) (.int .i64))))), [.t 1], none, []⟩,
   ⟨some 5, .load (.sl (.st (.cons (.int .i64) (.cons (.int .i64) (.int .i64))))), [.t 4], none, []⟩,
   ⟨some 6, .append 41 (.st (.cons (.int .i64) (.cons (.int .i64) (.int .i64)))) 24, [.t 3, .t 5], none, []⟩,
   ⟨some 7, .faddr 2 (.sl (.st (.cons (.int .i64) (.cons (.int .i64) (.int .i64))))), [.t 1], none, []⟩,
   ⟨none, .store (.sl (.st (.cons (.int .i64) (.cons (.int .i64) (.int .i64))))), [.t 7, .t 6], none, []⟩])
 (.seq (.reg false [
   ⟨some 8, .load (.st (.cons (.int .i64) (.cons (.int .i64) (.sl (.st (.cons (.int .i64) (.cons (.int .i64) (.int .i64)))))))), [.t 1], none, []⟩,
   ⟨none, .store (.st (.cons (.int .i64) (.cons (.int .i64) (.sl (.st (.cons (.int .i64) (.cons (.int .i64) (.int .i64)))))))), [.t 2, .t 8], none, []⟩])
 .ret)))⟩
/- 0=s 1=s 2= -/
/-! gosem.cut.init -/
def x2 : XF := ⟨1, [], [],
 (.reg false [
   ⟨some 0, .call 1, [], none, []⟩])⟩
/-  -/
/-! tonneau/tonneaulaw40.StockTells -/
def x3 : XF := ⟨139, [.tmp 6], [0, 1, 2, 3, 6, 7, 8, 9, 10, 11, 12, 13, 14, 15, 16, 17, 18, 19, 20, 21, 22, 23, 24],
 (.seq (.reg false [
   ⟨some 3, .box 24, [.t 0], none, []⟩,
   ⟨some 6, .mv, [.bool false], none, []⟩])
 (.seq (.reg false [
   ⟨some 25, .call 8, [], none, []⟩,
   ⟨some 7, .mv, [.t 25], none, []⟩])
 (.seq (.seq (.reg false [
   ⟨some 26, .faddr 2 (.sl (.st (.cons (.int .i64) (.cons (.int .i64) (.int .i64))))), [.t 3], none, []⟩,
   ⟨some 27, .load (.sl (.st (.cons (.int .i64) (.cons (.int .i64) (.int .i64))))), [.t 26], none, []⟩,
   ⟨some 28, .len false, [.t 27], none, []⟩,
   ⟨some 29, .bin .gtr, [.t 28, .int .i64 14], none, []⟩])
 (.cond (.t 29)
  (.seq (.reg false [
    ⟨some 30, .mv, [.t 7], none, []⟩,
    ⟨some 6, .mv, [.t 30], none, []⟩])
  .ret)
  .skip))
 (.clean (.seq (.reg false [
   ⟨some 32, .load (.st (.cons (.int .i64) (.cons (.int .i64) (.sl (.st (.cons (.int .i64) (.cons (.int .i64) (.int .i64)))))))), [.t 3], none, []⟩,
   ⟨some 33, .mv, [.t 2], none, []⟩,
   ⟨some 34, .call 9, [.t 32, .t 33], none, []⟩,
   ⟨some 31, .mv, [.t 34], none, []⟩,
   ⟨some 35, .extract 0, [.t 31], none, []⟩,
   ⟨some 36, .extract 1, [.t 31], none, []⟩,
   ⟨some 8, .alloc 24 (.st (.cons (.int .i64) (.cons (.int .i64) (.sl (.st (.cons (.int .i64) (.cons (.int .i64) (.int .i64)))))))), [], none, []⟩,
   ⟨none, .store (.st (.cons (.int .i64) (.cons (.int .i64) (.sl (.st (.cons (.int .i64) (.cons (.int .i64) (.int .i64)))))))), [.t 8, .t 35], none, []⟩,
   ⟨some 9, .mv, [.t 36], none, []⟩])
 (.clean (.seq (.reg false [
   ⟨some 38, .load (.st (.cons (.int .i64) (.cons (.int .i64) (.sl (.st (.cons (.int .i64) (.cons (.int .i64) (.int .i64)))))))), [.t 3], none, []⟩,
   ⟨some 39, .mv, [.t 2], none, []⟩,
   ⟨some 40, .call 10, [.t 38, .t 39], none, []⟩,
   ⟨some 37, .mv, [.t 40], none, []⟩,
   ⟨some 41, .extract 0, [.t 37], none, []⟩,
   ⟨some 42, .extract 1, [.t 37], none, []⟩,
   ⟨some 10, .alloc 24 (.st (.cons (.int .i64) (.cons (.int .i64) (.sl (.st (.cons (.int .i64) (.cons (.int .i64) (.int .i64)))))))), [], none, []⟩,
   ⟨none, .store (.st (.cons (.int .i64) (.cons (.int .i64) (.sl (.st (.cons (.int .i64) (.cons (.int .i64) (.int .i64)))))))), [.t 10, .t 41], none, []⟩,
   ⟨some 11, .mv, [.t 42], none, []⟩])
 (.clean (.seq (.reg false [
   ⟨some 44, .load (.st (.cons (.int .i64) (.cons (.int .i64) (.sl (.st (.cons (.int .i64) (.cons (.int .i64) (.int .i64)))))))), [.t 3], none, []⟩,
   ⟨some 45, .mv, [.t 1], none, []⟩,
   ⟨some 46, .mv, [.t 2], none, []⟩,
   ⟨some 47, .call 11, [.t 44, .t 45, .t 46], none, []⟩,
   ⟨some 43, .mv, [.t 47], none, []⟩,
   ⟨some 48, .extract 0, [.t 43], none, []⟩,
   ⟨some 49, .extract 1, [.t 43], none, []⟩,
   ⟨some 12, .alloc 24 (.st (.cons (.int .i64) (.cons (.int .i64) (.sl (.st (.cons (.int .i64) (.cons (.int .i64) (.int .i64)))))))), [], none, []⟩,
   ⟨none, .store (.st (.cons (.int .i64) (.cons (.int .i64) (.sl (.st (.cons (.int .i64) (.cons (.int .i64) (.int .i64)))))))), [.t 12, .t 48], none, []⟩,
   ⟨some 13, .mv, [.t 49], none, []⟩])
 (.clean (.seq (.reg false [
   ⟨some 51, .load (.st (.cons (.int .i64) (.cons (.int .i64) (.sl (.st (.cons (.int .i64) (.cons (.int .i64) (.int .i64)))))))), [.t 3], none, []⟩,
   ⟨some 52, .mv, [.t 1], none, []⟩,
   ⟨some 53, .mv, [.t 2], none, []⟩,
   ⟨some 54, .call 12, [.t 51, .t 52, .t 53], none, []⟩,
   ⟨some 50, .mv, [.t 54], none, []⟩,
   ⟨some 55, .extract 0, [.t 50], none, []⟩,
   ⟨some 56, .extract 1, [.t 50], none, []⟩,
   ⟨some 14, .alloc 24 (.st (.cons (.int .i64) (.cons (.int .i64) (.sl (.st (.cons (.int .i64) (.cons (.int .i64) (.int .i64)))))))), [], none, []⟩,
   ⟨none, .store (.st (.cons (.int .i64) (.cons (.int .i64) (.sl (.st (.cons (.int .i64) (.cons (.int .i64) (.int .i64)))))))), [.t 14, .t 55], none, []⟩,
   ⟨some 15, .mv, [.t 56], none, []⟩])
 (.clean (.seq (.reg false [
   ⟨some 58, .load (.st (.cons (.int .i64) (.cons (.int .i64) (.sl (.st (.cons (.int .i64) (.cons (.int .i64) (.int .i64)))))))), [.t 3], none, []⟩,
   ⟨some 59, .mv, [.t 1], none, []⟩,
   ⟨some 60, .mv, [.t 2], none, []⟩,
   ⟨some 61, .call 13, [.t 58, .t 59, .t 60], none, []⟩,
   ⟨some 57, .mv, [.t 61], none, []⟩,
   ⟨some 62, .extract 0, [.t 57], none, []⟩,
   ⟨some 63, .extract 1, [.t 57], none, []⟩,
   ⟨some 16, .alloc 24 (.st (.cons (.int .i64) (.cons (.int .i64) (.sl (.st (.cons (.int .i64) (.cons (.int .i64) (.int .i64)))))))), [], none, []⟩,
   ⟨none, .store (.st (.cons (.int .i64) (.cons (.int .i64) (.sl (.st (.cons (.int .i64) (.cons (.int .i64) (.int .i64)))))))), [.t 16, .t 62], none, []⟩,
   ⟨some 17, .mv, [.t 63], none, []⟩])
 (.clean (.seq (.reg false [
   ⟨some 65, .load (.st (.cons (.int .i64) (.cons (.int .i64) (.sl (.st (.cons (.int .i64) (.cons (.int .i64) (.int .i64)))))))), [.t 3], none, []⟩,
   ⟨some 66, .mv, [.t 1], none, []⟩,
   ⟨some 67, .mv, [.t 2], none, []⟩,
   ⟨some 68, .call 14, [.t 65, .t 66, .t 67], none, []⟩,
   ⟨some 64, .mv, [.t 68], none, []⟩,
   ⟨some 69, .extract 0, [.t 64], none, []⟩,
   ⟨some 70, .extract 1, [.t 64], none, []⟩,
   ⟨some 18, .alloc 24 (.st (.cons (.int .i64) (.cons (.int .i64) (.sl (.st (.cons (.int .i64) (.cons (.int .i64) (.int .i64)))))))), [], none, []⟩,
   ⟨none, .store (.st (.cons (.int .i64) (.cons (.int .i64) (.sl (.st (.cons (.int .i64) (.cons (.int .i64) (.int .i64)))))))), [.t 18, .t 69], none, []⟩,
   ⟨some 19, .mv, [.t 70], none, []⟩])
 (.clean (.seq (.reg false [
   ⟨some 72, .load (.st (.cons (.int .i64) (.cons (.int .i64) (.sl (.st (.cons (.int .i64) (.cons (.int .i64) (.int .i64)))))))), [.t 3], none, []⟩,
   ⟨some 73, .mv, [.t 1], none, []⟩,
   ⟨some 74, .call 15, [.t 72, .t 73], none, []⟩,
   ⟨some 71, .mv, [.t 74], none, []⟩,
   ⟨some 75, .extract 0, [.t 71], none, []⟩,
   ⟨some 76, .extract 1, [.t 71], none, []⟩,
   ⟨some 20, .alloc 24 (.st (.cons (.int .i64) (.cons (.int .i64) (.sl (.st (.cons (.int .i64) (.cons (.int .i64) (.int .i64)))))))), [], none, []⟩,
   ⟨none, .store (.st (.cons (.int .i64) (.cons (.int .i64) (.sl (.st (.cons (.int .i64) (.cons (.int .i64) (.int .i64)))))))), [.t 20, .t 75], none, []⟩,
   ⟨some 21, .mv, [.t 76], none, []⟩])
 (.clean (.seq (.reg false [
   ⟨some 78, .load (.st (.cons (.int .i64) (.cons (.int .i64) (.sl (.st (.cons (.int .i64) (.cons (.int .i64) (.int .i64)))))))), [.t 3], none, []⟩,
   ⟨some 79, .mv, [.t 1], none, []⟩,
   ⟨some 80, .call 16, [.t 78, .t 79], none, []⟩,
   ⟨some 77, .mv, [.t 80], none, []⟩,
   ⟨some 81, .extract 0, [.t 77], none, []⟩,
   ⟨some 82, .extract 1, [.t 77], none, []⟩,
   ⟨some 22, .alloc 24 (.st (.cons (.int .i64) (.cons (.int .i64) (.sl (.st (.cons (.int .i64) (.cons (.int .i64) (.int .i64)))))))), [], none, []⟩,
   ⟨none, .store (.st (.cons (.int .i64) (.cons (.int .i64) (.sl (.st (.cons (.int .i64) (.cons (.int .i64) (.int .i64)))))))), [.t 22, .t 81], none, []⟩,
   ⟨some 23, .mv, [.t 82], none, []⟩])
 (.clean (.seq (.reg false [
   ⟨some 83, .mv, [.t 9], none, []⟩,
   ⟨some 84, .mv, [.t 11], none, []⟩,
   ⟨some 85, .bin .eql, [.t 83, .t 84], none, []⟩,
   ⟨some 86, .mv, [.t 85], none, []⟩,
   ⟨some 87, .load (.st (.cons (.int .i64) (.cons (.int .i64) (.sl (.st (.cons (.int .i64) (.cons (.int .i64) (.int .i64)))))))), [.t 8], some (3, 86, true), []⟩,
   ⟨some 88, .load (.st (.cons (.int .i64) (.cons (.int .i64) (.sl (.st (.cons (.int .i64) (.cons (.int .i64) (.int .i64)))))))), [.t 10], some (3, 86, true), []⟩,
   ⟨some 89, .call 17, [.t 87, .t 88], some (3, 86, true), []⟩,
   ⟨some 90, .pick, [.t 86, .t 89, .bool false], none, []⟩,
   ⟨some 91, .mv, [.t 90], none, []⟩,
   ⟨some 92, .mv, [.t 13], some (8, 91, true), []⟩,
   ⟨some 93, .mv, [.t 15], some (8, 91, true), []⟩,
   ⟨some 94, .bin .eql, [.t 92, .t 93], some (8, 91, true), []⟩,
   ⟨some 95, .pick, [.t 91, .t 94, .bool false], none, []⟩,
   ⟨some 96, .mv, [.t 95], none, []⟩,
   ⟨some 97, .load (.st (.cons (.int .i64) (.cons (.int .i64) (.sl (.st (.cons (.int .i64) (.cons (.int .i64) (.int .i64)))))))), [.t 12], some (13, 96, true), []⟩,
   ⟨some 98, .load (.st (.cons (.int .i64) (.cons (.int .i64) (.sl (.st (.cons (.int .i64) (.cons (.int .i64) (.int .i64)))))))), [.t 14], some (13, 96, true), []⟩,
   ⟨some 99, .call 17, [.t 97, .t 98], some (13, 96, true), []⟩,
   ⟨some 100, .pick, [.t 96, .t 99, .bool false], none, []⟩,
   ⟨some 101, .mv, [.t 100], none, []⟩,
   ⟨some 102, .mv, [.t 17], some (18, 101, true), []⟩,
   ⟨some 103, .mv, [.t 19], some (18, 101, true), []⟩,
   ⟨some 104, .bin .eql, [.t 102, .t 103], some (18, 101, true), []⟩,
   ⟨some 105, .pick, [.t 101, .t 104, .bool false], none, []⟩,
   ⟨some 106, .mv, [.t 105], none, []⟩,
   ⟨some 107, .load (.st (.cons (.int .i64) (.cons (.int .i64) (.sl (.st (.cons (.int .i64) (.cons (.int .i64) (.int .i64)))))))), [.t 16], some (23, 106, true), []⟩,
   ⟨some 108, .load (.st (.cons (.int .i64) (.cons (.int .i64) (.sl (.st (.cons (.int .i64) (.cons (.int .i64) (.int .i64)))))))), [.t 18], some (23, 106, true), []⟩,
   ⟨some 109, .call 17, [.t 107, .t 108], some (23, 106, true), []⟩,
   ⟨some 110, .pick, [.t 106, .t 109, .bool false], none, []⟩,
   ⟨some 111, .mv, [.t 110], none, []⟩,
   ⟨some 112, .mv, [.t 21], some (28, 111, true), []⟩,
   ⟨some 113, .mv, [.t 23], some (28, 111, true), []⟩,
   ⟨some 114, .bin .eql, [.t 112, .t 113], some (28, 111, true), []⟩,
   ⟨some 115, .pick, [.t 111, .t 114, .bool false], none, []⟩,
   ⟨some 116, .mv, [.t 115], none, []⟩,
   ⟨some 117, .load (.st (.cons (.int .i64) (.cons (.int .i64) (.sl (.st (.cons (.int .i64) (.cons (.int .i64) (.int .i64)))))))), [.t 20], some (33, 116, true), []⟩,
   ⟨some 118, .load (.st (.cons (.int .i64) (.cons (.int .i64) (.sl (.st (.cons (.int .i64) (.cons (.int .i64) (.int .i64)))))))), [.t 22], some (33, 116, true), []⟩,
   ⟨some 119, .call 17, [.t 117, .t 118], some (33, 116, true), []⟩,
   ⟨some 120, .pick, [.t 116, .t 119, .bool false], none, []⟩,
   ⟨some 24, .mv, [.t 120], none, []⟩])
 (.clean (.seq (.reg true [
   ⟨some 121, .mv, [.t 7], none, []⟩,
   ⟨some 122, .mv, [.t 121], none, [0]⟩,
   ⟨some 123, .mv, [.t 24], some (1, 122, true), [1, 0]⟩,
   ⟨some 124, .pick, [.t 122, .t 123, .bool false], none, [1, 0, 2]⟩,
   ⟨some 125, .mv, [.t 124], none, [3, 1, 0, 2]⟩,
   ⟨some 126, .load (.st (.cons (.int .i64) (.cons (.int .i64) (.sl (.st (.cons (.int .i64) (.cons (.int .i64) (.int .i64)))))))), [.t 3], some (4, 125, true), [4, 3, 1, 0, 2]⟩,
   ⟨some 127, .call 18, [.t 126], some (4, 125, true), [5, 4, 3, 1, 0, 2]⟩,
   ⟨some 128, .load (.st (.cons (.int .i64) (.cons (.int .i64) (.sl (.st (.cons (.int .i64) (.cons (.int .i64) (.int .i64)))))))), [.t 3], some (4, 125, true), [4, 3, 1, 0, 2]⟩,
   ⟨some 129, .call 19, [.t 128], some (4, 125, true), [7, 4, 3, 1, 0, 2, 6, 5]⟩,
   ⟨some 130, .beq false .bool, [.t 127, .t 129], some (4, 125, true), [6, 5, 4, 3, 1, 0, 2, 8, 7]⟩,
   ⟨some 131, .pick, [.t 125, .t 130, .bool false], none, [4, 3, 1, 0, 2, 9, 6, 5, 8, 7]⟩,
   ⟨some 132, .mv, [.t 131], none, [10, 4, 3, 1, 0, 2, 9, 6, 5, 8, 7]⟩,
   ⟨some 133, .load (.st (.cons (.int .i64) (.cons (.int .i64) (.sl (.st (.cons (.int .i64) (.cons (.int .i64) (.int .i64)))))))), [.t 3], some (11, 132, true), [11, 10, 4, 3, 1, 0, 2, 9, 6, 5, 8, 7]⟩,
   ⟨some 134, .call 20, [.t 133], some (11, 132, true), [12, 11, 10, 4, 3, 1, 0, 2, 9, 6, 5, 8, 7]⟩,
   ⟨some 135, .load (.st (.cons (.int .i64) (.cons (.int .i64) (.sl (.st (.cons (.int .i64) (.cons (.int .i64) (.int .i64)))))))), [.t 3], some (11, 132, true), [11, 10, 4, 3, 1, 0, 2, 9, 6, 5, 8, 7]⟩,
   ⟨some 136, .call 21, [.t 135], some (11, 132, true), [14, 11, 10, 4, 3, 1, 0, 2, 9, 6, 5, 8, 7, 13, 12]⟩,
   ⟨some 137, .bin .eql, [.t 134, .t 136], some (11, 132, true), [13, 12, 11, 10, 4, 3, 1, 0, 2, 9, 6, 5, 8, 7, 15, 14]⟩,
   ⟨some 138, .pick, [.t 132, .t 137, .bool false], none, [11, 10, 4, 3, 1, 0, 2, 9, 6, 5, 8, 7, 16, 13, 12, 15, 14]⟩,
   ⟨some 6, .mv, [.t 138], none, [17, 11, 10, 4, 3, 1, 0, 2, 9, 6, 5, 8, 7, 16, 13, 12, 15, 14]⟩])
 .ret)))))))))))))))))))))))⟩
/- 0=s 1=phone 2=units 3=s 6= 7=head 8=a 9=e 10=b 11=f 12=c 13=g 14=d 15=h 16=u 17=i 18=v 19=k 20=x 21=l 22=y 23=m 24=one -/
/-! tonneau/tonneaulaw40.StockOnce -/
def x4_0 : XC := (.seq (.seq (.reg false [
   ⟨some 26, .mv, [.t 8], none, []⟩,
   ⟨some 27, .mv, [.t 1], none, []⟩,
   ⟨some 28, .len false, [.t 27], none, []⟩,
   ⟨some 29, .bin .lss, [.t 26, .t 28], none, []⟩])
 (.cond (.t 29)
  .skip
  (.exit 0)))
 (.seq (.block 1 (.seq (.reg true [
    ⟨some 33, .load (.st (.cons (.int .i64) (.cons (.int .i64) (.sl (.st (.cons (.int .i64) (.cons (.int .i64) (.int .i64)))))))), [.t 6], none, []⟩,
    ⟨some 34, .mv, [.t 1], none, []⟩,
    ⟨some 35, .mv, [.t 8], none, []⟩,
    ⟨some 36, .iaddr (.st (.cons (.int .i64) (.cons (.int .i64) (.int .i64)))), [.t 34, .t 35], none, [1, 2]⟩,
    ⟨some 37, .load (.st (.cons (.int .i64) (.cons (.int .i64) (.int .i64)))), [.t 36], none, [3, 1, 2]⟩,
    ⟨some 38, .call 22, [.t 33, .t 37], none, [0, 4, 3, 1, 2]⟩,
    ⟨some 32, .mv, [.t 38], none, [5, 0, 4, 3, 1, 2]⟩,
    ⟨some 39, .extract 0, [.t 32], none, [6, 5, 0, 4, 3, 1, 2]⟩,
    ⟨some 40, .extract 1, [.t 32], none, [6, 5, 0, 4, 3, 1, 2]⟩,
    ⟨some 9, .alloc 24 (.st (.cons (.int .i64) (.cons (.int .i64) (.sl (.st (.cons (.int .i64) (.cons (.int .i64) (.int .i64)))))))), [], none, []⟩,
    ⟨none, .store (.st (.cons (.int .i64) (.cons (.int .i64) (.sl (.st (.cons (.int .i64) (.cons (.int .i64) (.int .i64)))))))), [.t 9, .t 39], none, [9, 7, 6, 5, 0, 4, 3, 1, 2]⟩,
    ⟨some 10, .mv, [.t 40], none, [8, 6, 5, 0, 4, 3, 1, 2, 10, 9, 7]⟩])
  (.clean (.seq (.seq (.reg false [
    ⟨some 41, .mv, [.t 10], none, []⟩,
    ⟨some 42, .bin .eql, [.t 41, .int .i64 0], none, []⟩,
    ⟨some 43, .mv, [.t 42], none, []⟩,
    ⟨some 44, .mv, [.t 1], some (2, 43, true), []⟩,
    ⟨some 45, .mv, [.t 8], some (2, 43, true), []⟩,
    ⟨some 46, .iaddr (.st (.cons (.int .i64) (.cons (.int .i64) (.int .i64)))), [.t 44, .t 45], some (2, 43, true), []⟩,
    ⟨some 47, .faddr 0 (.int .i64), [.t 46], some (2, 43, true), []⟩,
    ⟨some 48, .load (.int .i64), [.t 47], some (2, 43, true), []⟩,
    ⟨some 49, .bin .eql, [.t 48, .int .i64 0], some (2, 43, true), []⟩,
    ⟨some 50, .mv, [.t 49], some (2, 43, true), []⟩,
    ⟨some 51, .mv, [.t 1], some (9, 50, false), []⟩,
    ⟨some 52, .mv, [.t 8], some (9, 50, false), []⟩,
    ⟨some 53, .iaddr (.st (.cons (.int .i64) (.cons (.int .i64) (.int .i64)))), [.t 51, .t 52], some (9, 50, false), []⟩,
    ⟨some 54, .faddr 0 (.int .i64), [.t 53], some (9, 50, false), []⟩,
    ⟨some 55, .load (.int .i64), [.t 54], some (9, 50, false), []⟩,
    ⟨some 56, .bin .eql, [.t 55, .int .i64 2], some (9, 50, false), []⟩,
    ⟨some 57, .pick, [.t 50, .bool true, .t 56], some (2, 43, true), []⟩,
    ⟨some 58, .pick, [.t 43, .t 57, .bool false], none, []⟩])
  (.cond (.t 58)
   (.reg false [
     ⟨some 59, .mv, [.t 7], none, []⟩,
     ⟨some 60, .mv, [.t 1], none, []⟩,
     ⟨some 61, .mv, [.t 8], none, []⟩,
     ⟨some 62, .iaddr (.st (.cons (.int .i64) (.cons (.int .i64) (.int .i64)))), [.t 60, .t 61], none, []⟩,
     ⟨some 63, .faddr 2 (.int .i64), [.t 62], none, []⟩,
     ⟨some 64, .load (.int .i64), [.t 63], none, []⟩,
     ⟨some 65, .bin .add, [.t 59, .t 64], none, []⟩,
     ⟨some 7, .mv, [.t 65], none, []⟩])
   .skip))
  (.clean (.seq (.seq (.reg false [
    ⟨some 66, .mv, [.t 7], none, []⟩,
    ⟨some 67, .mv, [.t 0], none, []⟩,
    ⟨some 68, .bin .gtr, [.t 66, .t 67], none, []⟩,
    ⟨some 69, .mv, [.t 68], none, []⟩,
    ⟨some 70, .load (.st (.cons (.int .i64) (.cons (.int .i64) (.sl (.st (.cons (.int .i64) (.cons (.int .i64) (.int .i64)))))))), [.t 9], some (3, 69, false), []⟩,
    ⟨some 71, .call 23, [.t 70], some (3, 69, false), []⟩,
    ⟨some 72, .mv, [.t 7], some (3, 69, false), []⟩,
    ⟨some 73, .bin .neq, [.t 71, .t 72], some (3, 69, false), []⟩,
    ⟨some 74, .pick, [.t 69, .bool true, .t 73], none, []⟩,
    ⟨some 75, .mv, [.t 74], none, []⟩,
    ⟨some 76, .load (.st (.cons (.int .i64) (.cons (.int .i64) (.sl (.st (.cons (.int .i64) (.cons (.int .i64) (.int .i64)))))))), [.t 9], some (9, 75, false), []⟩,
    ⟨some 77, .call 18, [.t 76], some (9, 75, false), []⟩,
    ⟨some 78, .not, [.t 77], some (9, 75, false), []⟩,
    ⟨some 79, .pick, [.t 75, .bool true, .t 78], none, []⟩,
    ⟨some 80, .mv, [.t 79], none, []⟩,
    ⟨some 81, .faddr 0 (.int .i64), [.t 9], some (14, 80, false), []⟩,
    ⟨some 82, .load (.int .i64), [.t 81], some (14, 80, false), []⟩,
    ⟨some 83, .mv, [.t 0], some (14, 80, false), []⟩,
    ⟨some 84, .bin .neq, [.t 82, .t 83], some (14, 80, false), []⟩,
    ⟨some 85, .pick, [.t 80, .bool true, .t 84], none, []⟩])
  (.cond (.t 85)
   (.seq (.reg false [
     ⟨some 4, .mv, [.bool false], none, []⟩])
   .ret)
   .skip))
  (.reg false [
    ⟨some 86, .load (.st (.cons (.int .i64) (.cons (.int .i64) (.sl (.st (.cons (.int .i64) (.cons (.int .i64) (.int .i64)))))))), [.t 9], none, []⟩,
    ⟨none, .store (.st (.cons (.int .i64) (.cons (.int .i64) (.sl (.st (.cons (.int .i64) (.cons (.int .i64) (.int .i64)))))))), [.t 6, .t 86], none, []⟩])))))))
 (.clean (.reg false [
   ⟨some 30, .mv, [.t 8], none, []⟩,
   ⟨some 31, .bin .add, [.t 30, .int .i64 1], none, []⟩,
   ⟨some 8, .mv, [.t 31], none, []⟩]))))
def x4_0d : List Nat := [4, 7, 8, 9, 10]
def x4 : XF := ⟨88, [.tmp 4], [0, 1, 4, 5, 6, 7, 8, 9, 10],
 (.seq (.reg false [
   ⟨some 4, .mv, [.bool false], none, []⟩])
 (.seq (.reg false [
   ⟨some 11, .call 8, [], none, []⟩,
   ⟨some 5, .mv, [.t 11], none, []⟩])
 (.seq (.seq (.reg false [
   ⟨some 12, .mv, [.t 0], none, []⟩,
   ⟨some 13, .bin .lss, [.t 12, .int .i64 0], none, []⟩,
   ⟨some 14, .mv, [.t 13], none, []⟩,
   ⟨some 15, .mv, [.t 0], some (2, 14, false), []⟩,
   ⟨some 16, .bin .gtr, [.t 15, .int .i64 1000000000000000], some (2, 14, false), []⟩,
   ⟨some 17, .pick, [.t 14, .bool true, .t 16], none, []⟩,
   ⟨some 18, .mv, [.t 17], none, []⟩,
   ⟨some 19, .mv, [.t 1], some (6, 18, false), []⟩,
   ⟨some 20, .len false, [.t 19], some (6, 18, false), []⟩,
   ⟨some 21, .bin .gtr, [.t 20, .int .i64 60], some (6, 18, false), []⟩,
   ⟨some 22, .pick, [.t 18, .bool true, .t 21], none, []⟩])
 (.cond (.t 22)
  (.seq (.reg false [
    ⟨some 23, .mv, [.t 5], none, []⟩,
    ⟨some 4, .mv, [.t 23], none, []⟩])
  .ret)
  .skip))
 (.clean (.seq (.reg false [
   ⟨some 24, .mv, [.t 0], none, []⟩,
   ⟨some 25, .build (.st (.cons (.int .i64) (.cons (.int .i64) (.sl (.st (.cons (.int .i64) (.cons (.int .i64) (.int .i64)))))))) [(0, (.int .i64))], [.t 24], none, []⟩,
   ⟨some 6, .alloc 24 (.st (.cons (.int .i64) (.cons (.int .i64) (.sl (.st (.cons (.int .i64) (.cons (.int .i64) (.int .i64)))))))), [], none, []⟩,
   ⟨none, .store (.st (.cons (.int .i64) (.cons (.int .i64) (.sl (.st (.cons (.int .i64) (.cons (.int .i64) (.int .i64)))))))), [.t 6, .t 25], none, []⟩])
 (.seq (.reg false [
   ⟨some 7, .mv, [.int .i64 0], none, []⟩])
 (.seq (.seq (.reg false [
   ⟨some 8, .mv, [.int .i64 0], none, []⟩])
 (.block 0 (.loop x4_0)))
 (.seq (.reg false [
   ⟨some 87, .mv, [.t 5], none, []⟩,
   ⟨some 4, .mv, [.t 87], none, []⟩])
 .ret))))))))⟩
/- 0=total 1=l 4= 5=head 6=s 7=sum 8=i 9=next 10=e -/
/-! tonneau/tonneaulaw40.StockAny -/
def x5 : XF := ⟨119, [.tmp 10], [0, 1, 2, 3, 4, 5, 10, 11, 12, 13, 14, 15, 16, 17, 18, 19, 20, 21, 22, 23, 24, 25],
 (.seq (.reg false [
   ⟨some 5, .box 24, [.t 0], none, []⟩,
   ⟨some 10, .mv, [.bool false], none, []⟩])
 (.seq (.reg false [
   ⟨some 26, .call 8, [], none, []⟩,
   ⟨some 11, .mv, [.t 26], none, []⟩])
 (.seq (.seq (.reg false [
   ⟨some 27, .faddr 2 (.sl (.st (.cons (.int .i64) (.cons (.int .i64) (.int .i64))))), [.t 5], none, []⟩,
   ⟨some 28, .load (.sl (.st (.cons (.int .i64) (.cons (.int .i64) (.int .i64))))), [.t 27], none, []⟩,
   ⟨some 29, .len false, [.t 28], none, []⟩,
   ⟨some 30, .bin .gtr, [.t 29, .int .i64 14], none, []⟩,
   ⟨some 31, .mv, [.t 30], none, []⟩,
   ⟨some 32, .load (.st (.cons (.int .i64) (.cons (.int .i64) (.sl (.st (.cons (.int .i64) (.cons (.int .i64) (.int .i64)))))))), [.t 5], some (4, 31, false), []⟩,
   ⟨some 33, .call 18, [.t 32], some (4, 31, false), []⟩,
   ⟨some 34, .not, [.t 33], some (4, 31, false), []⟩,
   ⟨some 35, .pick, [.t 31, .bool true, .t 34], none, []⟩])
 (.cond (.t 35)
  (.seq (.reg false [
    ⟨some 36, .mv, [.t 11], none, []⟩,
    ⟨some 10, .mv, [.t 36], none, []⟩])
  .ret)
  .skip))
 (.clean (.seq (.reg false [
   ⟨some 38, .load (.st (.cons (.int .i64) (.cons (.int .i64) (.sl (.st (.cons (.int .i64) (.cons (.int .i64) (.int .i64)))))))), [.t 5], none, []⟩,
   ⟨some 39, .mv, [.t 1], none, []⟩,
   ⟨some 40, .mv, [.t 2], none, []⟩,
   ⟨some 41, .call 13, [.t 38, .t 39, .t 40], none, []⟩,
   ⟨some 37, .mv, [.t 41], none, []⟩,
   ⟨some 42, .extract 0, [.t 37], none, []⟩,
   ⟨some 43, .extract 1, [.t 37], none, []⟩,
   ⟨some 12, .alloc 24 (.st (.cons (.int .i64) (.cons (.int .i64) (.sl (.st (.cons (.int .i64) (.cons (.int .i64) (.int .i64)))))))), [], none, []⟩,
   ⟨none, .store (.st (.cons (.int .i64) (.cons (.int .i64) (.sl (.st (.cons (.int .i64) (.cons (.int .i64) (.int .i64)))))))), [.t 12, .t 42], none, []⟩,
   ⟨some 13, .mv, [.t 43], none, []⟩])
 (.clean (.seq (.reg false [
   ⟨some 45, .load (.st (.cons (.int .i64) (.cons (.int .i64) (.sl (.st (.cons (.int .i64) (.cons (.int .i64) (.int .i64)))))))), [.t 12], none, []⟩,
   ⟨some 46, .mv, [.t 3], none, []⟩,
   ⟨some 47, .mv, [.t 4], none, []⟩,
   ⟨some 48, .call 13, [.t 45, .t 46, .t 47], none, []⟩,
   ⟨some 44, .mv, [.t 48], none, []⟩,
   ⟨some 49, .extract 0, [.t 44], none, []⟩,
   ⟨some 50, .extract 1, [.t 44], none, []⟩,
   ⟨some 14, .alloc 24 (.st (.cons (.int .i64) (.cons (.int .i64) (.sl (.st (.cons (.int .i64) (.cons (.int .i64) (.int .i64)))))))), [], none, []⟩,
   ⟨none, .store (.st (.cons (.int .i64) (.cons (.int .i64) (.sl (.st (.cons (.int .i64) (.cons (.int .i64) (.int .i64)))))))), [.t 14, .t 49], none, []⟩,
   ⟨some 15, .mv, [.t 50], none, []⟩])
 (.clean (.seq (.reg false [
   ⟨some 52, .load (.st (.cons (.int .i64) (.cons (.int .i64) (.sl (.st (.cons (.int .i64) (.cons (.int .i64) (.int .i64)))))))), [.t 5], none, []⟩,
   ⟨some 53, .mv, [.t 3], none, []⟩,
   ⟨some 54, .mv, [.t 4], none, []⟩,
   ⟨some 55, .call 13, [.t 52, .t 53, .t 54], none, []⟩,
   ⟨some 51, .mv, [.t 55], none, []⟩,
   ⟨some 56, .extract 0, [.t 51], none, []⟩,
   ⟨some 57, .extract 1, [.t 51], none, []⟩,
   ⟨some 16, .alloc 24 (.st (.cons (.int .i64) (.cons (.int .i64) (.sl (.st (.cons (.int .i64) (.cons (.int .i64) (.int .i64)))))))), [], none, []⟩,
   ⟨none, .store (.st (.cons (.int .i64) (.cons (.int .i64) (.sl (.st (.cons (.int .i64) (.cons (.int .i64) (.int .i64)))))))), [.t 16, .t 56], none, []⟩,
   ⟨some 17, .mv, [.t 57], none, []⟩])
 (.clean (.seq (.reg false [
   ⟨some 59, .load (.st (.cons (.int .i64) (.cons (.int .i64) (.sl (.st (.cons (.int .i64) (.cons (.int .i64) (.int .i64)))))))), [.t 16], none, []⟩,
   ⟨some 60, .mv, [.t 1], none, []⟩,
   ⟨some 61, .mv, [.t 2], none, []⟩,
   ⟨some 62, .call 13, [.t 59, .t 60, .t 61], none, []⟩,
   ⟨some 58, .mv, [.t 62], none, []⟩,
   ⟨some 63, .extract 0, [.t 58], none, []⟩,
   ⟨some 64, .extract 1, [.t 58], none, []⟩,
   ⟨some 18, .alloc 24 (.st (.cons (.int .i64) (.cons (.int .i64) (.sl (.st (.cons (.int .i64) (.cons (.int .i64) (.int .i64)))))))), [], none, []⟩,
   ⟨none, .store (.st (.cons (.int .i64) (.cons (.int .i64) (.sl (.st (.cons (.int .i64) (.cons (.int .i64) (.int .i64)))))))), [.t 18, .t 63], none, []⟩,
   ⟨some 19, .mv, [.t 64], none, []⟩])
 (.clean (.seq (.seq (.reg false [
   ⟨some 65, .mv, [.t 1], none, []⟩,
   ⟨some 66, .mv, [.t 3], none, []⟩,
   ⟨some 67, .bin .neq, [.t 65, .t 66], none, []⟩,
   ⟨some 68, .mv, [.t 67], none, []⟩,
   ⟨some 69, .mv, [.t 13], some (3, 68, true), []⟩,
   ⟨some 70, .mv, [.t 19], some (3, 68, true), []⟩,
   ⟨some 71, .bin .neq, [.t 69, .t 70], some (3, 68, true), []⟩,
   ⟨some 72, .mv, [.t 71], some (3, 68, true), []⟩,
   ⟨some 73, .mv, [.t 15], some (7, 72, false), []⟩,
   ⟨some 74, .mv, [.t 17], some (7, 72, false), []⟩,
   ⟨some 75, .bin .neq, [.t 73, .t 74], some (7, 72, false), []⟩,
   ⟨some 76, .pick, [.t 72, .bool true, .t 75], some (3, 68, true), []⟩,
   ⟨some 77, .mv, [.t 76], some (3, 68, true), []⟩,
   ⟨some 78, .load (.st (.cons (.int .i64) (.cons (.int .i64) (.sl (.st (.cons (.int .i64) (.cons (.int .i64) (.int .i64)))))))), [.t 14], some (12, 77, false), []⟩,
   ⟨some 79, .load (.st (.cons (.int .i64) (.cons (.int .i64) (.sl (.st (.cons (.int .i64) (.cons (.int .i64) (.int .i64)))))))), [.t 18], some (12, 77, false), []⟩,
   ⟨some 80, .call 17, [.t 78, .t 79], some (12, 77, false), []⟩,
   ⟨some 81, .not, [.t 80], some (12, 77, false), []⟩,
   ⟨some 82, .pick, [.t 77, .bool true, .t 81], some (3, 68, true), []⟩,
   ⟨some 83, .pick, [.t 68, .t 82, .bool false], none, []⟩])
 (.cond (.t 83)
  (.seq (.reg false [
    ⟨some 10, .mv, [.bool false], none, []⟩])
  .ret)
  .skip))
 (.clean (.seq (.reg false [
   ⟨some 85, .load (.st (.cons (.int .i64) (.cons (.int .i64) (.sl (.st (.cons (.int .i64) (.cons (.int .i64) (.int .i64)))))))), [.t 12], none, []⟩,
   ⟨some 86, .mv, [.t 4], none, []⟩,
   ⟨some 87, .call 9, [.t 85, .t 86], none, []⟩,
   ⟨some 84, .mv, [.t 87], none, []⟩,
   ⟨some 88, .extract 0, [.t 84], none, []⟩,
   ⟨some 89, .extract 1, [.t 84], none, []⟩,
   ⟨some 20, .alloc 24 (.st (.cons (.int .i64) (.cons (.int .i64) (.sl (.st (.cons (.int .i64) (.cons (.int .i64) (.int .i64)))))))), [], none, []⟩,
   ⟨none, .store (.st (.cons (.int .i64) (.cons (.int .i64) (.sl (.st (.cons (.int .i64) (.cons (.int .i64) (.int .i64)))))))), [.t 20, .t 88], none, []⟩,
   ⟨some 21, .mv, [.t 89], none, []⟩])
 (.clean (.seq (.reg false [
   ⟨some 91, .load (.st (.cons (.int .i64) (.cons (.int .i64) (.sl (.st (.cons (.int .i64) (.cons (.int .i64) (.int .i64)))))))), [.t 5], none, []⟩,
   ⟨some 92, .mv, [.t 4], none, []⟩,
   ⟨some 93, .call 9, [.t 91, .t 92], none, []⟩,
   ⟨some 90, .mv, [.t 93], none, []⟩,
   ⟨some 94, .extract 0, [.t 90], none, []⟩,
   ⟨some 95, .extract 1, [.t 90], none, []⟩,
   ⟨some 22, .alloc 24 (.st (.cons (.int .i64) (.cons (.int .i64) (.sl (.st (.cons (.int .i64) (.cons (.int .i64) (.int .i64)))))))), [], none, []⟩,
   ⟨none, .store (.st (.cons (.int .i64) (.cons (.int .i64) (.sl (.st (.cons (.int .i64) (.cons (.int .i64) (.int .i64)))))))), [.t 22, .t 94], none, []⟩,
   ⟨some 23, .mv, [.t 95], none, []⟩])
 (.clean (.seq (.reg false [
   ⟨some 97, .load (.st (.cons (.int .i64) (.cons (.int .i64) (.sl (.st (.cons (.int .i64) (.cons (.int .i64) (.int .i64)))))))), [.t 22], none, []⟩,
   ⟨some 98, .mv, [.t 1], none, []⟩,
   ⟨some 99, .mv, [.t 2], none, []⟩,
   ⟨some 100, .call 13, [.t 97, .t 98, .t 99], none, []⟩,
   ⟨some 96, .mv, [.t 100], none, []⟩,
   ⟨some 101, .extract 0, [.t 96], none, []⟩,
   ⟨some 102, .extract 1, [.t 96], none, []⟩,
   ⟨some 24, .alloc 24 (.st (.cons (.int .i64) (.cons (.int .i64) (.sl (.st (.cons (.int .i64) (.cons (.int .i64) (.int .i64)))))))), [], none, []⟩,
   ⟨none, .store (.st (.cons (.int .i64) (.cons (.int .i64) (.sl (.st (.cons (.int .i64) (.cons (.int .i64) (.int .i64)))))))), [.t 24, .t 101], none, []⟩,
   ⟨some 25, .mv, [.t 102], none, []⟩])
 (.clean (.seq (.reg false [
   ⟨some 103, .mv, [.t 11], none, []⟩,
   ⟨some 104, .mv, [.t 103], none, []⟩,
   ⟨some 105, .mv, [.t 21], some (1, 104, true), []⟩,
   ⟨some 106, .mv, [.t 23], some (1, 104, true), []⟩,
   ⟨some 107, .bin .eql, [.t 105, .t 106], some (1, 104, true), []⟩,
   ⟨some 108, .pick, [.t 104, .t 107, .bool false], none, []⟩,
   ⟨some 109, .mv, [.t 108], none, []⟩,
   ⟨some 110, .mv, [.t 25], some (6, 109, true), []⟩,
   ⟨some 111, .mv, [.t 13], some (6, 109, true), []⟩,
   ⟨some 112, .bin .eql, [.t 110, .t 111], some (6, 109, true), []⟩,
   ⟨some 113, .pick, [.t 109, .t 112, .bool false], none, []⟩,
   ⟨some 114, .mv, [.t 113], none, []⟩,
   ⟨some 115, .load (.st (.cons (.int .i64) (.cons (.int .i64) (.sl (.st (.cons (.int .i64) (.cons (.int .i64) (.int .i64)))))))), [.t 20], some (11, 114, true), []⟩,
   ⟨some 116, .load (.st (.cons (.int .i64) (.cons (.int .i64) (.sl (.st (.cons (.int .i64) (.cons (.int .i64) (.int .i64)))))))), [.t 24], some (11, 114, true), []⟩,
   ⟨some 117, .call 17, [.t 115, .t 116], some (11, 114, true), []⟩,
   ⟨some 118, .pick, [.t 114, .t 117, .bool false], none, []⟩,
   ⟨some 10, .mv, [.t 118], none, []⟩])
 .ret)))))))))))))))))))))⟩
/- 0=s 1=phone 2=units 3=other 4=more 5=s 10= 11=head 12=a 13=e 14=b 15=f 16=c 17=g 18=d 19=h 20=x 21=i 22=y 23=k 24=z 25=l -/
/-! tonneau/tonneaulaw40.StockSum -/
def x6_0 : XC := (.seq (.seq (.reg false [
   ⟨some 59, .mv, [.t 8], none, []⟩,
   ⟨some 60, .bin .lss, [.t 59, .int .i64 12], none, []⟩])
 (.cond (.t 60)
  .skip
  (.exit 0)))
 (.seq (.block 1 (.seq (.reg true [
    ⟨some 63, .mv, [.t 8], none, []⟩,
    ⟨some 64, .faddr 1 (.int .i64), [.t 3], none, []⟩,
    ⟨some 65, .load (.int .i64), [.t 64], none, [1]⟩,
    ⟨some 66, .bin .neq, [.t 63, .t 65], none, [0, 2, 1]⟩,
    ⟨some 67, .mv, [.t 66], none, [3, 0, 2, 1]⟩,
    ⟨some 68, .faddr 0 (.int .i64), [.t 3], some (4, 67, false), [4, 3, 0, 2, 1]⟩,
    ⟨some 69, .load (.int .i64), [.t 68], some (4, 67, false), [5, 4, 3, 0, 2, 1]⟩,
    ⟨some 70, .bin .eql, [.t 69, .int .i64 0], some (4, 67, false), [6, 5, 4, 3, 0, 2, 1]⟩,
    ⟨some 71, .pick, [.t 67, .bool true, .t 70], none, [4, 3, 0, 2, 1, 7, 6, 5]⟩,
    ⟨some 72, .mv, [.t 71], none, [8, 4, 3, 0, 2, 1, 7, 6, 5]⟩,
    ⟨some 73, .load (.st (.cons (.int .i64) (.cons (.int .i64) (.sl (.st (.cons (.int .i64) (.cons (.int .i64) (.int .i64)))))))), [.t 2], some (9, 72, true), [9, 8, 4, 3, 0, 2, 1, 7, 6, 5]⟩,
    ⟨some 74, .mv, [.t 8], some (9, 72, true), [9, 8, 4, 3, 0, 2, 1, 7, 6, 5]⟩,
    ⟨some 75, .call 25, [.t 73, .t 74], some (9, 72, true), [10, 9, 8, 4, 3, 0, 2, 1, 7, 6, 5, 11]⟩,
    ⟨some 76, .load (.st (.cons (.int .i64) (.cons (.int .i64) (.sl (.st (.cons (.int .i64) (.cons (.int .i64) (.int .i64)))))))), [.t 6], some (9, 72, true), [9, 8, 4, 3, 0, 2, 1, 7, 6, 5]⟩,
    ⟨some 77, .mv, [.t 8], some (9, 72, true), [9, 8, 4, 3, 0, 2, 1, 7, 6, 5]⟩,
    ⟨some 78, .call 25, [.t 76, .t 77], some (9, 72, true), [13, 9, 8, 4, 3, 0, 2, 1, 7, 6, 5, 14, 12, 10, 11]⟩,
    ⟨some 79, .steq true (.st (.cons (.int .i64) (.cons (.int .i64) (.int .i64)))), [.t 75, .t 78], some (9, 72, true), [12, 10, 9, 8, 4, 3, 0, 2, 1, 7, 6, 5, 11, 15, 13, 14]⟩,
    ⟨some 80, .pick, [.t 72, .t 79, .bool false], none, [9, 8, 4, 3, 0, 2, 1, 7, 6, 5, 16, 12, 10, 11, 15, 13, 14]⟩])
  (.cond (.t 80)
   (.seq (.reg false [
     ⟨some 4, .mv, [.bool false], none, []⟩])
   .ret)
   .skip)))
 (.clean (.reg false [
   ⟨some 61, .mv, [.t 8], none, []⟩,
   ⟨some 62, .bin .add, [.t 61, .int .i64 1], none, []⟩,
   ⟨some 8, .mv, [.t 62], none, []⟩]))))
def x6_0d : List Nat := [4, 8]
def x6 : XF := ⟨82, [.tmp 4], [0, 1, 2, 3, 4, 5, 6, 7, 8],
 (.seq (.reg false [
   ⟨some 2, .box 24, [.t 0], none, []⟩,
   ⟨some 3, .box 37, [.t 1], none, []⟩,
   ⟨some 4, .mv, [.bool false], none, []⟩])
 (.seq (.reg false [
   ⟨some 9, .call 8, [], none, []⟩,
   ⟨some 5, .mv, [.t 9], none, []⟩])
 (.seq (.seq (.reg false [
   ⟨some 10, .faddr 2 (.sl (.st (.cons (.int .i64) (.cons (.int .i64) (.int .i64))))), [.t 2], none, []⟩,
   ⟨some 11, .load (.sl (.st (.cons (.int .i64) (.cons (.int .i64) (.int .i64))))), [.t 10], none, []⟩,
   ⟨some 12, .len false, [.t 11], none, []⟩,
   ⟨some 13, .bin .gtr, [.t 12, .int .i64 14], none, []⟩])
 (.cond (.t 13)
  (.seq (.reg false [
    ⟨some 14, .mv, [.t 5], none, []⟩,
    ⟨some 4, .mv, [.t 14], none, []⟩])
  .ret)
  .skip))
 (.clean (.seq (.reg false [
   ⟨some 16, .load (.st (.cons (.int .i64) (.cons (.int .i64) (.sl (.st (.cons (.int .i64) (.cons (.int .i64) (.int .i64)))))))), [.t 2], none, []⟩,
   ⟨some 17, .load (.st (.cons (.int .i64) (.cons (.int .i64) (.int .i64)))), [.t 3], none, []⟩,
   ⟨some 18, .call 22, [.t 16, .t 17], none, []⟩,
   ⟨some 15, .mv, [.t 18], none, []⟩,
   ⟨some 19, .extract 0, [.t 15], none, []⟩,
   ⟨some 20, .extract 1, [.t 15], none, []⟩,
   ⟨some 6, .alloc 24 (.st (.cons (.int .i64) (.cons (.int .i64) (.sl (.st (.cons (.int .i64) (.cons (.int .i64) (.int .i64)))))))), [], none, []⟩,
   ⟨none, .store (.st (.cons (.int .i64) (.cons (.int .i64) (.sl (.st (.cons (.int .i64) (.cons (.int .i64) (.int .i64)))))))), [.t 6, .t 19], none, []⟩,
   ⟨some 7, .mv, [.t 20], none, []⟩])
 (.clean (.seq (.seq (.reg false [
   ⟨some 21, .mv, [.t 7], none, []⟩,
   ⟨some 22, .bin .neq, [.t 21, .int .i64 0], none, []⟩])
 (.cond (.t 22)
  (.seq (.reg false [
    ⟨some 23, .mv, [.t 5], none, []⟩,
    ⟨some 24, .mv, [.t 23], none, []⟩,
    ⟨some 25, .load (.st (.cons (.int .i64) (.cons (.int .i64) (.sl (.st (.cons (.int .i64) (.cons (.int .i64) (.int .i64)))))))), [.t 6], some (1, 24, true), []⟩,
    ⟨some 26, .load (.st (.cons (.int .i64) (.cons (.int .i64) (.sl (.st (.cons (.int .i64) (.cons (.int .i64) (.int .i64)))))))), [.t 2], some (1, 24, true), []⟩,
    ⟨some 27, .call 17, [.t 25, .t 26], some (1, 24, true), []⟩,
    ⟨some 28, .pick, [.t 24, .t 27, .bool false], none, []⟩,
    ⟨some 29, .mv, [.t 28], none, []⟩,
    ⟨some 30, .mv, [.t 7], some (6, 29, true), []⟩,
    ⟨some 31, .bin .eql, [.t 30, .int .i64 1], some (6, 29, true), []⟩,
    ⟨some 32, .mv, [.t 31], some (6, 29, true), []⟩,
    ⟨some 33, .load (.st (.cons (.int .i64) (.cons (.int .i64) (.sl (.st (.cons (.int .i64) (.cons (.int .i64) (.int .i64)))))))), [.t 2], some (9, 32, false), []⟩,
    ⟨some 34, .call 18, [.t 33], some (9, 32, false), []⟩,
    ⟨some 35, .pick, [.t 32, .bool true, .t 34], some (6, 29, true), []⟩,
    ⟨some 36, .pick, [.t 29, .t 35, .bool false], none, []⟩,
    ⟨some 4, .mv, [.t 36], none, []⟩])
  .ret)
  .skip))
 (.clean (.seq (.seq (.reg true [
   ⟨some 37, .load (.st (.cons (.int .i64) (.cons (.int .i64) (.sl (.st (.cons (.int .i64) (.cons (.int .i64) (.int .i64)))))))), [.t 2], none, []⟩,
   ⟨some 38, .call 18, [.t 37], none, [0]⟩,
   ⟨some 39, .not, [.t 38], none, [1, 0]⟩,
   ⟨some 40, .mv, [.t 39], none, [2, 1, 0]⟩,
   ⟨some 41, .load (.st (.cons (.int .i64) (.cons (.int .i64) (.sl (.st (.cons (.int .i64) (.cons (.int .i64) (.int .i64)))))))), [.t 6], some (3, 40, false), [3, 2, 1, 0]⟩,
   ⟨some 42, .call 18, [.t 41], some (3, 40, false), [4, 3, 2, 1, 0]⟩,
   ⟨some 43, .not, [.t 42], some (3, 40, false), [5, 4, 3, 2, 1, 0]⟩,
   ⟨some 44, .pick, [.t 40, .bool true, .t 43], none, [3, 2, 1, 0, 6, 5, 4]⟩,
   ⟨some 45, .mv, [.t 44], none, [7, 3, 2, 1, 0, 6, 5, 4]⟩,
   ⟨some 46, .load (.st (.cons (.int .i64) (.cons (.int .i64) (.sl (.st (.cons (.int .i64) (.cons (.int .i64) (.int .i64)))))))), [.t 2], some (8, 45, false), [8, 7, 3, 2, 1, 0, 6, 5, 4]⟩,
   ⟨some 47, .call 24, [.t 46], some (8, 45, false), [9, 8, 7, 3, 2, 1, 0, 6, 5, 4]⟩,
   ⟨some 48, .faddr 0 (.int .i64), [.t 2], some (8, 45, false), [8, 7, 3, 2, 1, 0, 6, 5, 4]⟩,
   ⟨some 49, .load (.int .i64), [.t 48], some (8, 45, false), [11, 8, 7, 3, 2, 1, 0, 6, 5, 4]⟩,
   ⟨some 50, .bin .neq, [.t 47, .t 49], some (8, 45, false), [10, 9, 8, 7, 3, 2, 1, 0, 6, 5, 4, 12, 11]⟩,
   ⟨some 51, .pick, [.t 45, .bool true, .t 50], none, [8, 7, 3, 2, 1, 0, 6, 5, 4, 13, 10, 9, 12, 11]⟩,
   ⟨some 52, .mv, [.t 51], none, [14, 8, 7, 3, 2, 1, 0, 6, 5, 4, 13, 10, 9, 12, 11]⟩,
   ⟨some 53, .load (.st (.cons (.int .i64) (.cons (.int .i64) (.sl (.st (.cons (.int .i64) (.cons (.int .i64) (.int .i64)))))))), [.t 6], some (15, 52, false), [15, 14, 8, 7, 3, 2, 1, 0, 6, 5, 4, 13, 10, 9, 12, 11]⟩,
   ⟨some 54, .call 24, [.t 53], some (15, 52, false), [16, 15, 14, 8, 7, 3, 2, 1, 0, 6, 5, 4, 13, 10, 9, 12, 11]⟩,
   ⟨some 55, .faddr 0 (.int .i64), [.t 2], some (15, 52, false), [15, 14, 8, 7, 3, 2, 1, 0, 6, 5, 4, 13, 10, 9, 12, 11]⟩,
   ⟨some 56, .load (.int .i64), [.t 55], some (15, 52, false), [18, 15, 14, 8, 7, 3, 2, 1, 0, 6, 5, 4, 13, 10, 9, 12, 11]⟩,
   ⟨some 57, .bin .neq, [.t 54, .t 56], some (15, 52, false), [17, 16, 15, 14, 8, 7, 3, 2, 1, 0, 6, 5, 4, 13, 10, 9, 12, 11, 19, 18]⟩,
   ⟨some 58, .pick, [.t 52, .bool true, .t 57], none, [15, 14, 8, 7, 3, 2, 1, 0, 6, 5, 4, 13, 10, 9, 12, 11, 20, 17, 16, 19, 18]⟩])
 (.cond (.t 58)
  (.seq (.reg false [
    ⟨some 4, .mv, [.bool false], none, []⟩])
  .ret)
  .skip))
 (.clean (.seq (.seq (.reg false [
   ⟨some 8, .mv, [.int .i64 0], none, []⟩])
 (.block 0 (.loop x6_0)))
 (.seq (.reg false [
   ⟨some 81, .mv, [.t 5], none, []⟩,
   ⟨some 4, .mv, [.t 81], none, []⟩])
 .ret))))))))))))⟩
/- 0=s 1=o 2=s 3=o 4= 5=head 6=next 7=e 8=p -/
/-! tonneau/tonneaulaw40.StockCopies -/
def x7_0 : XC := (.seq (.seq (.reg false [
   ⟨some 34, .mv, [.t 10], none, []⟩,
   ⟨some 35, .faddr 2 (.sl (.st (.cons (.int .i64) (.cons (.int .i64) (.int .i64))))), [.t 7], none, []⟩,
   ⟨some 36, .load (.sl (.st (.cons (.int .i64) (.cons (.int .i64) (.int .i64))))), [.t 35], none, []⟩,
   ⟨some 37, .len false, [.t 36], none, []⟩,
   ⟨some 38, .bin .lss, [.t 34, .t 37], none, []⟩])
 (.cond (.t 38)
  .skip
  (.exit 0)))
 (.clean (.seq (.block 1 (.reg false [
    ⟨some 41, .faddr 2 (.sl (.st (.cons (.int .i64) (.cons (.int .i64) (.int .i64))))), [.t 7], none, []⟩,
    ⟨some 42, .load (.sl (.st (.cons (.int .i64) (.cons (.int .i64) (.int .i64))))), [.t 41], none, []⟩,
    ⟨some 43, .mv, [.t 10], none, []⟩,
    ⟨some 44, .iaddr (.st (.cons (.int .i64) (.cons (.int .i64) (.int .i64)))), [.t 42, .t 43], none, []⟩,
    ⟨some 45, .faddr 1 (.int .i64), [.t 44], none, []⟩,
    ⟨none, .store (.int .i64), [.t 45, .int .i64 (-7)], none, []⟩]))
 (.reg false [
   ⟨some 39, .mv, [.t 10], none, []⟩,
   ⟨some 40, .bin .add, [.t 39, .int .i64 1], none, []⟩,
   ⟨some 10, .mv, [.t 40], none, []⟩]))))
def x7_0d : List Nat := [10]
def x7 : XF := ⟨67, [.tmp 4], [0, 1, 2, 3, 4, 5, 6, 7, 8, 9, 10, 11, 12],
 (.seq (.reg false [
   ⟨some 2, .box 24, [.t 0], none, []⟩,
   ⟨some 3, .box 37, [.t 1], none, []⟩,
   ⟨some 4, .mv, [.bool false], none, []⟩])
 (.seq (.reg false [
   ⟨some 13, .call 8, [], none, []⟩,
   ⟨some 5, .mv, [.t 13], none, []⟩])
 (.seq (.seq (.reg false [
   ⟨some 14, .faddr 2 (.sl (.st (.cons (.int .i64) (.cons (.int .i64) (.int .i64))))), [.t 2], none, []⟩,
   ⟨some 15, .load (.sl (.st (.cons (.int .i64) (.cons (.int .i64) (.int .i64))))), [.t 14], none, []⟩,
   ⟨some 16, .len false, [.t 15], none, []⟩,
   ⟨some 17, .bin .gtr, [.t 16, .int .i64 14], none, []⟩,
   ⟨some 18, .mv, [.t 17], none, []⟩,
   ⟨some 19, .load (.st (.cons (.int .i64) (.cons (.int .i64) (.sl (.st (.cons (.int .i64) (.cons (.int .i64) (.int .i64)))))))), [.t 2], some (4, 18, false), []⟩,
   ⟨some 20, .call 18, [.t 19], some (4, 18, false), []⟩,
   ⟨some 21, .not, [.t 20], some (4, 18, false), []⟩,
   ⟨some 22, .pick, [.t 18, .bool true, .t 21], none, []⟩])
 (.cond (.t 22)
  (.seq (.reg false [
    ⟨some 23, .mv, [.t 5], none, []⟩,
    ⟨some 4, .mv, [.t 23], none, []⟩])
  .ret)
  .skip))
 (.clean (.seq (.icall false [
   ⟨some 24, .load (.st (.cons (.int .i64) (.cons (.int .i64) (.sl (.st (.cons (.int .i64) (.cons (.int .i64) (.int .i64)))))))), [.t 2], none, []⟩] ⟨some 25, .callv, [.fn 26, .t 24], none, []⟩ [
   ⟨some 6, .alloc 24 (.st (.cons (.int .i64) (.cons (.int .i64) (.sl (.st (.cons (.int .i64) (.cons (.int .i64) (.int .i64)))))))), [], none, []⟩,
   ⟨none, .store (.st (.cons (.int .i64) (.cons (.int .i64) (.sl (.st (.cons (.int .i64) (.cons (.int .i64) (.int .i64)))))))), [.t 6, .t 25], none, []⟩] 26 x26.n x26.res x26.kv x26.code)
 (.seq (.reg false [
   ⟨some 27, .load (.st (.cons (.int .i64) (.cons (.int .i64) (.sl (.st (.cons (.int .i64) (.cons (.int .i64) (.int .i64)))))))), [.t 2], none, []⟩,
   ⟨some 28, .load (.st (.cons (.int .i64) (.cons (.int .i64) (.int .i64)))), [.t 3], none, []⟩,
   ⟨some 29, .call 22, [.t 27, .t 28], none, []⟩,
   ⟨some 26, .mv, [.t 29], none, []⟩,
   ⟨some 30, .extract 0, [.t 26], none, []⟩,
   ⟨some 31, .extract 1, [.t 26], none, []⟩,
   ⟨some 7, .alloc 24 (.st (.cons (.int .i64) (.cons (.int .i64) (.sl (.st (.cons (.int .i64) (.cons (.int .i64) (.int .i64)))))))), [], none, []⟩,
   ⟨none, .store (.st (.cons (.int .i64) (.cons (.int .i64) (.sl (.st (.cons (.int .i64) (.cons (.int .i64) (.int .i64)))))))), [.t 7, .t 30], none, []⟩,
   ⟨some 8, .mv, [.t 31], none, []⟩])
 (.clean (.seq (.icall false [
   ⟨some 32, .load (.st (.cons (.int .i64) (.cons (.int .i64) (.sl (.st (.cons (.int .i64) (.cons (.int .i64) (.int .i64)))))))), [.t 7], none, []⟩] ⟨some 33, .callv, [.fn 26, .t 32], none, []⟩ [
   ⟨some 9, .alloc 24 (.st (.cons (.int .i64) (.cons (.int .i64) (.sl (.st (.cons (.int .i64) (.cons (.int .i64) (.int .i64)))))))), [], none, []⟩,
   ⟨none, .store (.st (.cons (.int .i64) (.cons (.int .i64) (.sl (.st (.cons (.int .i64) (.cons (.int .i64) (.int .i64)))))))), [.t 9, .t 33], none, []⟩] 26 x26.n x26.res x26.kv x26.code)
 (.seq (.seq (.reg false [
   ⟨some 10, .mv, [.int .i64 0], none, []⟩])
 (.block 0 (.loop x7_0)))
 (.clean (.seq (.seq (.reg false [
   ⟨some 46, .load (.st (.cons (.int .i64) (.cons (.int .i64) (.sl (.st (.cons (.int .i64) (.cons (.int .i64) (.int .i64)))))))), [.t 2], none, []⟩,
   ⟨some 47, .load (.st (.cons (.int .i64) (.cons (.int .i64) (.sl (.st (.cons (.int .i64) (.cons (.int .i64) (.int .i64)))))))), [.t 6], none, []⟩,
   ⟨some 48, .call 17, [.t 46, .t 47], none, []⟩,
   ⟨some 49, .not, [.t 48], none, []⟩])
 (.cond (.t 49)
  (.seq (.reg false [
    ⟨some 4, .mv, [.bool false], none, []⟩])
  .ret)
  .skip))
 (.clean (.seq (.reg false [
   ⟨some 51, .load (.st (.cons (.int .i64) (.cons (.int .i64) (.sl (.st (.cons (.int .i64) (.cons (.int .i64) (.int .i64)))))))), [.t 2], none, []⟩,
   ⟨some 52, .load (.st (.cons (.int .i64) (.cons (.int .i64) (.int .i64)))), [.t 3], none, []⟩,
   ⟨some 53, .call 22, [.t 51, .t 52], none, []⟩,
   ⟨some 50, .mv, [.t 53], none, []⟩,
   ⟨some 54, .extract 0, [.t 50], none, []⟩,
   ⟨some 55, .extract 1, [.t 50], none, []⟩,
   ⟨some 11, .alloc 24 (.st (.cons (.int .i64) (.cons (.int .i64) (.sl (.st (.cons (.int .i64) (.cons (.int .i64) (.int .i64)))))))), [], none, []⟩,
   ⟨none, .store (.st (.cons (.int .i64) (.cons (.int .i64) (.sl (.st (.cons (.int .i64) (.cons (.int .i64) (.int .i64)))))))), [.t 11, .t 54], none, []⟩,
   ⟨some 12, .mv, [.t 55], none, []⟩])
 (.clean (.seq (.reg false [
   ⟨some 56, .mv, [.t 5], none, []⟩,
   ⟨some 57, .mv, [.t 56], none, []⟩,
   ⟨some 58, .mv, [.t 8], some (1, 57, true), []⟩,
   ⟨some 59, .mv, [.t 12], some (1, 57, true), []⟩,
   ⟨some 60, .bin .eql, [.t 58, .t 59], some (1, 57, true), []⟩,
   ⟨some 61, .pick, [.t 57, .t 60, .bool false], none, []⟩,
   ⟨some 62, .mv, [.t 61], none, []⟩,
   ⟨some 63, .load (.st (.cons (.int .i64) (.cons (.int .i64) (.sl (.st (.cons (.int .i64) (.cons (.int .i64) (.int .i64)))))))), [.t 9], some (6, 62, true), []⟩,
   ⟨some 64, .load (.st (.cons (.int .i64) (.cons (.int .i64) (.sl (.st (.cons (.int .i64) (.cons (.int .i64) (.int .i64)))))))), [.t 11], some (6, 62, true), []⟩,
   ⟨some 65, .call 17, [.t 63, .t 64], some (6, 62, true), []⟩,
   ⟨some 66, .pick, [.t 62, .t 65, .bool false], none, []⟩,
   ⟨some 4, .mv, [.t 66], none, []⟩])
 .ret)))))))))))))))⟩
/- 0=s 1=o 2=s 3=o 4= 5=head 6=old 7=a 8=e 9=b 10=i 11=c 12=f -/
/-! tonneau/tonneaulaw40.small -/
def x8 : XF := ⟨102, [.tmp 0], [0, 1, 2, 3, 4, 5, 6, 7, 8, 9, 10, 11, 12, 13, 14, 15],
 (.seq (.reg false [
   ⟨some 0, .mv, [.bool false], none, []⟩])
 (.seq (.reg false [
   ⟨some 17, .build (.st (.cons (.int .i64) (.cons (.int .i64) (.sl (.st (.cons (.int .i64) (.cons (.int .i64) (.int .i64)))))))) [(0, (.int .i64))], [.int .i64 10], none, []⟩,
   ⟨some 18, .call 11, [.t 17, .int .i64 3, .int .i64 4], none, []⟩,
   ⟨some 16, .mv, [.t 18], none, []⟩,
   ⟨some 19, .extract 0, [.t 16], none, []⟩,
   ⟨some 20, .extract 1, [.t 16], none, []⟩,
   ⟨some 1, .alloc 24 (.st (.cons (.int .i64) (.cons (.int .i64) (.sl (.st (.cons (.int .i64) (.cons (.int .i64) (.int .i64)))))))), [], none, []⟩,
   ⟨none, .store (.st (.cons (.int .i64) (.cons (.int .i64) (.sl (.st (.cons (.int .i64) (.cons (.int .i64) (.int .i64)))))))), [.t 1, .t 19], none, []⟩,
   ⟨some 2, .mv, [.t 20], none, []⟩])
 (.clean (.seq (.reg false [
   ⟨some 22, .load (.st (.cons (.int .i64) (.cons (.int .i64) (.sl (.st (.cons (.int .i64) (.cons (.int .i64) (.int .i64)))))))), [.t 1], none, []⟩,
   ⟨some 23, .call 9, [.t 22, .int .i64 5], none, []⟩,
   ⟨some 21, .mv, [.t 23], none, []⟩,
   ⟨some 24, .extract 0, [.t 21], none, []⟩,
   ⟨some 25, .extract 1, [.t 21], none, []⟩,
   ⟨some 3, .alloc 24 (.st (.cons (.int .i64) (.cons (.int .i64) (.sl (.st (.cons (.int .i64) (.cons (.int .i64) (.int .i64)))))))), [], none, []⟩,
   ⟨none, .store (.st (.cons (.int .i64) (.cons (.int .i64) (.sl (.st (.cons (.int .i64) (.cons (.int .i64) (.int .i64)))))))), [.t 3, .t 24], none, []⟩,
   ⟨some 4, .mv, [.t 25], none, []⟩])
 (.clean (.seq (.reg false [
   ⟨some 27, .load (.st (.cons (.int .i64) (.cons (.int .i64) (.sl (.st (.cons (.int .i64) (.cons (.int .i64) (.int .i64)))))))), [.t 3], none, []⟩,
   ⟨some 28, .call 9, [.t 27, .int .i64 2], none, []⟩,
   ⟨some 26, .mv, [.t 28], none, []⟩,
   ⟨some 29, .extract 0, [.t 26], none, []⟩,
   ⟨some 30, .extract 1, [.t 26], none, []⟩,
   ⟨some 5, .alloc 24 (.st (.cons (.int .i64) (.cons (.int .i64) (.sl (.st (.cons (.int .i64) (.cons (.int .i64) (.int .i64)))))))), [], none, []⟩,
   ⟨none, .store (.st (.cons (.int .i64) (.cons (.int .i64) (.sl (.st (.cons (.int .i64) (.cons (.int .i64) (.int .i64)))))))), [.t 5, .t 29], none, []⟩,
   ⟨some 6, .mv, [.t 30], none, []⟩])
 (.clean (.seq (.reg false [
   ⟨some 32, .load (.st (.cons (.int .i64) (.cons (.int .i64) (.sl (.st (.cons (.int .i64) (.cons (.int .i64) (.int .i64)))))))), [.t 3], none, []⟩,
   ⟨some 33, .call 13, [.t 32, .int .i64 3, .int .i64 3], none, []⟩,
   ⟨some 31, .mv, [.t 33], none, []⟩,
   ⟨some 34, .extract 0, [.t 31], none, []⟩,
   ⟨some 35, .extract 1, [.t 31], none, []⟩,
   ⟨some 7, .alloc 24 (.st (.cons (.int .i64) (.cons (.int .i64) (.sl (.st (.cons (.int .i64) (.cons (.int .i64) (.int .i64)))))))), [], none, []⟩,
   ⟨none, .store (.st (.cons (.int .i64) (.cons (.int .i64) (.sl (.st (.cons (.int .i64) (.cons (.int .i64) (.int .i64)))))))), [.t 7, .t 34], none, []⟩,
   ⟨some 8, .mv, [.t 35], none, []⟩])
 (.clean (.seq (.reg false [
   ⟨some 37, .load (.st (.cons (.int .i64) (.cons (.int .i64) (.sl (.st (.cons (.int .i64) (.cons (.int .i64) (.int .i64)))))))), [.t 7], none, []⟩,
   ⟨some 38, .call 13, [.t 37, .int .i64 3, .int .i64 2], none, []⟩,
   ⟨some 36, .mv, [.t 38], none, []⟩,
   ⟨some 39, .extract 0, [.t 36], none, []⟩,
   ⟨some 40, .extract 1, [.t 36], none, []⟩,
   ⟨some 9, .alloc 24 (.st (.cons (.int .i64) (.cons (.int .i64) (.sl (.st (.cons (.int .i64) (.cons (.int .i64) (.int .i64)))))))), [], none, []⟩,
   ⟨none, .store (.st (.cons (.int .i64) (.cons (.int .i64) (.sl (.st (.cons (.int .i64) (.cons (.int .i64) (.int .i64)))))))), [.t 9, .t 39], none, []⟩,
   ⟨some 10, .mv, [.t 40], none, []⟩])
 (.clean (.seq (.reg false [
   ⟨some 42, .load (.st (.cons (.int .i64) (.cons (.int .i64) (.sl (.st (.cons (.int .i64) (.cons (.int .i64) (.int .i64)))))))), [.t 7], none, []⟩,
   ⟨some 43, .call 13, [.t 42, .int .i64 4, .int .i64 1], none, []⟩,
   ⟨some 41, .mv, [.t 43], none, []⟩,
   ⟨some 44, .extract 0, [.t 41], none, []⟩,
   ⟨some 45, .extract 1, [.t 41], none, []⟩,
   ⟨some 11, .alloc 24 (.st (.cons (.int .i64) (.cons (.int .i64) (.sl (.st (.cons (.int .i64) (.cons (.int .i64) (.int .i64)))))))), [], none, []⟩,
   ⟨none, .store (.st (.cons (.int .i64) (.cons (.int .i64) (.sl (.st (.cons (.int .i64) (.cons (.int .i64) (.int .i64)))))))), [.t 11, .t 44], none, []⟩,
   ⟨some 12, .mv, [.t 45], none, []⟩])
 (.clean (.seq (.reg false [
   ⟨some 47, .load (.st (.cons (.int .i64) (.cons (.int .i64) (.sl (.st (.cons (.int .i64) (.cons (.int .i64) (.int .i64)))))))), [.t 7], none, []⟩,
   ⟨some 48, .call 15, [.t 47, .int .i64 3], none, []⟩,
   ⟨some 46, .mv, [.t 48], none, []⟩,
   ⟨some 49, .extract 0, [.t 46], none, []⟩,
   ⟨some 50, .extract 1, [.t 46], none, []⟩,
   ⟨some 13, .alloc 24 (.st (.cons (.int .i64) (.cons (.int .i64) (.sl (.st (.cons (.int .i64) (.cons (.int .i64) (.int .i64)))))))), [], none, []⟩,
   ⟨none, .store (.st (.cons (.int .i64) (.cons (.int .i64) (.sl (.st (.cons (.int .i64) (.cons (.int .i64) (.int .i64)))))))), [.t 13, .t 49], none, []⟩,
   ⟨some 14, .mv, [.t 50], none, []⟩])
 (.clean (.seq (.reg false [
   ⟨some 51, .mv, [.t 2], none, []⟩,
   ⟨some 52, .bin .eql, [.t 51, .int .i64 0], none, []⟩,
   ⟨some 53, .mv, [.t 52], none, []⟩,
   ⟨some 54, .load (.st (.cons (.int .i64) (.cons (.int .i64) (.sl (.st (.cons (.int .i64) (.cons (.int .i64) (.int .i64)))))))), [.t 1], some (2, 53, true), []⟩,
   ⟨some 55, .call 20, [.t 54], some (2, 53, true), []⟩,
   ⟨some 56, .bin .eql, [.t 55, .int .i64 6], some (2, 53, true), []⟩,
   ⟨some 57, .pick, [.t 53, .t 56, .bool false], none, []⟩,
   ⟨some 58, .mv, [.t 57], none, []⟩,
   ⟨some 59, .mv, [.t 4], some (7, 58, true), []⟩,
   ⟨some 60, .bin .eql, [.t 59, .int .i64 0], some (7, 58, true), []⟩,
   ⟨some 61, .pick, [.t 58, .t 60, .bool false], none, []⟩,
   ⟨some 62, .mv, [.t 61], none, []⟩,
   ⟨some 63, .load (.st (.cons (.int .i64) (.cons (.int .i64) (.sl (.st (.cons (.int .i64) (.cons (.int .i64) (.int .i64)))))))), [.t 3], some (11, 62, true), []⟩,
   ⟨some 64, .call 20, [.t 63], some (11, 62, true), []⟩,
   ⟨some 65, .bin .eql, [.t 64, .int .i64 1], some (11, 62, true), []⟩,
   ⟨some 66, .pick, [.t 62, .t 65, .bool false], none, []⟩,
   ⟨some 67, .mv, [.t 66], none, []⟩,
   ⟨some 68, .mv, [.t 6], some (16, 67, true), []⟩,
   ⟨some 69, .bin .eql, [.t 68, .int .i64 21], some (16, 67, true), []⟩,
   ⟨some 70, .pick, [.t 67, .t 69, .bool false], none, []⟩,
   ⟨some 71, .mv, [.t 70], none, []⟩,
   ⟨some 72, .mv, [.t 8], some (20, 71, true), []⟩,
   ⟨some 73, .bin .eql, [.t 72, .int .i64 0], some (20, 71, true), []⟩,
   ⟨some 74, .pick, [.t 71, .t 73, .bool false], none, []⟩,
   ⟨some 75, .mv, [.t 74], none, []⟩,
   ⟨some 76, .mv, [.t 10], some (24, 75, true), []⟩,
   ⟨some 77, .bin .eql, [.t 76, .int .i64 21], some (24, 75, true), []⟩,
   ⟨some 78, .pick, [.t 75, .t 77, .bool false], none, []⟩,
   ⟨some 79, .mv, [.t 78], none, []⟩,
   ⟨some 80, .mv, [.t 12], some (28, 79, true), []⟩,
   ⟨some 81, .bin .eql, [.t 80, .int .i64 4], some (28, 79, true), []⟩,
   ⟨some 82, .pick, [.t 79, .t 81, .bool false], none, []⟩,
   ⟨some 15, .mv, [.t 82], none, []⟩])
 (.clean (.seq (.reg false [
   ⟨some 83, .mv, [.t 15], none, []⟩,
   ⟨some 84, .mv, [.t 83], none, []⟩,
   ⟨some 85, .mv, [.t 14], some (1, 84, true), []⟩,
   ⟨some 86, .bin .eql, [.t 85, .int .i64 0], some (1, 84, true), []⟩,
   ⟨some 87, .pick, [.t 84, .t 86, .bool false], none, []⟩,
   ⟨some 88, .mv, [.t 87], none, []⟩,
   ⟨some 89, .load (.st (.cons (.int .i64) (.cons (.int .i64) (.sl (.st (.cons (.int .i64) (.cons (.int .i64) (.int .i64)))))))), [.t 13], some (5, 88, true), []⟩,
   ⟨some 90, .build (.st (.cons (.int .i64) (.cons (.int .i64) (.sl (.st (.cons (.int .i64) (.cons (.int .i64) (.int .i64)))))))) [(0, (.int .i64)), (1, (.int .i64))], [.int .i64 10, .int .i64 8], some (5, 88, true), []⟩,
   ⟨some 91, .call 17, [.t 89, .t 90], some (5, 88, true), []⟩,
   ⟨some 92, .pick, [.t 88, .t 91, .bool false], none, []⟩,
   ⟨some 93, .mv, [.t 92], none, []⟩,
   ⟨some 94, .load (.st (.cons (.int .i64) (.cons (.int .i64) (.sl (.st (.cons (.int .i64) (.cons (.int .i64) (.int .i64)))))))), [.t 13], some (10, 93, true), []⟩,
   ⟨some 95, .call 20, [.t 94], some (10, 93, true), []⟩,
   ⟨some 96, .bin .eql, [.t 95, .int .i64 2], some (10, 93, true), []⟩,
   ⟨some 97, .pick, [.t 93, .t 96, .bool false], none, []⟩,
   ⟨some 98, .mv, [.t 97], none, []⟩,
   ⟨some 99, .load (.st (.cons (.int .i64) (.cons (.int .i64) (.sl (.st (.cons (.int .i64) (.cons (.int .i64) (.int .i64)))))))), [.t 7], some (15, 98, true), []⟩,
   ⟨some 100, .call 18, [.t 99], some (15, 98, true), []⟩,
   ⟨some 101, .pick, [.t 98, .t 100, .bool false], none, []⟩,
   ⟨some 0, .mv, [.t 101], none, []⟩])
 .ret))))))))))))))))))⟩
/- 0= 1=a 2=e 3=b 4=f 5=_ 6=g 7=c 8=h 9=_ 10=i 11=_ 12=k 13=d 14=l 15=one -/
/-! tonneau/stock.Take -/
def x9 : XF := ⟨27, [.cell 4 (.st (.cons (.int .i64) (.cons (.int .i64) (.sl (.st (.cons (.int .i64) (.cons (.int .i64) (.int .i64)))))))), .tmp 5], [0, 1, 2, 4, 5, 6],
 (.seq (.reg false [
   ⟨some 2, .box 24, [.t 0], none, []⟩,
   ⟨some 4, .alloc 24 (.st (.cons (.int .i64) (.cons (.int .i64) (.sl (.st (.cons (.int .i64) (.cons (.int .i64) (.int .i64)))))))), [], none, []⟩,
   ⟨some 5, .mv, [.int .i64 0], none, []⟩])
 (.seq (.icall false [
   ⟨some 7, .load (.st (.cons (.int .i64) (.cons (.int .i64) (.sl (.st (.cons (.int .i64) (.cons (.int .i64) (.int .i64)))))))), [.t 2], none, []⟩] ⟨some 8, .callv, [.fn 27, .t 7], none, []⟩ [
   ⟨some 6, .alloc 24 (.st (.cons (.int .i64) (.cons (.int .i64) (.sl (.st (.cons (.int .i64) (.cons (.int .i64) (.int .i64)))))))), [], none, []⟩,
   ⟨none, .store (.st (.cons (.int .i64) (.cons (.int .i64) (.sl (.st (.cons (.int .i64) (.cons (.int .i64) (.int .i64)))))))), [.t 6, .t 8], none, []⟩] 27 x27.n x27.res x27.kv x27.code)
 (.seq (.block 0 (.seq (.reg false [
    ⟨some 10, .load (.st (.cons (.int .i64) (.cons (.int .i64) (.sl (.st (.cons (.int .i64) (.cons (.int .i64) (.int .i64)))))))), [.t 2], none, []⟩,
    ⟨some 11, .mv, [.t 1], none, []⟩,
    ⟨some 12, .call 28, [.t 10, .int .i64 0, .t 11], none, []⟩,
    ⟨some 13, .not, [.t 12], none, []⟩,
    ⟨some 9, .mv, [.t 13], none, []⟩])
  (.cond (.t 9)
   (.seq (.reg false [
     ⟨some 14, .load (.st (.cons (.int .i64) (.cons (.int .i64) (.sl (.st (.cons (.int .i64) (.cons (.int .i64) (.int .i64)))))))), [.t 6], none, []⟩,
     ⟨none, .store (.st (.cons (.int .i64) (.cons (.int .i64) (.sl (.st (.cons (.int .i64) (.cons (.int .i64) (.int .i64)))))))), [.t 4, .t 14], none, []⟩,
     ⟨some 5, .mv, [.int .i64 1], none, []⟩])
   .ret)
   (.seq (.reg false [
     ⟨some 16, .load (.st (.cons (.int .i64) (.cons (.int .i64) (.sl (.st (.cons (.int .i64) (.cons (.int .i64) (.int .i64)))))))), [.t 2], none, []⟩,
     ⟨some 17, .call 20, [.t 16], none, []⟩,
     ⟨some 18, .mv, [.t 1], none, []⟩,
     ⟨some 19, .bin .lss, [.t 17, .t 18], none, []⟩,
     ⟨some 15, .mv, [.t 19], none, []⟩])
   (.cond (.t 15)
    (.seq (.reg false [
      ⟨some 20, .load (.st (.cons (.int .i64) (.cons (.int .i64) (.sl (.st (.cons (.int .i64) (.cons (.int .i64) (.int .i64)))))))), [.t 6], none, []⟩,
      ⟨none, .store (.st (.cons (.int .i64) (.cons (.int .i64) (.sl (.st (.cons (.int .i64) (.cons (.int .i64) (.int .i64)))))))), [.t 4, .t 20], none, []⟩,
      ⟨some 5, .mv, [.int .i64 21], none, []⟩])
    .ret)
    .skip)))))
 (.clean (.seq (.reg false [
   ⟨some 21, .faddr 1 (.int .i64), [.t 6], none, []⟩,
   ⟨some 22, .load (.int .i64), [.t 21], none, []⟩,
   ⟨some 23, .mv, [.t 1], none, []⟩,
   ⟨some 24, .bin .add, [.t 22, .t 23], none, []⟩,
   ⟨some 25, .faddr 1 (.int .i64), [.t 6], none, []⟩,
   ⟨none, .store (.int .i64), [.t 25, .t 24], none, []⟩])
 (.seq (.reg false [
   ⟨some 26, .load (.st (.cons (.int .i64) (.cons (.int .i64) (.sl (.st (.cons (.int .i64) (.cons (.int .i64) (.int .i64)))))))), [.t 6], none, []⟩,
   ⟨none, .store (.st (.cons (.int .i64) (.cons (.int .i64) (.sl (.st (.cons (.int .i64) (.cons (.int .i64) (.int .i64)))))))), [.t 4, .t 26], none, []⟩,
   ⟨some 5, .mv, [.int .i64 0], none, []⟩])
 .ret))))))⟩
/- 0=s 1=units 2=s 4= 5= 6=out -/
/-! tonneau/tonneauref40.Take -/
def x10 : XF := ⟨24, [.cell 4 (.st (.cons (.int .i64) (.cons (.int .i64) (.sl (.st (.cons (.int .i64) (.cons (.int .i64) (.int .i64)))))))), .tmp 5], [0, 1, 2, 4, 5],
 (.seq (.reg false [
   ⟨some 2, .box 24, [.t 0], none, []⟩,
   ⟨some 4, .alloc 24 (.st (.cons (.int .i64) (.cons (.int .i64) (.sl (.st (.cons (.int .i64) (.cons (.int .i64) (.int .i64)))))))), [], none, []⟩,
   ⟨some 5, .mv, [.int .i64 0], none, []⟩])
 (.seq (.seq (.reg false [
   ⟨some 6, .load (.st (.cons (.int .i64) (.cons (.int .i64) (.sl (.st (.cons (.int .i64) (.cons (.int .i64) (.int .i64)))))))), [.t 2], none, []⟩,
   ⟨some 7, .mv, [.t 1], none, []⟩,
   ⟨some 8, .call 29, [.t 6, .int .i64 0, .t 7], none, []⟩,
   ⟨some 9, .not, [.t 8], none, []⟩])
 (.cond (.t 9)
  (.seq (.reg false [
    ⟨some 10, .load (.st (.cons (.int .i64) (.cons (.int .i64) (.sl (.st (.cons (.int .i64) (.cons (.int .i64) (.int .i64)))))))), [.t 2], none, []⟩,
    ⟨none, .store (.st (.cons (.int .i64) (.cons (.int .i64) (.sl (.st (.cons (.int .i64) (.cons (.int .i64) (.int .i64)))))))), [.t 4, .t 10], none, []⟩,
    ⟨some 5, .mv, [.int .i64 1], none, []⟩])
  .ret)
  .skip))
 (.clean (.seq (.seq (.reg false [
   ⟨some 11, .load (.st (.cons (.int .i64) (.cons (.int .i64) (.sl (.st (.cons (.int .i64) (.cons (.int .i64) (.int .i64)))))))), [.t 2], none, []⟩,
   ⟨some 12, .call 21, [.t 11], none, []⟩,
   ⟨some 13, .mv, [.t 1], none, []⟩,
   ⟨some 14, .bin .lss, [.t 12, .t 13], none, []⟩])
 (.cond (.t 14)
  (.seq (.reg false [
    ⟨some 15, .load (.st (.cons (.int .i64) (.cons (.int .i64) (.sl (.st (.cons (.int .i64) (.cons (.int .i64) (.int .i64)))))))), [.t 2], none, []⟩,
    ⟨none, .store (.st (.cons (.int .i64) (.cons (.int .i64) (.sl (.st (.cons (.int .i64) (.cons (.int .i64) (.int .i64)))))))), [.t 4, .t 15], none, []⟩,
    ⟨some 5, .mv, [.int .i64 21], none, []⟩])
  .ret)
  .skip))
 (.clean (.seq (.icall false [
   ⟨some 16, .load (.st (.cons (.int .i64) (.cons (.int .i64) (.sl (.st (.cons (.int .i64) (.cons (.int .i64) (.int .i64)))))))), [.t 2], none, []⟩] ⟨some 17, .callv, [.fn 26, .t 16], none, []⟩ [
   ⟨none, .store (.st (.cons (.int .i64) (.cons (.int .i64) (.sl (.st (.cons (.int .i64) (.cons (.int .i64) (.int .i64)))))))), [.t 2, .t 17], none, []⟩] 26 x26.n x26.res x26.kv x26.code)
 (.seq (.reg false [
   ⟨some 18, .faddr 1 (.int .i64), [.t 2], none, []⟩,
   ⟨some 19, .load (.int .i64), [.t 18], none, []⟩,
   ⟨some 20, .mv, [.t 1], none, []⟩,
   ⟨some 21, .bin .add, [.t 19, .t 20], none, []⟩,
   ⟨some 22, .faddr 1 (.int .i64), [.t 2], none, []⟩,
   ⟨none, .store (.int .i64), [.t 22, .t 21], none, []⟩])
 (.seq (.reg false [
   ⟨some 23, .load (.st (.cons (.int .i64) (.cons (.int .i64) (.sl (.st (.cons (.int .i64) (.cons (.int .i64) (.int .i64)))))))), [.t 2], none, []⟩,
   ⟨none, .store (.st (.cons (.int .i64) (.cons (.int .i64) (.sl (.st (.cons (.int .i64) (.cons (.int .i64) (.int .i64)))))))), [.t 4, .t 23], none, []⟩,
   ⟨some 5, .mv, [.int .i64 0], none, []⟩])
 .ret))))))))⟩
/- 0=s 1=units 2=s 4= 5= -/
/-! tonneau/stock.Lend -/
def x11 : XF := ⟨53, [.cell 6 (.st (.cons (.int .i64) (.cons (.int .i64) (.sl (.st (.cons (.int .i64) (.cons (.int .i64) (.int .i64)))))))), .tmp 7], [0, 1, 2, 3, 6, 7, 8, 9, 10],
 (.seq (.reg false [
   ⟨some 3, .box 24, [.t 0], none, []⟩,
   ⟨some 6, .alloc 24 (.st (.cons (.int .i64) (.cons (.int .i64) (.sl (.st (.cons (.int .i64) (.cons (.int .i64) (.int .i64)))))))), [], none, []⟩,
   ⟨some 7, .mv, [.int .i64 0], none, []⟩])
 (.seq (.icall false [
   ⟨some 11, .load (.st (.cons (.int .i64) (.cons (.int .i64) (.sl (.st (.cons (.int .i64) (.cons (.int .i64) (.int .i64)))))))), [.t 3], none, []⟩] ⟨some 12, .callv, [.fn 27, .t 11], none, []⟩ [
   ⟨some 8, .alloc 24 (.st (.cons (.int .i64) (.cons (.int .i64) (.sl (.st (.cons (.int .i64) (.cons (.int .i64) (.int .i64)))))))), [], none, []⟩,
   ⟨none, .store (.st (.cons (.int .i64) (.cons (.int .i64) (.sl (.st (.cons (.int .i64) (.cons (.int .i64) (.int .i64)))))))), [.t 8, .t 12], none, []⟩] 27 x27.n x27.res x27.kv x27.code)
 (.seq (.block 0 (.seq (.reg false [
    ⟨some 14, .load (.st (.cons (.int .i64) (.cons (.int .i64) (.sl (.st (.cons (.int .i64) (.cons (.int .i64) (.int .i64)))))))), [.t 3], none, []⟩,
    ⟨some 15, .mv, [.t 1], none, []⟩,
    ⟨some 16, .mv, [.t 2], none, []⟩,
    ⟨some 17, .call 28, [.t 14, .t 15, .t 16], none, []⟩,
    ⟨some 18, .not, [.t 17], none, []⟩,
    ⟨some 13, .mv, [.t 18], none, []⟩])
  (.cond (.t 13)
   (.seq (.reg false [
     ⟨some 19, .load (.st (.cons (.int .i64) (.cons (.int .i64) (.sl (.st (.cons (.int .i64) (.cons (.int .i64) (.int .i64)))))))), [.t 8], none, []⟩,
     ⟨none, .store (.st (.cons (.int .i64) (.cons (.int .i64) (.sl (.st (.cons (.int .i64) (.cons (.int .i64) (.int .i64)))))))), [.t 6, .t 19], none, []⟩,
     ⟨some 7, .mv, [.int .i64 1], none, []⟩])
   .ret)
   (.seq (.reg false [
     ⟨some 21, .load (.st (.cons (.int .i64) (.cons (.int .i64) (.sl (.st (.cons (.int .i64) (.cons (.int .i64) (.int .i64)))))))), [.t 3], none, []⟩,
     ⟨some 22, .call 20, [.t 21], none, []⟩,
     ⟨some 23, .mv, [.t 2], none, []⟩,
     ⟨some 24, .bin .lss, [.t 22, .t 23], none, []⟩,
     ⟨some 20, .mv, [.t 24], none, []⟩])
   (.cond (.t 20)
    (.seq (.reg false [
      ⟨some 25, .load (.st (.cons (.int .i64) (.cons (.int .i64) (.sl (.st (.cons (.int .i64) (.cons (.int .i64) (.int .i64)))))))), [.t 8], none, []⟩,
      ⟨none, .store (.st (.cons (.int .i64) (.cons (.int .i64) (.sl (.st (.cons (.int .i64) (.cons (.int .i64) (.int .i64)))))))), [.t 6, .t 25], none, []⟩,
      ⟨some 7, .mv, [.int .i64 21], none, []⟩])
    .ret)
    .skip)))))
 (.clean (.seq (.reg false [
   ⟨some 27, .load (.st (.cons (.int .i64) (.cons (.int .i64) (.sl (.st (.cons (.int .i64) (.cons (.int .i64) (.int .i64)))))))), [.t 8], none, []⟩,
   ⟨some 28, .mv, [.t 1], none, []⟩,
   ⟨some 29, .call 30, [.t 27, .t 28], none, []⟩,
   ⟨some 26, .mv, [.t 29], none, []⟩,
   ⟨some 30, .extract 0, [.t 26], none, []⟩,
   ⟨some 31, .extract 1, [.t 26], none, []⟩,
   ⟨some 9, .mv, [.t 30], none, []⟩,
   ⟨some 10, .mv, [.t 31], none, []⟩])
 (.clean (.seq (.seq (.reg false [
   ⟨some 32, .mv, [.t 10], none, []⟩,
   ⟨some 33, .not, [.t 32], none, []⟩])
 (.cond (.t 33)
  (.reg false [
    ⟨some 34, .faddr 2 (.sl (.st (.cons (.int .i64) (.cons (.int .i64) (.int .i64))))), [.t 8], none, []⟩,
    ⟨some 35, .load (.sl (.st (.cons (.int .i64) (.cons (.int .i64) (.int .i64))))), [.t 34], none, []⟩,
    ⟨some 36, .mv, [.t 9], none, []⟩,
    ⟨some 37, .mv, [.t 1], none, []⟩,
    ⟨some 38, .build (.st (.cons (.int .i64) (.cons (.int .i64) (.int .i64)))) [(0, (.int .i64))], [.t 37], none, []⟩,
    ⟨some 39, .bslice 41 (.st (.cons (.int .i64) (.cons (.int .i64) (.int .i64)))) 1 [0], [.t 38], none, []⟩,
    ⟨some 40, .call 31, [.t 35, .t 36, .t 39], none, []⟩,
    ⟨some 41, .faddr 2 (.sl (.st (.cons (.int .i64) (.cons (.int .i64) (.int .i64))))), [.t 8], none, []⟩,
    ⟨none, .store (.sl (.st (.cons (.int .i64) (.cons (.int .i64) (.int .i64))))), [.t 41, .t 40], none, []⟩])
  .skip))
 (.clean (.seq (.reg false [
   ⟨some 42, .faddr 2 (.sl (.st (.cons (.int .i64) (.cons (.int .i64) (.int .i64))))), [.t 8], none, []⟩,
   ⟨some 43, .load (.sl (.st (.cons (.int .i64) (.cons (.int .i64) (.int .i64))))), [.t 42], none, []⟩,
   ⟨some 44, .mv, [.t 9], none, []⟩,
   ⟨some 45, .iaddr (.st (.cons (.int .i64) (.cons (.int .i64) (.int .i64)))), [.t 43, .t 44], none, []⟩,
   ⟨some 46, .faddr 1 (.int .i64), [.t 45], none, []⟩,
   ⟨some 47, .load (.int .i64), [.t 46], none, []⟩,
   ⟨some 48, .mv, [.t 2], none, []⟩,
   ⟨some 49, .bin .add, [.t 47, .t 48], none, []⟩,
   ⟨some 50, .iaddr (.st (.cons (.int .i64) (.cons (.int .i64) (.int .i64)))), [.t 43, .t 44], none, []⟩,
   ⟨some 51, .faddr 1 (.int .i64), [.t 50], none, []⟩,
   ⟨none, .store (.int .i64), [.t 51, .t 49], none, []⟩])
 (.seq (.reg false [
   ⟨some 52, .load (.st (.cons (.int .i64) (.cons (.int .i64) (.sl (.st (.cons (.int .i64) (.cons (.int .i64) (.int .i64)))))))), [.t 8], none, []⟩,
   ⟨none, .store (.st (.cons (.int .i64) (.cons (.int .i64) (.sl (.st (.cons (.int .i64) (.cons (.int .i64) (.int .i64)))))))), [.t 6, .t 52], none, []⟩,
   ⟨some 7, .mv, [.int .i64 0], none, []⟩])
 .ret))))))))))⟩
/- 0=s 1=phone 2=units 3=s 6= 7= 8=out 9=i 10=had -/
/-! tonneau/tonneauref40.Lend -/
def x12_0 : XC := (.seq (.seq (.reg false [
   ⟨some 28, .mv, [.t 10], none, []⟩,
   ⟨some 29, .faddr 2 (.sl (.st (.cons (.int .i64) (.cons (.int .i64) (.int .i64))))), [.t 3], none, []⟩,
   ⟨some 30, .load (.sl (.st (.cons (.int .i64) (.cons (.int .i64) (.int .i64))))), [.t 29], none, []⟩,
   ⟨some 31, .len false, [.t 30], none, []⟩,
   ⟨some 32, .bin .lss, [.t 28, .t 31], none, []⟩])
 (.cond (.t 32)
  .skip
  (.exit 0)))
 (.clean (.seq (.block 1 (.seq (.reg false [
    ⟨some 35, .faddr 2 (.sl (.st (.cons (.int .i64) (.cons (.int .i64) (.int .i64))))), [.t 3], none, []⟩,
    ⟨some 36, .load (.sl (.st (.cons (.int .i64) (.cons (.int .i64) (.int .i64))))), [.t 35], none, []⟩,
    ⟨some 37, .mv, [.t 10], none, []⟩,
    ⟨some 38, .iaddr (.st (.cons (.int .i64) (.cons (.int .i64) (.int .i64)))), [.t 36, .t 37], none, []⟩,
    ⟨some 39, .load (.st (.cons (.int .i64) (.cons (.int .i64) (.int .i64)))), [.t 38], none, []⟩,
    ⟨some 11, .alloc 41 (.st (.cons (.int .i64) (.cons (.int .i64) (.int .i64)))), [], none, []⟩,
    ⟨none, .store (.st (.cons (.int .i64) (.cons (.int .i64) (.int .i64)))), [.t 11, .t 39], none, []⟩])
  (.clean (.seq (.seq (.reg false [
    ⟨some 40, .faddr 0 (.int .i64), [.t 11], none, []⟩,
    ⟨some 41, .load (.int .i64), [.t 40], none, []⟩,
    ⟨some 42, .mv, [.t 1], none, []⟩,
    ⟨some 43, .bin .gtr, [.t 41, .t 42], none, []⟩,
    ⟨some 44, .mv, [.t 43], none, []⟩,
    ⟨some 45, .mv, [.t 9], some (4, 44, true), []⟩,
    ⟨some 46, .not, [.t 45], some (4, 44, true), []⟩,
    ⟨some 47, .pick, [.t 44, .t 46, .bool false], none, []⟩])
  (.cond (.t 47)
   (.seq (.reg false [
     ⟨some 48, .faddr 2 (.sl (.st (.cons (.int .i64) (.cons (.int .i64) (.int .i64))))), [.t 8], none, []⟩,
     ⟨some 49, .load (.sl (.st (.cons (.int .i64) (.cons (.int .i64) (.int .i64))))), [.t 48], none, []⟩,
     ⟨some 50, .mv, [.t 1], none, []⟩,
     ⟨some 51, .mv, [.t 2], none, []⟩,
     ⟨some 52, .build (.st (.cons (.int .i64) (.cons (.int .i64) (.int .i64)))) [(0, (.int .i64)), (1, (.int .i64))], [.t 50, .t 51], none, []⟩,
     ⟨some 53, .bslice 41 (.st (.cons (.int .i64) (.cons (.int .i64) (.int .i64)))) 1 [0], [.t 52], none, []⟩,
     ⟨some 54, .append 41 (.st (.cons (.int .i64) (.cons (.int .i64) (.int .i64)))) 24, [.t 49, .t 53], none, []⟩,
     ⟨some 55, .faddr 2 (.sl (.st (.cons (.int .i64) (.cons (.int .i64) (.int .i64))))), [.t 8], none, []⟩,
     ⟨none, .store (.sl (.st (.cons (.int .i64) (.cons (.int .i64) (.int .i64))))), [.t 55, .t 54], none, []⟩])
   (.reg false [
     ⟨some 9, .mv, [.bool true], none, []⟩]))
   .skip))
  (.clean (.seq (.seq (.reg false [
    ⟨some 56, .faddr 0 (.int .i64), [.t 11], none, []⟩,
    ⟨some 57, .load (.int .i64), [.t 56], none, []⟩,
    ⟨some 58, .mv, [.t 1], none, []⟩,
    ⟨some 59, .bin .eql, [.t 57, .t 58], none, []⟩])
  (.cond (.t 59)
   (.seq (.reg false [
     ⟨some 60, .faddr 1 (.int .i64), [.t 11], none, []⟩,
     ⟨some 61, .load (.int .i64), [.t 60], none, []⟩,
     ⟨some 62, .mv, [.t 2], none, []⟩,
     ⟨some 63, .bin .add, [.t 61, .t 62], none, []⟩,
     ⟨some 64, .faddr 1 (.int .i64), [.t 11], none, []⟩,
     ⟨none, .store (.int .i64), [.t 64, .t 63], none, []⟩])
   (.reg false [
     ⟨some 9, .mv, [.bool true], none, []⟩]))
   .skip))
  (.clean (.reg false [
    ⟨some 65, .faddr 2 (.sl (.st (.cons (.int .i64) (.cons (.int .i64) (.int .i64))))), [.t 8], none, []⟩,
    ⟨some 66, .load (.sl (.st (.cons (.int .i64) (.cons (.int .i64) (.int .i64))))), [.t 65], none, []⟩,
    ⟨some 67, .load (.st (.cons (.int .i64) (.cons (.int .i64) (.int .i64)))), [.t 11], none, []⟩,
    ⟨some 68, .bslice 41 (.st (.cons (.int .i64) (.cons (.int .i64) (.int .i64)))) 1 [0], [.t 67], none, []⟩,
    ⟨some 69, .append 41 (.st (.cons (.int .i64) (.cons (.int .i64) (.int .i64)))) 24, [.t 66, .t 68], none, []⟩,
    ⟨some 70, .faddr 2 (.sl (.st (.cons (.int .i64) (.cons (.int .i64) (.int .i64))))), [.t 8], none, []⟩,
    ⟨none, .store (.sl (.st (.cons (.int .i64) (.cons (.int .i64) (.int .i64))))), [.t 70, .t 69], none, []⟩]))))))))
 (.clean (.reg false [
   ⟨some 33, .mv, [.t 10], none, []⟩,
   ⟨some 34, .bin .add, [.t 33, .int .i64 1], none, []⟩,
   ⟨some 10, .mv, [.t 34], none, []⟩])))))
def x12_0d : List Nat := [9, 10, 11]
def x12 : XF := ⟨82, [.cell 6 (.st (.cons (.int .i64) (.cons (.int .i64) (.sl (.st (.cons (.int .i64) (.cons (.int .i64) (.int .i64)))))))), .tmp 7], [0, 1, 2, 3, 6, 7, 8, 9, 10, 11],
 (.seq (.reg false [
   ⟨some 3, .box 24, [.t 0], none, []⟩,
   ⟨some 6, .alloc 24 (.st (.cons (.int .i64) (.cons (.int .i64) (.sl (.st (.cons (.int .i64) (.cons (.int .i64) (.int .i64)))))))), [], none, []⟩,
   ⟨some 7, .mv, [.int .i64 0], none, []⟩])
 (.seq (.seq (.reg false [
   ⟨some 12, .load (.st (.cons (.int .i64) (.cons (.int .i64) (.sl (.st (.cons (.int .i64) (.cons (.int .i64) (.int .i64)))))))), [.t 3], none, []⟩,
   ⟨some 13, .mv, [.t 1], none, []⟩,
   ⟨some 14, .mv, [.t 2], none, []⟩,
   ⟨some 15, .call 29, [.t 12, .t 13, .t 14], none, []⟩,
   ⟨some 16, .not, [.t 15], none, []⟩])
 (.cond (.t 16)
  (.seq (.reg false [
    ⟨some 17, .load (.st (.cons (.int .i64) (.cons (.int .i64) (.sl (.st (.cons (.int .i64) (.cons (.int .i64) (.int .i64)))))))), [.t 3], none, []⟩,
    ⟨none, .store (.st (.cons (.int .i64) (.cons (.int .i64) (.sl (.st (.cons (.int .i64) (.cons (.int .i64) (.int .i64)))))))), [.t 6, .t 17], none, []⟩,
    ⟨some 7, .mv, [.int .i64 1], none, []⟩])
  .ret)
  .skip))
 (.clean (.seq (.seq (.reg false [
   ⟨some 18, .load (.st (.cons (.int .i64) (.cons (.int .i64) (.sl (.st (.cons (.int .i64) (.cons (.int .i64) (.int .i64)))))))), [.t 3], none, []⟩,
   ⟨some 19, .call 21, [.t 18], none, []⟩,
   ⟨some 20, .mv, [.t 2], none, []⟩,
   ⟨some 21, .bin .lss, [.t 19, .t 20], none, []⟩])
 (.cond (.t 21)
  (.seq (.reg false [
    ⟨some 22, .load (.st (.cons (.int .i64) (.cons (.int .i64) (.sl (.st (.cons (.int .i64) (.cons (.int .i64) (.int .i64)))))))), [.t 3], none, []⟩,
    ⟨none, .store (.st (.cons (.int .i64) (.cons (.int .i64) (.sl (.st (.cons (.int .i64) (.cons (.int .i64) (.int .i64)))))))), [.t 6, .t 22], none, []⟩,
    ⟨some 7, .mv, [.int .i64 21], none, []⟩])
  .ret)
  .skip))
 (.clean (.seq (.reg false [
   ⟨some 23, .faddr 0 (.int .i64), [.t 3], none, []⟩,
   ⟨some 24, .load (.int .i64), [.t 23], none, []⟩,
   ⟨some 25, .faddr 1 (.int .i64), [.t 3], none, []⟩,
   ⟨some 26, .load (.int .i64), [.t 25], none, []⟩,
   ⟨some 27, .build (.st (.cons (.int .i64) (.cons (.int .i64) (.sl (.st (.cons (.int .i64) (.cons (.int .i64) (.int .i64)))))))) [(0, (.int .i64)), (1, (.int .i64))], [.t 24, .t 26], none, []⟩,
   ⟨some 8, .alloc 24 (.st (.cons (.int .i64) (.cons (.int .i64) (.sl (.st (.cons (.int .i64) (.cons (.int .i64) (.int .i64)))))))), [], none, []⟩,
   ⟨none, .store (.st (.cons (.int .i64) (.cons (.int .i64) (.sl (.st (.cons (.int .i64) (.cons (.int .i64) (.int .i64)))))))), [.t 8, .t 27], none, []⟩])
 (.clean (.seq (.reg false [
   ⟨some 9, .mv, [.bool false], none, []⟩])
 (.seq (.seq (.reg false [
   ⟨some 10, .mv, [.int .i64 0], none, []⟩])
 (.block 0 (.loop x12_0)))
 (.clean (.seq (.seq (.reg false [
   ⟨some 71, .mv, [.t 9], none, []⟩,
   ⟨some 72, .not, [.t 71], none, []⟩])
 (.cond (.t 72)
  (.reg false [
    ⟨some 73, .faddr 2 (.sl (.st (.cons (.int .i64) (.cons (.int .i64) (.int .i64))))), [.t 8], none, []⟩,
    ⟨some 74, .load (.sl (.st (.cons (.int .i64) (.cons (.int .i64) (.int .i64))))), [.t 73], none, []⟩,
    ⟨some 75, .mv, [.t 1], none, []⟩,
    ⟨some 76, .mv, [.t 2], none, []⟩,
    ⟨some 77, .build (.st (.cons (.int .i64) (.cons (.int .i64) (.int .i64)))) [(0, (.int .i64)), (1, (.int .i64))], [.t 75, .t 76], none, []⟩,
    ⟨some 78, .bslice 41 (.st (.cons (.int .i64) (.cons (.int .i64) (.int .i64)))) 1 [0], [.t 77], none, []⟩,
    ⟨some 79, .append 41 (.st (.cons (.int .i64) (.cons (.int .i64) (.int .i64)))) 24, [.t 74, .t 78], none, []⟩,
    ⟨some 80, .faddr 2 (.sl (.st (.cons (.int .i64) (.cons (.int .i64) (.int .i64))))), [.t 8], none, []⟩,
    ⟨none, .store (.sl (.st (.cons (.int .i64) (.cons (.int .i64) (.int .i64))))), [.t 80, .t 79], none, []⟩])
  .skip))
 (.seq (.reg false [
   ⟨some 81, .load (.st (.cons (.int .i64) (.cons (.int .i64) (.sl (.st (.cons (.int .i64) (.cons (.int .i64) (.int .i64)))))))), [.t 8], none, []⟩,
   ⟨none, .store (.st (.cons (.int .i64) (.cons (.int .i64) (.sl (.st (.cons (.int .i64) (.cons (.int .i64) (.int .i64)))))))), [.t 6, .t 81], none, []⟩,
   ⟨some 7, .mv, [.int .i64 0], none, []⟩])
 .ret))))))))))))⟩
/- 0=s 1=phone 2=units 3=s 6= 7= 8=out 9=put 10=i 11=l -/
/-! tonneau/stock.Use -/
def x13 : XF := ⟨54, [.cell 6 (.st (.cons (.int .i64) (.cons (.int .i64) (.sl (.st (.cons (.int .i64) (.cons (.int .i64) (.int .i64)))))))), .tmp 7], [0, 1, 2, 3, 6, 7, 8, 9, 10, 11],
 (.seq (.reg false [
   ⟨some 3, .box 24, [.t 0], none, []⟩,
   ⟨some 6, .alloc 24 (.st (.cons (.int .i64) (.cons (.int .i64) (.sl (.st (.cons (.int .i64) (.cons (.int .i64) (.int .i64)))))))), [], none, []⟩,
   ⟨some 7, .mv, [.int .i64 0], none, []⟩])
 (.seq (.icall false [
   ⟨some 12, .load (.st (.cons (.int .i64) (.cons (.int .i64) (.sl (.st (.cons (.int .i64) (.cons (.int .i64) (.int .i64)))))))), [.t 3], none, []⟩] ⟨some 13, .callv, [.fn 27, .t 12], none, []⟩ [
   ⟨some 8, .alloc 24 (.st (.cons (.int .i64) (.cons (.int .i64) (.sl (.st (.cons (.int .i64) (.cons (.int .i64) (.int .i64)))))))), [], none, []⟩,
   ⟨none, .store (.st (.cons (.int .i64) (.cons (.int .i64) (.sl (.st (.cons (.int .i64) (.cons (.int .i64) (.int .i64)))))))), [.t 8, .t 13], none, []⟩] 27 x27.n x27.res x27.kv x27.code)
 (.seq (.seq (.reg false [
   ⟨some 14, .load (.st (.cons (.int .i64) (.cons (.int .i64) (.sl (.st (.cons (.int .i64) (.cons (.int .i64) (.int .i64)))))))), [.t 3], none, []⟩,
   ⟨some 15, .mv, [.t 1], none, []⟩,
   ⟨some 16, .mv, [.t 2], none, []⟩,
   ⟨some 17, .call 28, [.t 14, .t 15, .t 16], none, []⟩,
   ⟨some 18, .not, [.t 17], none, []⟩])
 (.cond (.t 18)
  (.seq (.reg false [
    ⟨some 19, .load (.st (.cons (.int .i64) (.cons (.int .i64) (.sl (.st (.cons (.int .i64) (.cons (.int .i64) (.int .i64)))))))), [.t 8], none, []⟩,
    ⟨none, .store (.st (.cons (.int .i64) (.cons (.int .i64) (.sl (.st (.cons (.int .i64) (.cons (.int .i64) (.int .i64)))))))), [.t 6, .t 19], none, []⟩,
    ⟨some 7, .mv, [.int .i64 1], none, []⟩])
  .ret)
  .skip))
 (.clean (.seq (.reg false [
   ⟨some 21, .load (.st (.cons (.int .i64) (.cons (.int .i64) (.sl (.st (.cons (.int .i64) (.cons (.int .i64) (.int .i64)))))))), [.t 8], none, []⟩,
   ⟨some 22, .mv, [.t 1], none, []⟩,
   ⟨some 23, .call 30, [.t 21, .t 22], none, []⟩,
   ⟨some 20, .mv, [.t 23], none, []⟩,
   ⟨some 24, .extract 0, [.t 20], none, []⟩,
   ⟨some 25, .extract 1, [.t 20], none, []⟩,
   ⟨some 9, .mv, [.t 24], none, []⟩,
   ⟨some 10, .mv, [.t 25], none, []⟩])
 (.clean (.seq (.seq (.reg false [
   ⟨some 26, .mv, [.t 10], none, []⟩,
   ⟨some 27, .not, [.t 26], none, []⟩])
 (.cond (.t 27)
  (.seq (.reg false [
    ⟨some 28, .load (.st (.cons (.int .i64) (.cons (.int .i64) (.sl (.st (.cons (.int .i64) (.cons (.int .i64) (.int .i64)))))))), [.t 8], none, []⟩,
    ⟨none, .store (.st (.cons (.int .i64) (.cons (.int .i64) (.sl (.st (.cons (.int .i64) (.cons (.int .i64) (.int .i64)))))))), [.t 6, .t 28], none, []⟩,
    ⟨some 7, .mv, [.int .i64 4], none, []⟩])
  .ret)
  .skip))
 (.seq (.reg false [
   ⟨some 29, .faddr 2 (.sl (.st (.cons (.int .i64) (.cons (.int .i64) (.int .i64))))), [.t 8], none, []⟩,
   ⟨some 30, .load (.sl (.st (.cons (.int .i64) (.cons (.int .i64) (.int .i64))))), [.t 29], none, []⟩,
   ⟨some 31, .mv, [.t 9], none, []⟩,
   ⟨some 32, .iaddr (.st (.cons (.int .i64) (.cons (.int .i64) (.int .i64)))), [.t 30, .t 31], none, []⟩,
   ⟨some 11, .mv, [.t 32], none, []⟩])
 (.seq (.seq (.reg true [
   ⟨some 33, .mv, [.t 11], none, []⟩,
   ⟨some 34, .nilck, [.t 33], none, [0]⟩,
   ⟨some 35, .faddr 1 (.int .i64), [.t 34], none, [1, 0]⟩,
   ⟨some 36, .load (.int .i64), [.t 35], none, [2, 1, 0]⟩,
   ⟨some 37, .mv, [.t 11], none, []⟩,
   ⟨some 38, .nilck, [.t 37], none, [4]⟩,
   ⟨some 39, .faddr 2 (.int .i64), [.t 38], none, [5, 4]⟩,
   ⟨some 40, .load (.int .i64), [.t 39], none, [6, 5, 4]⟩,
   ⟨some 41, .bin .sub, [.t 36, .t 40], none, [3, 2, 1, 0, 7, 6, 5, 4]⟩,
   ⟨some 42, .mv, [.t 2], none, []⟩,
   ⟨some 43, .bin .lss, [.t 41, .t 42], none, [8, 3, 2, 1, 0, 7, 6, 5, 4, 9]⟩])
 (.cond (.t 43)
  (.seq (.reg false [
    ⟨some 44, .load (.st (.cons (.int .i64) (.cons (.int .i64) (.sl (.st (.cons (.int .i64) (.cons (.int .i64) (.int .i64)))))))), [.t 8], none, []⟩,
    ⟨none, .store (.st (.cons (.int .i64) (.cons (.int .i64) (.sl (.st (.cons (.int .i64) (.cons (.int .i64) (.int .i64)))))))), [.t 6, .t 44], none, []⟩,
    ⟨some 7, .mv, [.int .i64 21], none, []⟩])
  .ret)
  .skip))
 (.clean (.seq (.reg false [
   ⟨some 45, .mv, [.t 11], none, []⟩,
   ⟨some 46, .nilck, [.t 45], none, []⟩,
   ⟨some 47, .faddr 2 (.int .i64), [.t 46], none, []⟩,
   ⟨some 48, .load (.int .i64), [.t 47], none, []⟩,
   ⟨some 49, .mv, [.t 2], none, []⟩,
   ⟨some 50, .bin .add, [.t 48, .t 49], none, []⟩,
   ⟨some 51, .nilck, [.t 45], none, []⟩,
   ⟨some 52, .faddr 2 (.int .i64), [.t 51], none, []⟩,
   ⟨none, .store (.int .i64), [.t 52, .t 50], none, []⟩])
 (.seq (.reg false [
   ⟨some 53, .load (.st (.cons (.int .i64) (.cons (.int .i64) (.sl (.st (.cons (.int .i64) (.cons (.int .i64) (.int .i64)))))))), [.t 8], none, []⟩,
   ⟨none, .store (.st (.cons (.int .i64) (.cons (.int .i64) (.sl (.st (.cons (.int .i64) (.cons (.int .i64) (.int .i64)))))))), [.t 6, .t 53], none, []⟩,
   ⟨some 7, .mv, [.int .i64 0], none, []⟩])
 .ret))))))))))))⟩
/- 0=s 1=phone 2=units 3=s 6= 7= 8=out 9=i 10=had 11=l -/
/-! tonneau/tonneauref40.Use -/
def x14 : XF := ⟨53, [.cell 6 (.st (.cons (.int .i64) (.cons (.int .i64) (.sl (.st (.cons (.int .i64) (.cons (.int .i64) (.int .i64)))))))), .tmp 7], [0, 1, 2, 3, 6, 7, 8],
 (.seq (.reg false [
   ⟨some 3, .box 24, [.t 0], none, []⟩,
   ⟨some 6, .alloc 24 (.st (.cons (.int .i64) (.cons (.int .i64) (.sl (.st (.cons (.int .i64) (.cons (.int .i64) (.int .i64)))))))), [], none, []⟩,
   ⟨some 7, .mv, [.int .i64 0], none, []⟩])
 (.seq (.seq (.reg false [
   ⟨some 9, .load (.st (.cons (.int .i64) (.cons (.int .i64) (.sl (.st (.cons (.int .i64) (.cons (.int .i64) (.int .i64)))))))), [.t 3], none, []⟩,
   ⟨some 10, .mv, [.t 1], none, []⟩,
   ⟨some 11, .mv, [.t 2], none, []⟩,
   ⟨some 12, .call 29, [.t 9, .t 10, .t 11], none, []⟩,
   ⟨some 13, .not, [.t 12], none, []⟩])
 (.cond (.t 13)
  (.seq (.reg false [
    ⟨some 14, .load (.st (.cons (.int .i64) (.cons (.int .i64) (.sl (.st (.cons (.int .i64) (.cons (.int .i64) (.int .i64)))))))), [.t 3], none, []⟩,
    ⟨none, .store (.st (.cons (.int .i64) (.cons (.int .i64) (.sl (.st (.cons (.int .i64) (.cons (.int .i64) (.int .i64)))))))), [.t 6, .t 14], none, []⟩,
    ⟨some 7, .mv, [.int .i64 1], none, []⟩])
  .ret)
  .skip))
 (.clean (.seq (.reg false [
   ⟨some 15, .load (.st (.cons (.int .i64) (.cons (.int .i64) (.sl (.st (.cons (.int .i64) (.cons (.int .i64) (.int .i64)))))))), [.t 3], none, []⟩,
   ⟨some 16, .mv, [.t 1], none, []⟩,
   ⟨some 17, .call 32, [.t 15, .t 16], none, []⟩,
   ⟨some 8, .mv, [.t 17], none, []⟩])
 (.seq (.seq (.reg false [
   ⟨some 18, .mv, [.t 8], none, []⟩,
   ⟨some 19, .bin .lss, [.t 18, .int .i64 0], none, []⟩])
 (.cond (.t 19)
  (.seq (.reg false [
    ⟨some 20, .load (.st (.cons (.int .i64) (.cons (.int .i64) (.sl (.st (.cons (.int .i64) (.cons (.int .i64) (.int .i64)))))))), [.t 3], none, []⟩,
    ⟨none, .store (.st (.cons (.int .i64) (.cons (.int .i64) (.sl (.st (.cons (.int .i64) (.cons (.int .i64) (.int .i64)))))))), [.t 6, .t 20], none, []⟩,
    ⟨some 7, .mv, [.int .i64 4], none, []⟩])
  .ret)
  .skip))
 (.seq (.seq (.reg true [
   ⟨some 21, .faddr 2 (.sl (.st (.cons (.int .i64) (.cons (.int .i64) (.int .i64))))), [.t 3], none, []⟩,
   ⟨some 22, .load (.sl (.st (.cons (.int .i64) (.cons (.int .i64) (.int .i64))))), [.t 21], none, [0]⟩,
   ⟨some 23, .mv, [.t 8], none, []⟩,
   ⟨some 24, .iaddr (.st (.cons (.int .i64) (.cons (.int .i64) (.int .i64)))), [.t 22, .t 23], none, [1, 0, 2]⟩,
   ⟨some 25, .faddr 1 (.int .i64), [.t 24], none, [3, 1, 0, 2]⟩,
   ⟨some 26, .load (.int .i64), [.t 25], none, [4, 3, 1, 0, 2]⟩,
   ⟨some 27, .faddr 2 (.sl (.st (.cons (.int .i64) (.cons (.int .i64) (.int .i64))))), [.t 3], none, []⟩,
   ⟨some 28, .load (.sl (.st (.cons (.int .i64) (.cons (.int .i64) (.int .i64))))), [.t 27], none, [6]⟩,
   ⟨some 29, .mv, [.t 8], none, []⟩,
   ⟨some 30, .iaddr (.st (.cons (.int .i64) (.cons (.int .i64) (.int .i64)))), [.t 28, .t 29], none, [7, 6, 8]⟩,
   ⟨some 31, .faddr 2 (.int .i64), [.t 30], none, [9, 7, 6, 8]⟩,
   ⟨some 32, .load (.int .i64), [.t 31], none, [10, 9, 7, 6, 8]⟩,
   ⟨some 33, .bin .sub, [.t 26, .t 32], none, [5, 4, 3, 1, 0, 2, 11, 10, 9, 7, 6, 8]⟩,
   ⟨some 34, .mv, [.t 2], none, []⟩,
   ⟨some 35, .bin .lss, [.t 33, .t 34], none, [12, 5, 4, 3, 1, 0, 2, 11, 10, 9, 7, 6, 8, 13]⟩])
 (.cond (.t 35)
  (.seq (.reg false [
    ⟨some 36, .load (.st (.cons (.int .i64) (.cons (.int .i64) (.sl (.st (.cons (.int .i64) (.cons (.int .i64) (.int .i64)))))))), [.t 3], none, []⟩,
    ⟨none, .store (.st (.cons (.int .i64) (.cons (.int .i64) (.sl (.st (.cons (.int .i64) (.cons (.int .i64) (.int .i64)))))))), [.t 6, .t 36], none, []⟩,
    ⟨some 7, .mv, [.int .i64 21], none, []⟩])
  .ret)
  .skip))
 (.clean (.seq (.icall false [
   ⟨some 37, .load (.st (.cons (.int .i64) (.cons (.int .i64) (.sl (.st (.cons (.int .i64) (.cons (.int .i64) (.int .i64)))))))), [.t 3], none, []⟩] ⟨some 38, .callv, [.fn 26, .t 37], none, []⟩ [
   ⟨none, .store (.st (.cons (.int .i64) (.cons (.int .i64) (.sl (.st (.cons (.int .i64) (.cons (.int .i64) (.int .i64)))))))), [.t 3, .t 38], none, []⟩] 26 x26.n x26.res x26.kv x26.code)
 (.seq (.reg true [
   ⟨some 39, .faddr 2 (.sl (.st (.cons (.int .i64) (.cons (.int .i64) (.int .i64))))), [.t 3], none, []⟩,
   ⟨some 40, .load (.sl (.st (.cons (.int .i64) (.cons (.int .i64) (.int .i64))))), [.t 39], none, [0]⟩,
   ⟨some 41, .mv, [.t 8], none, []⟩,
   ⟨some 42, .faddr 2 (.sl (.st (.cons (.int .i64) (.cons (.int .i64) (.int .i64))))), [.t 3], none, []⟩,
   ⟨some 43, .load (.sl (.st (.cons (.int .i64) (.cons (.int .i64) (.int .i64))))), [.t 42], none, [3]⟩,
   ⟨some 44, .mv, [.t 8], none, []⟩,
   ⟨some 45, .iaddr (.st (.cons (.int .i64) (.cons (.int .i64) (.int .i64)))), [.t 43, .t 44], none, [4, 3, 5]⟩,
   ⟨some 46, .faddr 2 (.int .i64), [.t 45], none, [6, 4, 3, 5]⟩,
   ⟨some 47, .load (.int .i64), [.t 46], none, [7, 6, 4, 3, 5]⟩,
   ⟨some 48, .mv, [.t 2], none, []⟩,
   ⟨some 49, .bin .add, [.t 47, .t 48], none, [8, 7, 6, 4, 3, 5, 9]⟩,
   ⟨some 50, .iaddr (.st (.cons (.int .i64) (.cons (.int .i64) (.int .i64)))), [.t 40, .t 41], none, [1, 0, 2, 3, 4, 5, 6, 7, 8, 9, 10]⟩,
   ⟨some 51, .faddr 2 (.int .i64), [.t 50], none, [11, 1, 0, 2, 3, 4, 5, 6, 7, 8, 9, 10]⟩,
   ⟨none, .store (.int .i64), [.t 51, .t 49], none, [12, 11, 1, 0, 2, 3, 4, 5, 6, 7, 8, 9, 10]⟩])
 (.seq (.reg false [
   ⟨some 52, .load (.st (.cons (.int .i64) (.cons (.int .i64) (.sl (.st (.cons (.int .i64) (.cons (.int .i64) (.int .i64)))))))), [.t 3], none, []⟩,
   ⟨none, .store (.st (.cons (.int .i64) (.cons (.int .i64) (.sl (.st (.cons (.int .i64) (.cons (.int .i64) (.int .i64)))))))), [.t 6, .t 52], none, []⟩,
   ⟨some 7, .mv, [.int .i64 0], none, []⟩])
 .ret))))))))))⟩
/- 0=s 1=phone 2=units 3=s 6= 7= 8=i -/
/-! tonneau/stock.Give -/
def x15 : XF := ⟨43, [.cell 4 (.st (.cons (.int .i64) (.cons (.int .i64) (.sl (.st (.cons (.int .i64) (.cons (.int .i64) (.int .i64)))))))), .tmp 5], [0, 1, 2, 4, 5, 6, 7, 8],
 (.seq (.reg false [
   ⟨some 2, .box 24, [.t 0], none, []⟩,
   ⟨some 4, .alloc 24 (.st (.cons (.int .i64) (.cons (.int .i64) (.sl (.st (.cons (.int .i64) (.cons (.int .i64) (.int .i64)))))))), [], none, []⟩,
   ⟨some 5, .mv, [.int .i64 0], none, []⟩])
 (.seq (.icall false [
   ⟨some 9, .load (.st (.cons (.int .i64) (.cons (.int .i64) (.sl (.st (.cons (.int .i64) (.cons (.int .i64) (.int .i64)))))))), [.t 2], none, []⟩] ⟨some 10, .callv, [.fn 27, .t 9], none, []⟩ [
   ⟨some 6, .alloc 24 (.st (.cons (.int .i64) (.cons (.int .i64) (.sl (.st (.cons (.int .i64) (.cons (.int .i64) (.int .i64)))))))), [], none, []⟩,
   ⟨none, .store (.st (.cons (.int .i64) (.cons (.int .i64) (.sl (.st (.cons (.int .i64) (.cons (.int .i64) (.int .i64)))))))), [.t 6, .t 10], none, []⟩] 27 x27.n x27.res x27.kv x27.code)
 (.seq (.seq (.reg false [
   ⟨some 11, .load (.st (.cons (.int .i64) (.cons (.int .i64) (.sl (.st (.cons (.int .i64) (.cons (.int .i64) (.int .i64)))))))), [.t 2], none, []⟩,
   ⟨some 12, .mv, [.t 1], none, []⟩,
   ⟨some 13, .call 28, [.t 11, .t 12, .int .i64 1], none, []⟩,
   ⟨some 14, .not, [.t 13], none, []⟩])
 (.cond (.t 14)
  (.seq (.reg false [
    ⟨some 15, .load (.st (.cons (.int .i64) (.cons (.int .i64) (.sl (.st (.cons (.int .i64) (.cons (.int .i64) (.int .i64)))))))), [.t 6], none, []⟩,
    ⟨none, .store (.st (.cons (.int .i64) (.cons (.int .i64) (.sl (.st (.cons (.int .i64) (.cons (.int .i64) (.int .i64)))))))), [.t 4, .t 15], none, []⟩,
    ⟨some 5, .mv, [.int .i64 1], none, []⟩])
  .ret)
  .skip))
 (.clean (.seq (.reg false [
   ⟨some 17, .load (.st (.cons (.int .i64) (.cons (.int .i64) (.sl (.st (.cons (.int .i64) (.cons (.int .i64) (.int .i64)))))))), [.t 6], none, []⟩,
   ⟨some 18, .mv, [.t 1], none, []⟩,
   ⟨some 19, .call 30, [.t 17, .t 18], none, []⟩,
   ⟨some 16, .mv, [.t 19], none, []⟩,
   ⟨some 20, .extract 0, [.t 16], none, []⟩,
   ⟨some 21, .extract 1, [.t 16], none, []⟩,
   ⟨some 7, .mv, [.t 20], none, []⟩,
   ⟨some 8, .mv, [.t 21], none, []⟩])
 (.clean (.seq (.seq (.reg false [
   ⟨some 22, .mv, [.t 8], none, []⟩,
   ⟨some 23, .not, [.t 22], none, []⟩])
 (.cond (.t 23)
  (.seq (.reg false [
    ⟨some 24, .load (.st (.cons (.int .i64) (.cons (.int .i64) (.sl (.st (.cons (.int .i64) (.cons (.int .i64) (.int .i64)))))))), [.t 6], none, []⟩,
    ⟨none, .store (.st (.cons (.int .i64) (.cons (.int .i64) (.sl (.st (.cons (.int .i64) (.cons (.int .i64) (.int .i64)))))))), [.t 4, .t 24], none, []⟩,
    ⟨some 5, .mv, [.int .i64 4], none, []⟩])
  .ret)
  .skip))
 (.seq (.reg true [
   ⟨some 25, .faddr 1 (.int .i64), [.t 6], none, []⟩,
   ⟨some 26, .load (.int .i64), [.t 25], none, [0]⟩,
   ⟨some 27, .faddr 2 (.sl (.st (.cons (.int .i64) (.cons (.int .i64) (.int .i64))))), [.t 6], none, []⟩,
   ⟨some 28, .load (.sl (.st (.cons (.int .i64) (.cons (.int .i64) (.int .i64))))), [.t 27], none, [2]⟩,
   ⟨some 29, .mv, [.t 7], none, []⟩,
   ⟨some 30, .iaddr (.st (.cons (.int .i64) (.cons (.int .i64) (.int .i64)))), [.t 28, .t 29], none, [3, 2, 4]⟩,
   ⟨some 31, .faddr 2 (.int .i64), [.t 30], none, [5, 3, 2, 4]⟩,
   ⟨some 32, .load (.int .i64), [.t 31], none, [6, 5, 3, 2, 4]⟩,
   ⟨some 33, .bin .add, [.t 26, .t 32], none, [1, 0, 7, 6, 5, 3, 2, 4]⟩,
   ⟨some 34, .faddr 1 (.int .i64), [.t 6], none, [0, 1, 2, 3, 4, 5, 6, 7, 8]⟩,
   ⟨none, .store (.int .i64), [.t 34, .t 33], none, [9, 0, 1, 2, 3, 4, 5, 6, 7, 8]⟩])
 (.clean (.seq (.reg false [
   ⟨some 35, .faddr 2 (.sl (.st (.cons (.int .i64) (.cons (.int .i64) (.int .i64))))), [.t 6], none, []⟩,
   ⟨some 36, .load (.sl (.st (.cons (.int .i64) (.cons (.int .i64) (.int .i64))))), [.t 35], none, []⟩,
   ⟨some 37, .mv, [.t 7], none, []⟩,
   ⟨some 38, .mv, [.t 7], none, []⟩,
   ⟨some 39, .bin .add, [.t 38, .int .i64 1], none, []⟩,
   ⟨some 40, .call 33, [.t 36, .t 37, .t 39], none, []⟩,
   ⟨some 41, .faddr 2 (.sl (.st (.cons (.int .i64) (.cons (.int .i64) (.int .i64))))), [.t 6], none, []⟩,
   ⟨none, .store (.sl (.st (.cons (.int .i64) (.cons (.int .i64) (.int .i64))))), [.t 41, .t 40], none, []⟩])
 (.seq (.reg false [
   ⟨some 42, .load (.st (.cons (.int .i64) (.cons (.int .i64) (.sl (.st (.cons (.int .i64) (.cons (.int .i64) (.int .i64)))))))), [.t 6], none, []⟩,
   ⟨none, .store (.st (.cons (.int .i64) (.cons (.int .i64) (.sl (.st (.cons (.int .i64) (.cons (.int .i64) (.int .i64)))))))), [.t 4, .t 42], none, []⟩,
   ⟨some 5, .mv, [.int .i64 0], none, []⟩])
 .ret)))))))))))⟩
/- 0=s 1=phone 2=s 4= 5= 6=out 7=i 8=had -/
/-! tonneau/tonneauref40.Give -/
def x16 : XF := ⟨46, [.cell 4 (.st (.cons (.int .i64) (.cons (.int .i64) (.sl (.st (.cons (.int .i64) (.cons (.int .i64) (.int .i64)))))))), .tmp 5], [0, 1, 2, 4, 5, 6, 7],
 (.seq (.reg false [
   ⟨some 2, .box 24, [.t 0], none, []⟩,
   ⟨some 4, .alloc 24 (.st (.cons (.int .i64) (.cons (.int .i64) (.sl (.st (.cons (.int .i64) (.cons (.int .i64) (.int .i64)))))))), [], none, []⟩,
   ⟨some 5, .mv, [.int .i64 0], none, []⟩])
 (.seq (.seq (.reg false [
   ⟨some 8, .load (.st (.cons (.int .i64) (.cons (.int .i64) (.sl (.st (.cons (.int .i64) (.cons (.int .i64) (.int .i64)))))))), [.t 2], none, []⟩,
   ⟨some 9, .mv, [.t 1], none, []⟩,
   ⟨some 10, .call 29, [.t 8, .t 9, .int .i64 1], none, []⟩,
   ⟨some 11, .not, [.t 10], none, []⟩])
 (.cond (.t 11)
  (.seq (.reg false [
    ⟨some 12, .load (.st (.cons (.int .i64) (.cons (.int .i64) (.sl (.st (.cons (.int .i64) (.cons (.int .i64) (.int .i64)))))))), [.t 2], none, []⟩,
    ⟨none, .store (.st (.cons (.int .i64) (.cons (.int .i64) (.sl (.st (.cons (.int .i64) (.cons (.int .i64) (.int .i64)))))))), [.t 4, .t 12], none, []⟩,
    ⟨some 5, .mv, [.int .i64 1], none, []⟩])
  .ret)
  .skip))
 (.clean (.seq (.reg false [
   ⟨some 13, .load (.st (.cons (.int .i64) (.cons (.int .i64) (.sl (.st (.cons (.int .i64) (.cons (.int .i64) (.int .i64)))))))), [.t 2], none, []⟩,
   ⟨some 14, .mv, [.t 1], none, []⟩,
   ⟨some 15, .call 32, [.t 13, .t 14], none, []⟩,
   ⟨some 6, .mv, [.t 15], none, []⟩])
 (.seq (.seq (.reg false [
   ⟨some 16, .mv, [.t 6], none, []⟩,
   ⟨some 17, .bin .lss, [.t 16, .int .i64 0], none, []⟩])
 (.cond (.t 17)
  (.seq (.reg false [
    ⟨some 18, .load (.st (.cons (.int .i64) (.cons (.int .i64) (.sl (.st (.cons (.int .i64) (.cons (.int .i64) (.int .i64)))))))), [.t 2], none, []⟩,
    ⟨none, .store (.st (.cons (.int .i64) (.cons (.int .i64) (.sl (.st (.cons (.int .i64) (.cons (.int .i64) (.int .i64)))))))), [.t 4, .t 18], none, []⟩,
    ⟨some 5, .mv, [.int .i64 4], none, []⟩])
  .ret)
  .skip))
 (.seq (.reg true [
   ⟨some 19, .faddr 0 (.int .i64), [.t 2], none, []⟩,
   ⟨some 20, .load (.int .i64), [.t 19], none, [0]⟩,
   ⟨some 21, .faddr 1 (.int .i64), [.t 2], none, []⟩,
   ⟨some 22, .load (.int .i64), [.t 21], none, [2]⟩,
   ⟨some 23, .faddr 2 (.sl (.st (.cons (.int .i64) (.cons (.int .i64) (.int .i64))))), [.t 2], none, []⟩,
   ⟨some 24, .load (.sl (.st (.cons (.int .i64) (.cons (.int .i64) (.int .i64))))), [.t 23], none, [4]⟩,
   ⟨some 25, .mv, [.t 6], none, []⟩,
   ⟨some 26, .iaddr (.st (.cons (.int .i64) (.cons (.int .i64) (.int .i64)))), [.t 24, .t 25], none, [5, 4, 6]⟩,
   ⟨some 27, .faddr 2 (.int .i64), [.t 26], none, [7, 5, 4, 6]⟩,
   ⟨some 28, .load (.int .i64), [.t 27], none, [8, 7, 5, 4, 6]⟩,
   ⟨some 29, .bin .add, [.t 22, .t 28], none, [3, 2, 9, 8, 7, 5, 4, 6]⟩,
   ⟨some 30, .build (.st (.cons (.int .i64) (.cons (.int .i64) (.sl (.st (.cons (.int .i64) (.cons (.int .i64) (.int .i64)))))))) [(0, (.int .i64)), (1, (.int .i64))], [.t 20, .t 29], none, [1, 0, 10, 3, 2, 9, 8, 7, 5, 4, 6]⟩,
   ⟨some 7, .alloc 24 (.st (.cons (.int .i64) (.cons (.int .i64) (.sl (.st (.cons (.int .i64) (.cons (.int .i64) (.int .i64)))))))), [], none, []⟩,
   ⟨none, .store (.st (.cons (.int .i64) (.cons (.int .i64) (.sl (.st (.cons (.int .i64) (.cons (.int .i64) (.int .i64)))))))), [.t 7, .t 30], none, [12, 11, 1, 0, 10, 3, 2, 9, 8, 7, 5, 4, 6]⟩])
 (.clean (.seq (.reg true [
   ⟨some 31, .faddr 2 (.sl (.st (.cons (.int .i64) (.cons (.int .i64) (.int .i64))))), [.t 7], none, []⟩,
   ⟨some 32, .load (.sl (.st (.cons (.int .i64) (.cons (.int .i64) (.int .i64))))), [.t 31], none, [0]⟩,
   ⟨some 33, .faddr 2 (.sl (.st (.cons (.int .i64) (.cons (.int .i64) (.int .i64))))), [.t 2], none, []⟩,
   ⟨some 34, .load (.sl (.st (.cons (.int .i64) (.cons (.int .i64) (.int .i64))))), [.t 33], none, [2]⟩,
   ⟨some 35, .mv, [.t 6], none, []⟩,
   ⟨some 36, .slice (.st (.cons (.int .i64) (.cons (.int .i64) (.int .i64)))) false true false, [.t 34, .t 35], none, [3, 2, 4]⟩,
   ⟨some 37, .append 41 (.st (.cons (.int .i64) (.cons (.int .i64) (.int .i64)))) 24, [.t 32, .t 36], none, [1, 0, 5, 3, 2, 4]⟩,
   ⟨some 38, .faddr 2 (.sl (.st (.cons (.int .i64) (.cons (.int .i64) (.int .i64))))), [.t 2], none, []⟩,
   ⟨some 39, .load (.sl (.st (.cons (.int .i64) (.cons (.int .i64) (.int .i64))))), [.t 38], none, [7]⟩,
   ⟨some 40, .mv, [.t 6], none, []⟩,
   ⟨some 41, .bin .add, [.t 40, .int .i64 1], none, [9]⟩,
   ⟨some 42, .slice (.st (.cons (.int .i64) (.cons (.int .i64) (.int .i64)))) true false false, [.t 39, .t 41], none, [8, 7, 10, 9]⟩,
   ⟨some 43, .append 41 (.st (.cons (.int .i64) (.cons (.int .i64) (.int .i64)))) 24, [.t 37, .t 42], none, [6, 1, 0, 5, 3, 2, 4, 11, 8, 7, 10, 9]⟩,
   ⟨some 44, .faddr 2 (.sl (.st (.cons (.int .i64) (.cons (.int .i64) (.int .i64))))), [.t 7], none, [0, 1, 2, 3, 4, 5, 6, 7, 8, 9, 10, 11, 12]⟩,
   ⟨none, .store (.sl (.st (.cons (.int .i64) (.cons (.int .i64) (.int .i64))))), [.t 44, .t 43], none, [13, 0, 1, 2, 3, 4, 5, 6, 7, 8, 9, 10, 11, 12]⟩])
 (.seq (.reg false [
   ⟨some 45, .load (.st (.cons (.int .i64) (.cons (.int .i64) (.sl (.st (.cons (.int .i64) (.cons (.int .i64) (.int .i64)))))))), [.t 7], none, []⟩,
   ⟨none, .store (.st (.cons (.int .i64) (.cons (.int .i64) (.sl (.st (.cons (.int .i64) (.cons (.int .i64) (.int .i64)))))))), [.t 4, .t 45], none, []⟩,
   ⟨some 5, .mv, [.int .i64 0], none, []⟩])
 .ret)))))))))⟩
/- 0=s 1=phone 2=s 4= 5= 6=i 7=out -/
/-! tonneau/tonneauref40.Same -/
def x17_0 : XC := (.seq (.seq (.reg false [
   ⟨some 27, .mv, [.t 5], none, []⟩,
   ⟨some 28, .faddr 2 (.sl (.st (.cons (.int .i64) (.cons (.int .i64) (.int .i64))))), [.t 2], none, []⟩,
   ⟨some 29, .load (.sl (.st (.cons (.int .i64) (.cons (.int .i64) (.int .i64))))), [.t 28], none, []⟩,
   ⟨some 30, .len false, [.t 29], none, []⟩,
   ⟨some 31, .bin .lss, [.t 27, .t 30], none, []⟩])
 (.cond (.t 31)
  .skip
  (.exit 0)))
 (.clean (.seq (.block 1 (.seq (.reg true [
    ⟨some 34, .faddr 2 (.sl (.st (.cons (.int .i64) (.cons (.int .i64) (.int .i64))))), [.t 2], none, []⟩,
    ⟨some 35, .load (.sl (.st (.cons (.int .i64) (.cons (.int .i64) (.int .i64))))), [.t 34], none, [0]⟩,
    ⟨some 36, .mv, [.t 5], none, []⟩,
    ⟨some 37, .iaddr (.st (.cons (.int .i64) (.cons (.int .i64) (.int .i64)))), [.t 35, .t 36], none, [1, 0, 2]⟩,
    ⟨some 38, .load (.st (.cons (.int .i64) (.cons (.int .i64) (.int .i64)))), [.t 37], none, [3, 1, 0, 2]⟩,
    ⟨some 39, .faddr 2 (.sl (.st (.cons (.int .i64) (.cons (.int .i64) (.int .i64))))), [.t 3], none, []⟩,
    ⟨some 40, .load (.sl (.st (.cons (.int .i64) (.cons (.int .i64) (.int .i64))))), [.t 39], none, [5]⟩,
    ⟨some 41, .mv, [.t 5], none, []⟩,
    ⟨some 42, .iaddr (.st (.cons (.int .i64) (.cons (.int .i64) (.int .i64)))), [.t 40, .t 41], none, [6, 5, 7]⟩,
    ⟨some 43, .load (.st (.cons (.int .i64) (.cons (.int .i64) (.int .i64)))), [.t 42], none, [8, 6, 5, 7]⟩,
    ⟨some 44, .steq true (.st (.cons (.int .i64) (.cons (.int .i64) (.int .i64)))), [.t 38, .t 43], none, [4, 3, 1, 0, 2, 9, 8, 6, 5, 7]⟩])
  (.cond (.t 44)
   (.seq (.reg false [
     ⟨some 4, .mv, [.bool false], none, []⟩])
   .ret)
   .skip)))
 (.clean (.reg false [
   ⟨some 32, .mv, [.t 5], none, []⟩,
   ⟨some 33, .bin .add, [.t 32, .int .i64 1], none, []⟩,
   ⟨some 5, .mv, [.t 33], none, []⟩])))))
def x17_0d : List Nat := [4, 5]
def x17 : XF := ⟨45, [.tmp 4], [0, 1, 2, 3, 4, 5],
 (.seq (.reg false [
   ⟨some 2, .box 24, [.t 0], none, []⟩,
   ⟨some 3, .box 24, [.t 1], none, []⟩,
   ⟨some 4, .mv, [.bool false], none, []⟩])
 (.seq (.seq (.reg false [
   ⟨some 6, .faddr 0 (.int .i64), [.t 2], none, []⟩,
   ⟨some 7, .load (.int .i64), [.t 6], none, []⟩,
   ⟨some 8, .faddr 0 (.int .i64), [.t 3], none, []⟩,
   ⟨some 9, .load (.int .i64), [.t 8], none, []⟩,
   ⟨some 10, .bin .neq, [.t 7, .t 9], none, []⟩,
   ⟨some 11, .mv, [.t 10], none, []⟩,
   ⟨some 12, .faddr 1 (.int .i64), [.t 2], some (5, 11, false), []⟩,
   ⟨some 13, .load (.int .i64), [.t 12], some (5, 11, false), []⟩,
   ⟨some 14, .faddr 1 (.int .i64), [.t 3], some (5, 11, false), []⟩,
   ⟨some 15, .load (.int .i64), [.t 14], some (5, 11, false), []⟩,
   ⟨some 16, .bin .neq, [.t 13, .t 15], some (5, 11, false), []⟩,
   ⟨some 17, .pick, [.t 11, .bool true, .t 16], none, []⟩,
   ⟨some 18, .mv, [.t 17], none, []⟩,
   ⟨some 19, .faddr 2 (.sl (.st (.cons (.int .i64) (.cons (.int .i64) (.int .i64))))), [.t 2], some (12, 18, false), []⟩,
   ⟨some 20, .load (.sl (.st (.cons (.int .i64) (.cons (.int .i64) (.int .i64))))), [.t 19], some (12, 18, false), []⟩,
   ⟨some 21, .len false, [.t 20], some (12, 18, false), []⟩,
   ⟨some 22, .faddr 2 (.sl (.st (.cons (.int .i64) (.cons (.int .i64) (.int .i64))))), [.t 3], some (12, 18, false), []⟩,
   ⟨some 23, .load (.sl (.st (.cons (.int .i64) (.cons (.int .i64) (.int .i64))))), [.t 22], some (12, 18, false), []⟩,
   ⟨some 24, .len false, [.t 23], some (12, 18, false), []⟩,
   ⟨some 25, .bin .neq, [.t 21, .t 24], some (12, 18, false), []⟩,
   ⟨some 26, .pick, [.t 18, .bool true, .t 25], none, []⟩])
 (.cond (.t 26)
  (.seq (.reg false [
    ⟨some 4, .mv, [.bool false], none, []⟩])
  .ret)
  .skip))
 (.clean (.seq (.seq (.reg false [
   ⟨some 5, .mv, [.int .i64 0], none, []⟩])
 (.block 0 (.loop x17_0)))
 (.seq (.reg false [
   ⟨some 4, .mv, [.bool true], none, []⟩])
 .ret)))))⟩
/- 0=a 1=b 2=a 3=b 4= 5=i -/
/-! tonneau/stock.Right -/
def x18_0 : XC := (.seq (.reg false [
   ⟨some 36, .bin .lss, [.t 35, .t 34], none, []⟩])
 (.seq (.cond (.t 36)
  .skip
  (.exit 0))
 (.seq (.block 1 (.seq (.reg false [
    ⟨some 37, .iaddr (.st (.cons (.int .i64) (.cons (.int .i64) (.int .i64)))), [.t 33, .t 35], none, []⟩,
    ⟨some 38, .load (.st (.cons (.int .i64) (.cons (.int .i64) (.int .i64)))), [.t 37], none, []⟩,
    ⟨some 6, .alloc 41 (.st (.cons (.int .i64) (.cons (.int .i64) (.int .i64)))), [], none, []⟩,
    ⟨none, .store (.st (.cons (.int .i64) (.cons (.int .i64) (.int .i64)))), [.t 6, .t 38], none, []⟩])
  (.seq (.seq (.reg false [
    ⟨some 39, .faddr 0 (.int .i64), [.t 6], none, []⟩,
    ⟨some 40, .load (.int .i64), [.t 39], none, []⟩,
    ⟨some 41, .mv, [.t 4], none, []⟩,
    ⟨some 42, .bin .leq, [.t 40, .t 41], none, []⟩,
    ⟨some 43, .mv, [.t 42], none, []⟩,
    ⟨some 44, .faddr 0 (.int .i64), [.t 6], some (4, 43, false), []⟩,
    ⟨some 45, .load (.int .i64), [.t 44], some (4, 43, false), []⟩,
    ⟨some 46, .bin .geq, [.t 45, .int .i64 12], some (4, 43, false), []⟩,
    ⟨some 47, .pick, [.t 43, .bool true, .t 46], none, []⟩,
    ⟨some 48, .mv, [.t 47], none, []⟩,
    ⟨some 49, .faddr 1 (.int .i64), [.t 6], some (9, 48, false), []⟩,
    ⟨some 50, .load (.int .i64), [.t 49], some (9, 48, false), []⟩,
    ⟨some 51, .bin .lss, [.t 50, .int .i64 1], some (9, 48, false), []⟩,
    ⟨some 52, .pick, [.t 48, .bool true, .t 51], none, []⟩,
    ⟨some 53, .mv, [.t 52], none, []⟩,
    ⟨some 54, .faddr 1 (.int .i64), [.t 6], some (14, 53, false), []⟩,
    ⟨some 55, .load (.int .i64), [.t 54], some (14, 53, false), []⟩,
    ⟨some 56, .mv, [.t 3], some (14, 53, false), []⟩,
    ⟨some 57, .bin .gtr, [.t 55, .t 56], some (14, 53, false), []⟩,
    ⟨some 58, .pick, [.t 53, .bool true, .t 57], none, []⟩,
    ⟨some 59, .mv, [.t 58], none, []⟩,
    ⟨some 60, .faddr 2 (.int .i64), [.t 6], some (20, 59, false), []⟩,
    ⟨some 61, .load (.int .i64), [.t 60], some (20, 59, false), []⟩,
    ⟨some 62, .bin .lss, [.t 61, .int .i64 0], some (20, 59, false), []⟩,
    ⟨some 63, .pick, [.t 59, .bool true, .t 62], none, []⟩,
    ⟨some 64, .mv, [.t 63], none, []⟩,
    ⟨some 65, .faddr 2 (.int .i64), [.t 6], some (25, 64, false), []⟩,
    ⟨some 66, .load (.int .i64), [.t 65], some (25, 64, false), []⟩,
    ⟨some 67, .faddr 1 (.int .i64), [.t 6], some (25, 64, false), []⟩,
    ⟨some 68, .load (.int .i64), [.t 67], some (25, 64, false), []⟩,
    ⟨some 69, .bin .gtr, [.t 66, .t 68], some (25, 64, false), []⟩,
    ⟨some 70, .pick, [.t 64, .bool true, .t 69], none, []⟩])
  (.cond (.t 70)
   (.seq (.reg false [
     ⟨some 2, .mv, [.bool false], none, []⟩])
   .ret)
   .skip))
  (.clean (.seq (.reg false [
    ⟨some 71, .mv, [.t 3], none, []⟩,
    ⟨some 72, .faddr 1 (.int .i64), [.t 6], none, []⟩,
    ⟨some 73, .load (.int .i64), [.t 72], none, []⟩,
    ⟨some 74, .bin .sub, [.t 71, .t 73], none, []⟩,
    ⟨some 3, .mv, [.t 74], none, []⟩])
  (.reg false [
    ⟨some 75, .faddr 0 (.int .i64), [.t 6], none, []⟩,
    ⟨some 76, .load (.int .i64), [.t 75], none, []⟩,
    ⟨some 4, .mv, [.t 76], none, []⟩]))))))
 (.reg false [
   ⟨some 77, .bin .add, [.t 35, .int .i64 1], none, []⟩,
   ⟨some 35, .mv, [.t 77], none, []⟩]))))
def x18_0d : List Nat := [2, 3, 4, 6, 35]
def x18 : XF := ⟨78, [.tmp 2], [0, 1, 2, 3, 4, 6, 33, 34, 35],
 (.seq (.reg false [
   ⟨some 1, .box 24, [.t 0], none, []⟩,
   ⟨some 2, .mv, [.bool false], none, []⟩])
 (.seq (.seq (.reg false [
   ⟨some 7, .faddr 0 (.int .i64), [.t 1], none, []⟩,
   ⟨some 8, .load (.int .i64), [.t 7], none, []⟩,
   ⟨some 9, .bin .lss, [.t 8, .int .i64 0], none, []⟩,
   ⟨some 10, .mv, [.t 9], none, []⟩,
   ⟨some 11, .faddr 0 (.int .i64), [.t 1], some (3, 10, false), []⟩,
   ⟨some 12, .load (.int .i64), [.t 11], some (3, 10, false), []⟩,
   ⟨some 13, .bin .gtr, [.t 12, .int .i64 1000000000000000], some (3, 10, false), []⟩,
   ⟨some 14, .pick, [.t 10, .bool true, .t 13], none, []⟩,
   ⟨some 15, .mv, [.t 14], none, []⟩,
   ⟨some 16, .faddr 1 (.int .i64), [.t 1], some (8, 15, false), []⟩,
   ⟨some 17, .load (.int .i64), [.t 16], some (8, 15, false), []⟩,
   ⟨some 18, .bin .lss, [.t 17, .int .i64 0], some (8, 15, false), []⟩,
   ⟨some 19, .pick, [.t 15, .bool true, .t 18], none, []⟩,
   ⟨some 20, .mv, [.t 19], none, []⟩,
   ⟨some 21, .faddr 1 (.int .i64), [.t 1], some (13, 20, false), []⟩,
   ⟨some 22, .load (.int .i64), [.t 21], some (13, 20, false), []⟩,
   ⟨some 23, .faddr 0 (.int .i64), [.t 1], some (13, 20, false), []⟩,
   ⟨some 24, .load (.int .i64), [.t 23], some (13, 20, false), []⟩,
   ⟨some 25, .bin .gtr, [.t 22, .t 24], some (13, 20, false), []⟩,
   ⟨some 26, .pick, [.t 20, .bool true, .t 25], none, []⟩])
 (.cond (.t 26)
  (.seq (.reg false [
    ⟨some 2, .mv, [.bool false], none, []⟩])
  .ret)
  .skip))
 (.clean (.seq (.reg false [
   ⟨some 27, .faddr 0 (.int .i64), [.t 1], none, []⟩,
   ⟨some 28, .load (.int .i64), [.t 27], none, []⟩,
   ⟨some 29, .faddr 1 (.int .i64), [.t 1], none, []⟩,
   ⟨some 30, .load (.int .i64), [.t 29], none, []⟩,
   ⟨some 31, .bin .sub, [.t 28, .t 30], none, []⟩,
   ⟨some 3, .mv, [.t 31], none, []⟩,
   ⟨some 4, .mv, [.int .i64 (-1)], none, []⟩])
 (.clean (.seq (.seq (.reg false [
   ⟨some 32, .faddr 2 (.sl (.st (.cons (.int .i64) (.cons (.int .i64) (.int .i64))))), [.t 1], none, []⟩,
   ⟨some 33, .load (.sl (.st (.cons (.int .i64) (.cons (.int .i64) (.int .i64))))), [.t 32], none, []⟩,
   ⟨some 34, .len false, [.t 33], none, []⟩,
   ⟨some 35, .mv, [.int .i64 0], none, []⟩])
 (.block 0 (.loop x18_0)))
 (.seq (.reg false [
   ⟨some 2, .mv, [.bool true], none, []⟩])
 .ret)))))))⟩
/- 0=s 1=s 2= 3=free 4=last 6=l 33= 34= 35= -/
/-! tonneau/tonneauref40.Right -/
def x19 : XF := ⟨6, [.tmp 2], [0, 1, 2],
 (.seq (.reg false [
   ⟨some 1, .box 24, [.t 0], none, []⟩,
   ⟨some 2, .mv, [.bool false], none, []⟩])
 (.seq (.reg false [
   ⟨some 3, .load (.st (.cons (.int .i64) (.cons (.int .i64) (.sl (.st (.cons (.int .i64) (.cons (.int .i64) (.int .i64)))))))), [.t 1], none, []⟩,
   ⟨some 4, .call 34, [.t 3], none, []⟩,
   ⟨some 5, .bin .geq, [.t 4, .int .i64 0], none, []⟩,
   ⟨some 2, .mv, [.t 5], none, []⟩])
 .ret))⟩
/- 0=s 1=s 2= -/
/-! tonneau/stock.Free -/
def x20_0 : XC := (.seq (.reg false [
   ⟨some 18, .bin .lss, [.t 17, .t 16], none, []⟩])
 (.seq (.cond (.t 18)
  .skip
  (.exit 0))
 (.seq (.block 1 (.seq (.reg false [
    ⟨some 19, .iaddr (.st (.cons (.int .i64) (.cons (.int .i64) (.int .i64)))), [.t 15, .t 17], none, []⟩,
    ⟨some 20, .load (.st (.cons (.int .i64) (.cons (.int .i64) (.int .i64)))), [.t 19], none, []⟩,
    ⟨some 5, .alloc 41 (.st (.cons (.int .i64) (.cons (.int .i64) (.int .i64)))), [], none, []⟩,
    ⟨none, .store (.st (.cons (.int .i64) (.cons (.int .i64) (.int .i64)))), [.t 5, .t 20], none, []⟩])
  (.reg false [
    ⟨some 21, .mv, [.t 3], none, []⟩,
    ⟨some 22, .faddr 1 (.int .i64), [.t 5], none, []⟩,
    ⟨some 23, .load (.int .i64), [.t 22], none, []⟩,
    ⟨some 24, .bin .sub, [.t 21, .t 23], none, []⟩,
    ⟨some 3, .mv, [.t 24], none, []⟩])))
 (.reg false [
   ⟨some 25, .bin .add, [.t 17, .int .i64 1], none, []⟩,
   ⟨some 17, .mv, [.t 25], none, []⟩]))))
def x20_0d : List Nat := [3, 5, 17]
def x20 : XF := ⟨27, [.tmp 2], [0, 1, 2, 3, 5, 15, 16, 17],
 (.seq (.reg false [
   ⟨some 1, .box 24, [.t 0], none, []⟩,
   ⟨some 2, .mv, [.int .i64 0], none, []⟩])
 (.seq (.seq (.reg false [
   ⟨some 6, .load (.st (.cons (.int .i64) (.cons (.int .i64) (.sl (.st (.cons (.int .i64) (.cons (.int .i64) (.int .i64)))))))), [.t 1], none, []⟩,
   ⟨some 7, .call 18, [.t 6], none, []⟩,
   ⟨some 8, .not, [.t 7], none, []⟩])
 (.cond (.t 8)
  (.seq (.reg false [
    ⟨some 2, .mv, [.int .i64 0], none, []⟩])
  .ret)
  .skip))
 (.seq (.reg false [
   ⟨some 9, .faddr 0 (.int .i64), [.t 1], none, []⟩,
   ⟨some 10, .load (.int .i64), [.t 9], none, []⟩,
   ⟨some 11, .faddr 1 (.int .i64), [.t 1], none, []⟩,
   ⟨some 12, .load (.int .i64), [.t 11], none, []⟩,
   ⟨some 13, .bin .sub, [.t 10, .t 12], none, []⟩,
   ⟨some 3, .mv, [.t 13], none, []⟩])
 (.clean (.seq (.seq (.reg false [
   ⟨some 14, .faddr 2 (.sl (.st (.cons (.int .i64) (.cons (.int .i64) (.int .i64))))), [.t 1], none, []⟩,
   ⟨some 15, .load (.sl (.st (.cons (.int .i64) (.cons (.int .i64) (.int .i64))))), [.t 14], none, []⟩,
   ⟨some 16, .len false, [.t 15], none, []⟩,
   ⟨some 17, .mv, [.int .i64 0], none, []⟩])
 (.block 0 (.loop x20_0)))
 (.seq (.reg false [
   ⟨some 26, .mv, [.t 3], none, []⟩,
   ⟨some 2, .mv, [.t 26], none, []⟩])
 .ret))))))⟩
/- 0=s 1=s 2= 3=free 5=l 15= 16= 17= -/
/-! tonneau/tonneauref40.Free -/
def x21 : XF := ⟨6, [.tmp 2], [0, 1, 2],
 (.seq (.reg false [
   ⟨some 1, .box 24, [.t 0], none, []⟩,
   ⟨some 2, .mv, [.int .i64 0], none, []⟩])
 (.seq (.reg false [
   ⟨some 3, .load (.st (.cons (.int .i64) (.cons (.int .i64) (.sl (.st (.cons (.int .i64) (.cons (.int .i64) (.int .i64)))))))), [.t 1], none, []⟩,
   ⟨some 4, .call 34, [.t 3], none, []⟩,
   ⟨some 5, .max, [.int .i64 0, .t 4], none, []⟩,
   ⟨some 2, .mv, [.t 5], none, []⟩])
 .ret))⟩
/- 0=s 1=s 2= -/
/-! tonneau/tonneaulaw40.do -/
def x22 : XF := ⟨42, [.cell 4 (.st (.cons (.int .i64) (.cons (.int .i64) (.sl (.st (.cons (.int .i64) (.cons (.int .i64) (.int .i64)))))))), .tmp 5], [0, 1, 2, 3, 4, 5, 7],
 (.seq (.reg false [
   ⟨some 2, .box 24, [.t 0], none, []⟩,
   ⟨some 3, .box 37, [.t 1], none, []⟩,
   ⟨some 4, .alloc 24 (.st (.cons (.int .i64) (.cons (.int .i64) (.sl (.st (.cons (.int .i64) (.cons (.int .i64) (.int .i64)))))))), [], none, []⟩,
   ⟨some 5, .mv, [.int .i64 0], none, []⟩])
 (.seq (.seq (.reg false [
   ⟨some 6, .faddr 0 (.int .i64), [.t 3], none, []⟩,
   ⟨some 7, .load (.int .i64), [.t 6], none, []⟩])
 (.block 0 (.seq (.reg false [
    ⟨some 9, .bin .eql, [.t 7, .int .i64 0], none, []⟩,
    ⟨some 8, .mv, [.t 9], none, []⟩])
  (.cond (.t 8)
   (.seq (.reg false [
     ⟨some 10, .load (.st (.cons (.int .i64) (.cons (.int .i64) (.sl (.st (.cons (.int .i64) (.cons (.int .i64) (.int .i64)))))))), [.t 2], none, []⟩,
     ⟨some 11, .faddr 2 (.int .i64), [.t 3], none, []⟩,
     ⟨some 12, .load (.int .i64), [.t 11], none, []⟩,
     ⟨some 13, .call 9, [.t 10, .t 12], none, []⟩,
     ⟨some 14, .extract 0, [.t 13], none, []⟩,
     ⟨some 15, .extract 1, [.t 13], none, []⟩,
     ⟨none, .store (.st (.cons (.int .i64) (.cons (.int .i64) (.sl (.st (.cons (.int .i64) (.cons (.int .i64) (.int .i64)))))))), [.t 4, .t 14], none, []⟩,
     ⟨some 5, .mv, [.t 15], none, []⟩])
   .ret)
   (.seq (.reg false [
     ⟨some 17, .bin .eql, [.t 7, .int .i64 1], none, []⟩,
     ⟨some 16, .mv, [.t 17], none, []⟩])
   (.cond (.t 16)
    (.seq (.reg false [
      ⟨some 18, .load (.st (.cons (.int .i64) (.cons (.int .i64) (.sl (.st (.cons (.int .i64) (.cons (.int .i64) (.int .i64)))))))), [.t 2], none, []⟩,
      ⟨some 19, .faddr 1 (.int .i64), [.t 3], none, []⟩,
      ⟨some 20, .load (.int .i64), [.t 19], none, []⟩,
      ⟨some 21, .faddr 2 (.int .i64), [.t 3], none, []⟩,
      ⟨some 22, .load (.int .i64), [.t 21], none, []⟩,
      ⟨some 23, .call 11, [.t 18, .t 20, .t 22], none, []⟩,
      ⟨some 24, .extract 0, [.t 23], none, []⟩,
      ⟨some 25, .extract 1, [.t 23], none, []⟩,
      ⟨none, .store (.st (.cons (.int .i64) (.cons (.int .i64) (.sl (.st (.cons (.int .i64) (.cons (.int .i64) (.int .i64)))))))), [.t 4, .t 24], none, []⟩,
      ⟨some 5, .mv, [.t 25], none, []⟩])
    .ret)
    (.seq (.reg false [
      ⟨some 27, .bin .eql, [.t 7, .int .i64 2], none, []⟩,
      ⟨some 26, .mv, [.t 27], none, []⟩])
    (.cond (.t 26)
     (.seq (.reg false [
       ⟨some 28, .load (.st (.cons (.int .i64) (.cons (.int .i64) (.sl (.st (.cons (.int .i64) (.cons (.int .i64) (.int .i64)))))))), [.t 2], none, []⟩,
       ⟨some 29, .faddr 1 (.int .i64), [.t 3], none, []⟩,
       ⟨some 30, .load (.int .i64), [.t 29], none, []⟩,
       ⟨some 31, .faddr 2 (.int .i64), [.t 3], none, []⟩,
       ⟨some 32, .load (.int .i64), [.t 31], none, []⟩,
       ⟨some 33, .call 13, [.t 28, .t 30, .t 32], none, []⟩,
       ⟨some 34, .extract 0, [.t 33], none, []⟩,
       ⟨some 35, .extract 1, [.t 33], none, []⟩,
       ⟨none, .store (.st (.cons (.int .i64) (.cons (.int .i64) (.sl (.st (.cons (.int .i64) (.cons (.int .i64) (.int .i64)))))))), [.t 4, .t 34], none, []⟩,
       ⟨some 5, .mv, [.t 35], none, []⟩])
     .ret)
     .skip))))))))
 (.clean (.seq (.reg false [
   ⟨some 36, .load (.st (.cons (.int .i64) (.cons (.int .i64) (.sl (.st (.cons (.int .i64) (.cons (.int .i64) (.int .i64)))))))), [.t 2], none, []⟩,
   ⟨some 37, .faddr 1 (.int .i64), [.t 3], none, []⟩,
   ⟨some 38, .load (.int .i64), [.t 37], none, []⟩,
   ⟨some 39, .call 15, [.t 36, .t 38], none, []⟩,
   ⟨some 40, .extract 0, [.t 39], none, []⟩,
   ⟨some 41, .extract 1, [.t 39], none, []⟩,
   ⟨none, .store (.st (.cons (.int .i64) (.cons (.int .i64) (.sl (.st (.cons (.int .i64) (.cons (.int .i64) (.int .i64)))))))), [.t 4, .t 40], none, []⟩,
   ⟨some 5, .mv, [.t 41], none, []⟩])
 .ret))))⟩
/- 0=s 1=o 2=s 3=o 4= 5= 7= -/
/-! tonneau/tonneaulaw40.promised -/
def x23_0 : XC := (.seq (.seq (.reg false [
   ⟨some 7, .mv, [.t 4], none, []⟩,
   ⟨some 8, .faddr 2 (.sl (.st (.cons (.int .i64) (.cons (.int .i64) (.int .i64))))), [.t 1], none, []⟩,
   ⟨some 9, .load (.sl (.st (.cons (.int .i64) (.cons (.int .i64) (.int .i64))))), [.t 8], none, []⟩,
   ⟨some 10, .len false, [.t 9], none, []⟩,
   ⟨some 11, .bin .lss, [.t 7, .t 10], none, []⟩])
 (.cond (.t 11)
  .skip
  (.exit 0)))
 (.clean (.seq (.block 1 (.reg false [
    ⟨some 14, .mv, [.t 3], none, []⟩,
    ⟨some 15, .faddr 2 (.sl (.st (.cons (.int .i64) (.cons (.int .i64) (.int .i64))))), [.t 1], none, []⟩,
    ⟨some 16, .load (.sl (.st (.cons (.int .i64) (.cons (.int .i64) (.int .i64))))), [.t 15], none, []⟩,
    ⟨some 17, .mv, [.t 4], none, []⟩,
    ⟨some 18, .iaddr (.st (.cons (.int .i64) (.cons (.int .i64) (.int .i64)))), [.t 16, .t 17], none, []⟩,
    ⟨some 19, .faddr 2 (.int .i64), [.t 18], none, []⟩,
    ⟨some 20, .load (.int .i64), [.t 19], none, []⟩,
    ⟨some 21, .bin .add, [.t 14, .t 20], none, []⟩,
    ⟨some 3, .mv, [.t 21], none, []⟩]))
 (.clean (.reg false [
   ⟨some 12, .mv, [.t 4], none, []⟩,
   ⟨some 13, .bin .add, [.t 12, .int .i64 1], none, []⟩,
   ⟨some 4, .mv, [.t 13], none, []⟩])))))
def x23_0d : List Nat := [3, 4]
def x23 : XF := ⟨23, [.tmp 2], [0, 1, 2, 3, 4],
 (.seq (.reg false [
   ⟨some 1, .box 24, [.t 0], none, []⟩,
   ⟨some 2, .mv, [.int .i64 0], none, []⟩])
 (.seq (.reg false [
   ⟨some 5, .faddr 1 (.int .i64), [.t 1], none, []⟩,
   ⟨some 6, .load (.int .i64), [.t 5], none, []⟩,
   ⟨some 3, .mv, [.t 6], none, []⟩])
 (.seq (.seq (.reg false [
   ⟨some 4, .mv, [.int .i64 0], none, []⟩])
 (.block 0 (.loop x23_0)))
 (.seq (.reg false [
   ⟨some 22, .mv, [.t 3], none, []⟩,
   ⟨some 2, .mv, [.t 22], none, []⟩])
 .ret))))⟩
/- 0=s 1=s 2= 3=n 4=i -/
/-! tonneau/tonneaulaw40.all -/
def x24_0 : XC := (.seq (.seq (.reg false [
   ⟨some 10, .mv, [.t 4], none, []⟩,
   ⟨some 11, .faddr 2 (.sl (.st (.cons (.int .i64) (.cons (.int .i64) (.int .i64))))), [.t 1], none, []⟩,
   ⟨some 12, .load (.sl (.st (.cons (.int .i64) (.cons (.int .i64) (.int .i64))))), [.t 11], none, []⟩,
   ⟨some 13, .len false, [.t 12], none, []⟩,
   ⟨some 14, .bin .lss, [.t 10, .t 13], none, []⟩])
 (.cond (.t 14)
  .skip
  (.exit 0)))
 (.clean (.seq (.block 1 (.reg true [
    ⟨some 17, .mv, [.t 3], none, []⟩,
    ⟨some 18, .faddr 2 (.sl (.st (.cons (.int .i64) (.cons (.int .i64) (.int .i64))))), [.t 1], none, []⟩,
    ⟨some 19, .load (.sl (.st (.cons (.int .i64) (.cons (.int .i64) (.int .i64))))), [.t 18], none, [1]⟩,
    ⟨some 20, .mv, [.t 4], none, []⟩,
    ⟨some 21, .iaddr (.st (.cons (.int .i64) (.cons (.int .i64) (.int .i64)))), [.t 19, .t 20], none, [2, 1, 3]⟩,
    ⟨some 22, .faddr 1 (.int .i64), [.t 21], none, [4, 2, 1, 3]⟩,
    ⟨some 23, .load (.int .i64), [.t 22], none, [5, 4, 2, 1, 3]⟩,
    ⟨some 24, .bin .add, [.t 17, .t 23], none, [0, 6, 5, 4, 2, 1, 3]⟩,
    ⟨some 25, .faddr 2 (.sl (.st (.cons (.int .i64) (.cons (.int .i64) (.int .i64))))), [.t 1], none, []⟩,
    ⟨some 26, .load (.sl (.st (.cons (.int .i64) (.cons (.int .i64) (.int .i64))))), [.t 25], none, [8]⟩,
    ⟨some 27, .mv, [.t 4], none, []⟩,
    ⟨some 28, .iaddr (.st (.cons (.int .i64) (.cons (.int .i64) (.int .i64)))), [.t 26, .t 27], none, [9, 8, 10]⟩,
    ⟨some 29, .faddr 2 (.int .i64), [.t 28], none, [11, 9, 8, 10]⟩,
    ⟨some 30, .load (.int .i64), [.t 29], none, [12, 11, 9, 8, 10]⟩,
    ⟨some 31, .bin .sub, [.t 24, .t 30], none, [7, 0, 6, 5, 4, 2, 1, 3, 13, 12, 11, 9, 8, 10]⟩,
    ⟨some 3, .mv, [.t 31], none, [14, 7, 0, 6, 5, 4, 2, 1, 3, 13, 12, 11, 9, 8, 10]⟩]))
 (.clean (.reg false [
   ⟨some 15, .mv, [.t 4], none, []⟩,
   ⟨some 16, .bin .add, [.t 15, .int .i64 1], none, []⟩,
   ⟨some 4, .mv, [.t 16], none, []⟩])))))
def x24_0d : List Nat := [3, 4]
def x24 : XF := ⟨33, [.tmp 2], [0, 1, 2, 3, 4],
 (.seq (.reg false [
   ⟨some 1, .box 24, [.t 0], none, []⟩,
   ⟨some 2, .mv, [.int .i64 0], none, []⟩])
 (.seq (.reg true [
   ⟨some 5, .load (.st (.cons (.int .i64) (.cons (.int .i64) (.sl (.st (.cons (.int .i64) (.cons (.int .i64) (.int .i64)))))))), [.t 1], none, []⟩,
   ⟨some 6, .call 20, [.t 5], none, [0]⟩,
   ⟨some 7, .load (.st (.cons (.int .i64) (.cons (.int .i64) (.sl (.st (.cons (.int .i64) (.cons (.int .i64) (.int .i64)))))))), [.t 1], none, []⟩,
   ⟨some 8, .call 23, [.t 7], none, [2, 1, 0]⟩,
   ⟨some 9, .bin .add, [.t 6, .t 8], none, [1, 0, 3, 2]⟩,
   ⟨some 3, .mv, [.t 9], none, [4, 1, 0, 3, 2]⟩])
 (.clean (.seq (.seq (.reg false [
   ⟨some 4, .mv, [.int .i64 0], none, []⟩])
 (.block 0 (.loop x24_0)))
 (.seq (.reg false [
   ⟨some 32, .mv, [.t 3], none, []⟩,
   ⟨some 2, .mv, [.t 32], none, []⟩])
 .ret)))))⟩
/- 0=s 1=s 2= 3=n 4=i -/
/-! tonneau/tonneaulaw40.loan -/
def x25_0 : XC := (.seq (.seq (.reg false [
   ⟨some 6, .mv, [.t 5], none, []⟩,
   ⟨some 7, .faddr 2 (.sl (.st (.cons (.int .i64) (.cons (.int .i64) (.int .i64))))), [.t 2], none, []⟩,
   ⟨some 8, .load (.sl (.st (.cons (.int .i64) (.cons (.int .i64) (.int .i64))))), [.t 7], none, []⟩,
   ⟨some 9, .len false, [.t 8], none, []⟩,
   ⟨some 10, .bin .lss, [.t 6, .t 9], none, []⟩])
 (.cond (.t 10)
  .skip
  (.exit 0)))
 (.clean (.seq (.block 1 (.seq (.reg false [
    ⟨some 13, .faddr 2 (.sl (.st (.cons (.int .i64) (.cons (.int .i64) (.int .i64))))), [.t 2], none, []⟩,
    ⟨some 14, .load (.sl (.st (.cons (.int .i64) (.cons (.int .i64) (.int .i64))))), [.t 13], none, []⟩,
    ⟨some 15, .mv, [.t 5], none, []⟩,
    ⟨some 16, .iaddr (.st (.cons (.int .i64) (.cons (.int .i64) (.int .i64)))), [.t 14, .t 15], none, []⟩,
    ⟨some 17, .faddr 0 (.int .i64), [.t 16], none, []⟩,
    ⟨some 18, .load (.int .i64), [.t 17], none, []⟩,
    ⟨some 19, .mv, [.t 1], none, []⟩,
    ⟨some 20, .bin .eql, [.t 18, .t 19], none, []⟩])
  (.cond (.t 20)
   (.seq (.reg false [
     ⟨some 21, .faddr 2 (.sl (.st (.cons (.int .i64) (.cons (.int .i64) (.int .i64))))), [.t 2], none, []⟩,
     ⟨some 22, .load (.sl (.st (.cons (.int .i64) (.cons (.int .i64) (.int .i64))))), [.t 21], none, []⟩,
     ⟨some 23, .mv, [.t 5], none, []⟩,
     ⟨some 24, .iaddr (.st (.cons (.int .i64) (.cons (.int .i64) (.int .i64)))), [.t 22, .t 23], none, []⟩,
     ⟨some 25, .load (.st (.cons (.int .i64) (.cons (.int .i64) (.int .i64)))), [.t 24], none, []⟩,
     ⟨none, .store (.st (.cons (.int .i64) (.cons (.int .i64) (.int .i64)))), [.t 4, .t 25], none, []⟩])
   .ret)
   .skip)))
 (.clean (.reg false [
   ⟨some 11, .mv, [.t 5], none, []⟩,
   ⟨some 12, .bin .add, [.t 11, .int .i64 1], none, []⟩,
   ⟨some 5, .mv, [.t 12], none, []⟩])))))
def x25_0d : List Nat := [5]
def x25 : XF := ⟨27, [.cell 4 (.st (.cons (.int .i64) (.cons (.int .i64) (.int .i64))))], [0, 1, 2, 4, 5],
 (.seq (.reg false [
   ⟨some 2, .box 24, [.t 0], none, []⟩,
   ⟨some 4, .alloc 41 (.st (.cons (.int .i64) (.cons (.int .i64) (.int .i64)))), [], none, []⟩])
 (.seq (.seq (.reg false [
   ⟨some 5, .mv, [.int .i64 0], none, []⟩])
 (.block 0 (.loop x25_0)))
 (.seq (.reg false [
   ⟨some 26, .build (.st (.cons (.int .i64) (.cons (.int .i64) (.int .i64)))) [], [], none, []⟩,
   ⟨none, .store (.st (.cons (.int .i64) (.cons (.int .i64) (.int .i64)))), [.t 4, .t 26], none, []⟩])
 .ret)))⟩
/- 0=s 1=phone 2=s 4= 5=i -/
/-! tonneau/stock.fits -/
def x28 : XF := ⟨25, [.tmp 6], [0, 1, 2, 3, 6],
 (.seq (.reg false [
   ⟨some 3, .box 24, [.t 0], none, []⟩,
   ⟨some 6, .mv, [.bool false], none, []⟩])
 (.seq (.reg false [
   ⟨some 7, .load (.st (.cons (.int .i64) (.cons (.int .i64) (.sl (.st (.cons (.int .i64) (.cons (.int .i64) (.int .i64)))))))), [.t 3], none, []⟩,
   ⟨some 8, .call 18, [.t 7], none, []⟩,
   ⟨some 9, .mv, [.t 8], none, []⟩,
   ⟨some 10, .mv, [.t 1], some (2, 9, true), []⟩,
   ⟨some 11, .bin .geq, [.t 10, .int .i64 0], some (2, 9, true), []⟩,
   ⟨some 12, .pick, [.t 9, .t 11, .bool false], none, []⟩,
   ⟨some 13, .mv, [.t 12], none, []⟩,
   ⟨some 14, .mv, [.t 1], some (6, 13, true), []⟩,
   ⟨some 15, .bin .lss, [.t 14, .int .i64 12], some (6, 13, true), []⟩,
   ⟨some 16, .pick, [.t 13, .t 15, .bool false], none, []⟩,
   ⟨some 17, .mv, [.t 16], none, []⟩,
   ⟨some 18, .mv, [.t 2], some (10, 17, true), []⟩,
   ⟨some 19, .bin .geq, [.t 18, .int .i64 1], some (10, 17, true), []⟩,
   ⟨some 20, .pick, [.t 17, .t 19, .bool false], none, []⟩,
   ⟨some 21, .mv, [.t 20], none, []⟩,
   ⟨some 22, .mv, [.t 2], some (14, 21, true), []⟩,
   ⟨some 23, .bin .leq, [.t 22, .int .i64 1000000000000000], some (14, 21, true), []⟩,
   ⟨some 24, .pick, [.t 21, .t 23, .bool false], none, []⟩,
   ⟨some 6, .mv, [.t 24], none, []⟩])
 .ret))⟩
/- 0=s 1=phone 2=units 3=s 6= -/
/-! tonneau/tonneauref40.fits -/
def x29 : XF := ⟨17, [.tmp 6], [0, 1, 2, 3, 6],
 (.seq (.reg false [
   ⟨some 3, .box 24, [.t 0], none, []⟩,
   ⟨some 6, .mv, [.bool false], none, []⟩])
 (.seq (.reg false [
   ⟨some 7, .load (.st (.cons (.int .i64) (.cons (.int .i64) (.sl (.st (.cons (.int .i64) (.cons (.int .i64) (.int .i64)))))))), [.t 3], none, []⟩,
   ⟨some 8, .call 19, [.t 7], none, []⟩,
   ⟨some 9, .mv, [.t 8], none, []⟩,
   ⟨some 10, .mv, [.t 1], some (2, 9, true), []⟩,
   ⟨some 11, .call 36, [.t 10, .int .i64 0, .int .i64 11], some (2, 9, true), []⟩,
   ⟨some 12, .pick, [.t 9, .t 11, .bool false], none, []⟩,
   ⟨some 13, .mv, [.t 12], none, []⟩,
   ⟨some 14, .mv, [.t 2], some (6, 13, true), []⟩,
   ⟨some 15, .call 36, [.t 14, .int .i64 1, .int .i64 1000000000000000], some (6, 13, true), []⟩,
   ⟨some 16, .pick, [.t 13, .t 15, .bool false], none, []⟩,
   ⟨some 6, .mv, [.t 16], none, []⟩])
 .ret))⟩
/- 0=s 1=phone 2=units 3=s 6= -/
/-! tonneau/stock.find -/
def x30 : XF := ⟨12, [.tmp 4, .tmp 5], [0, 1, 2, 4, 5],
 (.seq (.reg false [
   ⟨some 2, .box 24, [.t 0], none, []⟩,
   ⟨some 4, .mv, [.int .i64 0], none, []⟩,
   ⟨some 5, .mv, [.bool false], none, []⟩])
 (.seq (.reg false [
   ⟨some 6, .faddr 2 (.sl (.st (.cons (.int .i64) (.cons (.int .i64) (.int .i64))))), [.t 2], none, []⟩,
   ⟨some 7, .load (.sl (.st (.cons (.int .i64) (.cons (.int .i64) (.int .i64))))), [.t 6], none, []⟩,
   ⟨some 8, .mv, [.t 1], none, []⟩,
   ⟨some 9, .call 37, [.t 7, .t 8, .fn 38], none, []⟩,
   ⟨some 10, .extract 0, [.t 9], none, []⟩,
   ⟨some 11, .extract 1, [.t 9], none, []⟩,
   ⟨some 4, .mv, [.t 10], none, []⟩,
   ⟨some 5, .mv, [.t 11], none, []⟩])
 .ret))⟩
/- 0=s 1=phone 2=s 4= 5= -/
/-! slices.Insert[[]tonneau/api.Loan,tonneau/api.Loan] -/
def x31 : XF := ⟨95, [.tmp 6], [0, 1, 2, 6, 7, 8, 9],
 (.seq (.reg false [
   ⟨some 6, .nilrow 41 (.st (.cons (.int .i64) (.cons (.int .i64) (.int .i64)))), [], none, []⟩])
 (.seq (.reg false [
   ⟨some 10, .mv, [.t 0], none, []⟩,
   ⟨some 11, .mv, [.t 1], none, []⟩,
   ⟨some 12, .slice (.st (.cons (.int .i64) (.cons (.int .i64) (.int .i64)))) true false false, [.t 10, .t 11], none, []⟩])
 (.seq (.reg false [
   ⟨some 13, .mv, [.t 2], none, []⟩,
   ⟨some 14, .len false, [.t 13], none, []⟩,
   ⟨some 7, .mv, [.t 14], none, []⟩])
 (.seq (.seq (.reg false [
   ⟨some 15, .mv, [.t 7], none, []⟩,
   ⟨some 16, .bin .eql, [.t 15, .int .i64 0], none, []⟩])
 (.cond (.t 16)
  (.seq (.reg false [
    ⟨some 17, .mv, [.t 0], none, []⟩,
    ⟨some 6, .mv, [.t 17], none, []⟩])
  .ret)
  .skip))
 (.seq (.reg false [
   ⟨some 18, .mv, [.t 0], none, []⟩,
   ⟨some 19, .len false, [.t 18], none, []⟩,
   ⟨some 8, .mv, [.t 19], none, []⟩])
 (.seq (.seq (.reg false [
   ⟨some 20, .mv, [.t 1], none, []⟩,
   ⟨some 21, .mv, [.t 8], none, []⟩,
   ⟨some 22, .bin .eql, [.t 20, .t 21], none, []⟩])
 (.cond (.t 22)
  (.seq (.reg false [
    ⟨some 23, .mv, [.t 0], none, []⟩,
    ⟨some 24, .mv, [.t 2], none, []⟩,
    ⟨some 25, .append 41 (.st (.cons (.int .i64) (.cons (.int .i64) (.int .i64)))) 24, [.t 23, .t 24], none, []⟩,
    ⟨some 6, .mv, [.t 25], none, []⟩])
  .ret)
  .skip))
 (.clean (.seq (.seq .dead /- call -/
 (.cond (.t 31)
  (.seq (.reg false [
    ⟨some 32, .mv, [.t 0], none, []⟩,
    ⟨some 33, .mv, [.t 1], none, []⟩,
    ⟨some 34, .slice (.st (.cons (.int .i64) (.cons (.int .i64) (.int .i64)))) false true false, [.t 32, .t 33], none, []⟩,
    ⟨some 35, .mv, [.t 8], none, []⟩,
    ⟨some 36, .mv, [.t 7], none, []⟩,
    ⟨some 37, .bin .add, [.t 35, .t 36], none, []⟩,
    ⟨some 38, .mv, [.t 1], none, []⟩,
    ⟨some 39, .bin .sub, [.t 37, .t 38], none, []⟩,
    ⟨some 40, .append 41 (.st (.cons (.int .i64) (.cons (.int .i64) (.int .i64)))) 24, [.t 34, .t 39], none, []⟩,
    ⟨some 9, .mv, [.t 40], none, []⟩])
  (.clean (.seq (.reg false [
    ⟨some 41, .mv, [.t 9], none, []⟩,
    ⟨some 42, .mv, [.t 1], none, []⟩,
    ⟨some 43, .slice (.st (.cons (.int .i64) (.cons (.int .i64) (.int .i64)))) true false true, [.t 41, .t 42], none, []⟩,
    ⟨some 44, .mv, [.t 2], none, []⟩,
    ⟨some 45, .copy 41 (.st (.cons (.int .i64) (.cons (.int .i64) (.int .i64)))), [.t 43, .t 44], none, []⟩])
  (.seq (.reg true [
    ⟨some 46, .mv, [.t 9], none, []⟩,
    ⟨some 47, .mv, [.t 1], none, []⟩,
    ⟨some 48, .mv, [.t 7], none, []⟩,
    ⟨some 49, .bin .add, [.t 47, .t 48], none, [1, 2]⟩,
    ⟨some 50, .slice (.st (.cons (.int .i64) (.cons (.int .i64) (.int .i64)))) true false true, [.t 46, .t 49], none, [0, 3, 1, 2]⟩,
    ⟨some 51, .mv, [.t 0], none, []⟩,
    ⟨some 52, .mv, [.t 1], none, []⟩,
    ⟨some 53, .slice (.st (.cons (.int .i64) (.cons (.int .i64) (.int .i64)))) true false true, [.t 51, .t 52], none, [5, 6]⟩,
    ⟨some 54, .copy 41 (.st (.cons (.int .i64) (.cons (.int .i64) (.int .i64)))), [.t 50, .t 53], none, [4, 0, 3, 1, 2, 7, 5, 6]⟩])
  (.seq (.reg false [
    ⟨some 55, .mv, [.t 9], none, []⟩,
    ⟨some 6, .mv, [.t 55], none, []⟩])
  .ret)))))
  .skip))
 (.clean (.seq (.reg false [
   ⟨some 56, .mv, [.t 0], none, []⟩,
   ⟨some 57, .mv, [.t 8], none, []⟩,
   ⟨some 58, .mv, [.t 7], none, []⟩,
   ⟨some 59, .bin .add, [.t 57, .t 58], none, []⟩,
   ⟨some 60, .slice (.st (.cons (.int .i64) (.cons (.int .i64) (.int .i64)))) false true false, [.t 56, .t 59], none, []⟩,
   ⟨some 0, .mv, [.t 60], none, []⟩])
 (.clean (.seq (.seq (.reg false [
   ⟨some 61, .mv, [.t 2], none, []⟩,
   ⟨some 62, .mv, [.t 0], none, []⟩,
   ⟨some 63, .mv, [.t 1], none, []⟩,
   ⟨some 64, .mv, [.t 7], none, []⟩,
   ⟨some 65, .bin .add, [.t 63, .t 64], none, []⟩,
   ⟨some 66, .slice (.st (.cons (.int .i64) (.cons (.int .i64) (.int .i64)))) true false false, [.t 62, .t 65], none, []⟩,
   ⟨some 67, .call 40, [.t 61, .t 66], none, []⟩,
   ⟨some 68, .not, [.t 67], none, []⟩])
 (.cond (.t 68)
  (.seq (.reg true [
    ⟨some 69, .mv, [.t 0], none, []⟩,
    ⟨some 70, .mv, [.t 1], none, []⟩,
    ⟨some 71, .mv, [.t 7], none, []⟩,
    ⟨some 72, .bin .add, [.t 70, .t 71], none, [1, 2]⟩,
    ⟨some 73, .slice (.st (.cons (.int .i64) (.cons (.int .i64) (.int .i64)))) true false true, [.t 69, .t 72], none, [0, 3, 1, 2]⟩,
    ⟨some 74, .mv, [.t 0], none, []⟩,
    ⟨some 75, .mv, [.t 1], none, []⟩,
    ⟨some 76, .slice (.st (.cons (.int .i64) (.cons (.int .i64) (.int .i64)))) true false true, [.t 74, .t 75], none, [5, 6]⟩,
    ⟨some 77, .copy 41 (.st (.cons (.int .i64) (.cons (.int .i64) (.int .i64)))), [.t 73, .t 76], none, [4, 0, 3, 1, 2, 7, 5, 6]⟩])
  (.clean (.seq (.reg false [
    ⟨some 78, .mv, [.t 0], none, []⟩,
    ⟨some 79, .mv, [.t 1], none, []⟩,
    ⟨some 80, .slice (.st (.cons (.int .i64) (.cons (.int .i64) (.int .i64)))) true false true, [.t 78, .t 79], none, []⟩,
    ⟨some 81, .mv, [.t 2], none, []⟩,
    ⟨some 82, .copy 41 (.st (.cons (.int .i64) (.cons (.int .i64) (.int .i64)))), [.t 80, .t 81], none, []⟩])
  (.seq (.reg false [
    ⟨some 83, .mv, [.t 0], none, []⟩,
    ⟨some 6, .mv, [.t 83], none, []⟩])
  .ret))))
  .skip))
 (.clean (.seq (.reg false [
   ⟨some 84, .mv, [.t 0], none, []⟩,
   ⟨some 85, .mv, [.t 8], none, []⟩,
   ⟨some 86, .slice (.st (.cons (.int .i64) (.cons (.int .i64) (.int .i64)))) true false true, [.t 84, .t 85], none, []⟩,
   ⟨some 87, .mv, [.t 2], none, []⟩,
   ⟨some 88, .copy 41 (.st (.cons (.int .i64) (.cons (.int .i64) (.int .i64)))), [.t 86, .t 87], none, []⟩])
 (.seq (.reg false [
   ⟨some 89, .mv, [.t 0], none, []⟩,
   ⟨some 90, .mv, [.t 1], none, []⟩,
   ⟨some 91, .slice (.st (.cons (.int .i64) (.cons (.int .i64) (.int .i64)))) true false false, [.t 89, .t 90], none, []⟩,
   ⟨some 92, .mv, [.t 7], none, []⟩,
   ⟨some 93, .call 41, [.t 91, .t 92], none, []⟩])
 (.seq (.reg false [
   ⟨some 94, .mv, [.t 0], none, []⟩,
   ⟨some 6, .mv, [.t 94], none, []⟩])
 .ret))))))))))))))))⟩
/- 0=s 1=i 2=v 6= 7=m 8=n 9=s2 -/
/-! tonneau/tonneauref40.find -/
def x32_0 : XC := (.seq (.seq (.reg false [
   ⟨some 6, .mv, [.t 5], none, []⟩,
   ⟨some 7, .faddr 2 (.sl (.st (.cons (.int .i64) (.cons (.int .i64) (.int .i64))))), [.t 2], none, []⟩,
   ⟨some 8, .load (.sl (.st (.cons (.int .i64) (.cons (.int .i64) (.int .i64))))), [.t 7], none, []⟩,
   ⟨some 9, .len false, [.t 8], none, []⟩,
   ⟨some 10, .bin .lss, [.t 6, .t 9], none, []⟩])
 (.cond (.t 10)
  .skip
  (.exit 0)))
 (.clean (.seq (.block 1 (.seq (.reg false [
    ⟨some 13, .faddr 2 (.sl (.st (.cons (.int .i64) (.cons (.int .i64) (.int .i64))))), [.t 2], none, []⟩,
    ⟨some 14, .load (.sl (.st (.cons (.int .i64) (.cons (.int .i64) (.int .i64))))), [.t 13], none, []⟩,
    ⟨some 15, .mv, [.t 5], none, []⟩,
    ⟨some 16, .iaddr (.st (.cons (.int .i64) (.cons (.int .i64) (.int .i64)))), [.t 14, .t 15], none, []⟩,
    ⟨some 17, .faddr 0 (.int .i64), [.t 16], none, []⟩,
    ⟨some 18, .load (.int .i64), [.t 17], none, []⟩,
    ⟨some 19, .mv, [.t 1], none, []⟩,
    ⟨some 20, .bin .eql, [.t 18, .t 19], none, []⟩])
  (.cond (.t 20)
   (.seq (.reg false [
     ⟨some 21, .mv, [.t 5], none, []⟩,
     ⟨some 4, .mv, [.t 21], none, []⟩])
   .ret)
   .skip)))
 (.clean (.reg false [
   ⟨some 11, .mv, [.t 5], none, []⟩,
   ⟨some 12, .bin .add, [.t 11, .int .i64 1], none, []⟩,
   ⟨some 5, .mv, [.t 12], none, []⟩])))))
def x32_0d : List Nat := [4, 5]
def x32 : XF := ⟨22, [.tmp 4], [0, 1, 2, 4, 5],
 (.seq (.reg false [
   ⟨some 2, .box 24, [.t 0], none, []⟩,
   ⟨some 4, .mv, [.int .i64 0], none, []⟩])
 (.seq (.seq (.reg false [
   ⟨some 5, .mv, [.int .i64 0], none, []⟩])
 (.block 0 (.loop x32_0)))
 (.seq (.reg false [
   ⟨some 4, .mv, [.int .i64 (-1)], none, []⟩])
 .ret)))⟩
/- 0=s 1=phone 2=s 4= 5=i -/
/-! slices.Delete[[]tonneau/api.Loan,tonneau/api.Loan] -/
def x33 : XF := ⟨33, [.tmp 6], [0, 1, 2, 6, 7],
 (.seq (.reg false [
   ⟨some 6, .nilrow 41 (.st (.cons (.int .i64) (.cons (.int .i64) (.int .i64)))), [], none, []⟩])
 (.seq .dead /- op -/
 (.clean (.seq (.seq (.reg false [
   ⟨some 14, .mv, [.t 1], none, []⟩,
   ⟨some 15, .mv, [.t 2], none, []⟩,
   ⟨some 16, .bin .eql, [.t 14, .t 15], none, []⟩])
 (.cond (.t 16)
  (.seq (.reg false [
    ⟨some 17, .mv, [.t 0], none, []⟩,
    ⟨some 6, .mv, [.t 17], none, []⟩])
  .ret)
  .skip))
 (.clean (.seq (.reg false [
   ⟨some 18, .mv, [.t 0], none, []⟩,
   ⟨some 19, .len false, [.t 18], none, []⟩,
   ⟨some 7, .mv, [.t 19], none, []⟩])
 (.seq (.reg true [
   ⟨some 20, .mv, [.t 0], none, []⟩,
   ⟨some 21, .mv, [.t 1], none, []⟩,
   ⟨some 22, .slice (.st (.cons (.int .i64) (.cons (.int .i64) (.int .i64)))) false true false, [.t 20, .t 21], none, [0, 1]⟩,
   ⟨some 23, .mv, [.t 0], none, []⟩,
   ⟨some 24, .mv, [.t 2], none, []⟩,
   ⟨some 25, .slice (.st (.cons (.int .i64) (.cons (.int .i64) (.int .i64)))) true false false, [.t 23, .t 24], none, [3, 4]⟩,
   ⟨some 26, .append 41 (.st (.cons (.int .i64) (.cons (.int .i64) (.int .i64)))) 24, [.t 22, .t 25], none, [2, 0, 1, 5, 3, 4]⟩,
   ⟨some 0, .mv, [.t 26], none, [6, 2, 0, 1, 5, 3, 4]⟩])
 (.clean (.seq .dead /- call -/
 (.seq (.reg false [
   ⟨some 32, .mv, [.t 0], none, []⟩,
   ⟨some 6, .mv, [.t 32], none, []⟩])
 .ret))))))))))⟩
/- 0=s 1=i 2=j 6= 7=oldlen -/
/-! tonneau/tonneauref40.left -/
def x34_0 : XC := (.seq (.seq (.reg false [
   ⟨some 29, .mv, [.t 4], none, []⟩,
   ⟨some 30, .faddr 2 (.sl (.st (.cons (.int .i64) (.cons (.int .i64) (.int .i64))))), [.t 1], none, []⟩,
   ⟨some 31, .load (.sl (.st (.cons (.int .i64) (.cons (.int .i64) (.int .i64))))), [.t 30], none, []⟩,
   ⟨some 32, .len false, [.t 31], none, []⟩,
   ⟨some 33, .bin .lss, [.t 29, .t 32], none, []⟩])
 (.cond (.t 33)
  .skip
  (.exit 0)))
 (.clean (.seq (.block 1 (.seq (.reg false [
    ⟨some 36, .faddr 2 (.sl (.st (.cons (.int .i64) (.cons (.int .i64) (.int .i64))))), [.t 1], none, []⟩,
    ⟨some 37, .load (.sl (.st (.cons (.int .i64) (.cons (.int .i64) (.int .i64))))), [.t 36], none, []⟩,
    ⟨some 38, .mv, [.t 4], none, []⟩,
    ⟨some 39, .iaddr (.st (.cons (.int .i64) (.cons (.int .i64) (.int .i64)))), [.t 37, .t 38], none, []⟩,
    ⟨some 40, .load (.st (.cons (.int .i64) (.cons (.int .i64) (.int .i64)))), [.t 39], none, []⟩,
    ⟨some 5, .alloc 41 (.st (.cons (.int .i64) (.cons (.int .i64) (.int .i64)))), [], none, []⟩,
    ⟨none, .store (.st (.cons (.int .i64) (.cons (.int .i64) (.int .i64)))), [.t 5, .t 40], none, []⟩])
  (.clean (.seq (.seq (.reg true [
    ⟨some 41, .faddr 0 (.int .i64), [.t 5], none, []⟩,
    ⟨some 42, .load (.int .i64), [.t 41], none, [0]⟩,
    ⟨some 43, .call 36, [.t 42, .int .i64 0, .int .i64 11], none, [1, 0]⟩,
    ⟨some 44, .not, [.t 43], none, [2, 1, 0]⟩,
    ⟨some 45, .mv, [.t 44], none, [3, 2, 1, 0]⟩,
    ⟨some 46, .mv, [.t 4], some (4, 45, false), [4, 3, 2, 1, 0]⟩,
    ⟨some 47, .bin .gtr, [.t 46, .int .i64 0], some (4, 45, false), [5, 4, 3, 2, 1, 0]⟩,
    ⟨some 48, .mv, [.t 47], some (4, 45, false), [6, 5, 4, 3, 2, 1, 0]⟩,
    ⟨some 49, .faddr 2 (.sl (.st (.cons (.int .i64) (.cons (.int .i64) (.int .i64))))), [.t 1], some (7, 48, true), [7, 6, 5, 4, 3, 2, 1, 0]⟩,
    ⟨some 50, .load (.sl (.st (.cons (.int .i64) (.cons (.int .i64) (.int .i64))))), [.t 49], some (7, 48, true), [8, 7, 6, 5, 4, 3, 2, 1, 0]⟩,
    ⟨some 51, .mv, [.t 4], some (7, 48, true), [7, 6, 5, 4, 3, 2, 1, 0]⟩,
    ⟨some 52, .bin .sub, [.t 51, .int .i64 1], some (7, 48, true), [10, 7, 6, 5, 4, 3, 2, 1, 0]⟩,
    ⟨some 53, .iaddr (.st (.cons (.int .i64) (.cons (.int .i64) (.int .i64)))), [.t 50, .t 52], some (7, 48, true), [9, 8, 7, 6, 5, 4, 3, 2, 1, 0, 11, 10]⟩,
    ⟨some 54, .faddr 0 (.int .i64), [.t 53], some (7, 48, true), [12, 9, 8, 7, 6, 5, 4, 3, 2, 1, 0, 11, 10]⟩,
    ⟨some 55, .load (.int .i64), [.t 54], some (7, 48, true), [13, 12, 9, 8, 7, 6, 5, 4, 3, 2, 1, 0, 11, 10]⟩,
    ⟨some 56, .faddr 0 (.int .i64), [.t 5], some (7, 48, true), [7, 6, 5, 4, 3, 2, 1, 0]⟩,
    ⟨some 57, .load (.int .i64), [.t 56], some (7, 48, true), [15, 7, 6, 5, 4, 3, 2, 1, 0]⟩,
    ⟨some 58, .bin .geq, [.t 55, .t 57], some (7, 48, true), [14, 13, 12, 9, 8, 7, 6, 5, 4, 3, 2, 1, 0, 11, 10, 16, 15]⟩,
    ⟨some 59, .pick, [.t 48, .t 58, .bool false], some (4, 45, false), [7, 6, 5, 4, 3, 2, 1, 0, 17, 14, 13, 12, 9, 8, 11, 10, 16, 15]⟩,
    ⟨some 60, .pick, [.t 45, .bool true, .t 59], none, [4, 3, 2, 1, 0, 18, 7, 6, 5, 17, 14, 13, 12, 9, 8, 11, 10, 16, 15]⟩,
    ⟨some 61, .mv, [.t 60], none, [19, 4, 3, 2, 1, 0, 18, 7, 6, 5, 17, 14, 13, 12, 9, 8, 11, 10, 16, 15]⟩,
    ⟨some 62, .faddr 1 (.int .i64), [.t 5], some (20, 61, false), [20, 19, 4, 3, 2, 1, 0, 18, 7, 6, 5, 17, 14, 13, 12, 9, 8, 11, 10, 16, 15]⟩,
    ⟨some 63, .load (.int .i64), [.t 62], some (20, 61, false), [21, 20, 19, 4, 3, 2, 1, 0, 18, 7, 6, 5, 17, 14, 13, 12, 9, 8, 11, 10, 16, 15]⟩,
    ⟨some 64, .mv, [.t 3], some (20, 61, false), [20, 19, 4, 3, 2, 1, 0, 18, 7, 6, 5, 17, 14, 13, 12, 9, 8, 11, 10, 16, 15]⟩,
    ⟨some 65, .call 36, [.t 63, .int .i64 1, .t 64], some (20, 61, false), [22, 21, 20, 19, 4, 3, 2, 1, 0, 18, 7, 6, 5, 17, 14, 13, 12, 9, 8, 11, 10, 16, 15, 23]⟩,
    ⟨some 66, .not, [.t 65], some (20, 61, false), [24, 22, 21, 20, 19, 4, 3, 2, 1, 0, 18, 7, 6, 5, 17, 14, 13, 12, 9, 8, 11, 10, 16, 15, 23]⟩,
    ⟨some 67, .pick, [.t 61, .bool true, .t 66], none, [20, 19, 4, 3, 2, 1, 0, 18, 7, 6, 5, 17, 14, 13, 12, 9, 8, 11, 10, 16, 15, 25, 24, 22, 21, 23]⟩,
    ⟨some 68, .mv, [.t 67], none, [26, 20, 19, 4, 3, 2, 1, 0, 18, 7, 6, 5, 17, 14, 13, 12, 9, 8, 11, 10, 16, 15, 25, 24, 22, 21, 23]⟩,
    ⟨some 69, .faddr 2 (.int .i64), [.t 5], some (27, 68, false), [27, 26, 20, 19, 4, 3, 2, 1, 0, 18, 7, 6, 5, 17, 14, 13, 12, 9, 8, 11, 10, 16, 15, 25, 24, 22, 21, 23]⟩,
    ⟨some 70, .load (.int .i64), [.t 69], some (27, 68, false), [28, 27, 26, 20, 19, 4, 3, 2, 1, 0, 18, 7, 6, 5, 17, 14, 13, 12, 9, 8, 11, 10, 16, 15, 25, 24, 22, 21, 23]⟩,
    ⟨some 71, .faddr 1 (.int .i64), [.t 5], some (27, 68, false), [27, 26, 20, 19, 4, 3, 2, 1, 0, 18, 7, 6, 5, 17, 14, 13, 12, 9, 8, 11, 10, 16, 15, 25, 24, 22, 21, 23]⟩,
    ⟨some 72, .load (.int .i64), [.t 71], some (27, 68, false), [30, 27, 26, 20, 19, 4, 3, 2, 1, 0, 18, 7, 6, 5, 17, 14, 13, 12, 9, 8, 11, 10, 16, 15, 25, 24, 22, 21, 23]⟩,
    ⟨some 73, .call 36, [.t 70, .int .i64 0, .t 72], some (27, 68, false), [29, 28, 27, 26, 20, 19, 4, 3, 2, 1, 0, 18, 7, 6, 5, 17, 14, 13, 12, 9, 8, 11, 10, 16, 15, 25, 24, 22, 21, 23, 31, 30]⟩,
    ⟨some 74, .not, [.t 73], some (27, 68, false), [32, 29, 28, 27, 26, 20, 19, 4, 3, 2, 1, 0, 18, 7, 6, 5, 17, 14, 13, 12, 9, 8, 11, 10, 16, 15, 25, 24, 22, 21, 23, 31, 30]⟩,
    ⟨some 75, .pick, [.t 68, .bool true, .t 74], none, [27, 26, 20, 19, 4, 3, 2, 1, 0, 18, 7, 6, 5, 17, 14, 13, 12, 9, 8, 11, 10, 16, 15, 25, 24, 22, 21, 23, 33, 32, 29, 28, 31, 30]⟩])
  (.cond (.t 75)
   (.seq (.reg false [
     ⟨some 2, .mv, [.int .i64 (-1)], none, []⟩])
   .ret)
   .skip))
  (.clean (.reg false [
    ⟨some 76, .mv, [.t 3], none, []⟩,
    ⟨some 77, .faddr 1 (.int .i64), [.t 5], none, []⟩,
    ⟨some 78, .load (.int .i64), [.t 77], none, []⟩,
    ⟨some 79, .bin .sub, [.t 76, .t 78], none, []⟩,
    ⟨some 3, .mv, [.t 79], none, []⟩]))))))
 (.clean (.reg false [
   ⟨some 34, .mv, [.t 4], none, []⟩,
   ⟨some 35, .bin .add, [.t 34, .int .i64 1], none, []⟩,
   ⟨some 4, .mv, [.t 35], none, []⟩])))))
def x34_0d : List Nat := [2, 3, 4, 5]
def x34 : XF := ⟨81, [.tmp 2], [0, 1, 2, 3, 4, 5],
 (.seq (.reg false [
   ⟨some 1, .box 24, [.t 0], none, []⟩,
   ⟨some 2, .mv, [.int .i64 0], none, []⟩])
 (.seq (.seq (.reg false [
   ⟨some 6, .faddr 0 (.int .i64), [.t 1], none, []⟩,
   ⟨some 7, .load (.int .i64), [.t 6], none, []⟩,
   ⟨some 8, .call 36, [.t 7, .int .i64 0, .int .i64 1000000000000000], none, []⟩,
   ⟨some 9, .not, [.t 8], none, []⟩,
   ⟨some 10, .mv, [.t 9], none, []⟩,
   ⟨some 11, .faddr 1 (.int .i64), [.t 1], some (4, 10, false), []⟩,
   ⟨some 12, .load (.int .i64), [.t 11], some (4, 10, false), []⟩,
   ⟨some 13, .faddr 0 (.int .i64), [.t 1], some (4, 10, false), []⟩,
   ⟨some 14, .load (.int .i64), [.t 13], some (4, 10, false), []⟩,
   ⟨some 15, .call 36, [.t 12, .int .i64 0, .t 14], some (4, 10, false), []⟩,
   ⟨some 16, .not, [.t 15], some (4, 10, false), []⟩,
   ⟨some 17, .pick, [.t 10, .bool true, .t 16], none, []⟩,
   ⟨some 18, .mv, [.t 17], none, []⟩,
   ⟨some 19, .faddr 2 (.sl (.st (.cons (.int .i64) (.cons (.int .i64) (.int .i64))))), [.t 1], some (12, 18, false), []⟩,
   ⟨some 20, .load (.sl (.st (.cons (.int .i64) (.cons (.int .i64) (.int .i64))))), [.t 19], some (12, 18, false), []⟩,
   ⟨some 21, .len false, [.t 20], some (12, 18, false), []⟩,
   ⟨some 22, .bin .gtr, [.t 21, .int .i64 12], some (12, 18, false), []⟩,
   ⟨some 23, .pick, [.t 18, .bool true, .t 22], none, []⟩])
 (.cond (.t 23)
  (.seq (.reg false [
    ⟨some 2, .mv, [.int .i64 (-1)], none, []⟩])
  .ret)
  .skip))
 (.clean (.seq (.reg false [
   ⟨some 24, .faddr 0 (.int .i64), [.t 1], none, []⟩,
   ⟨some 25, .load (.int .i64), [.t 24], none, []⟩,
   ⟨some 26, .faddr 1 (.int .i64), [.t 1], none, []⟩,
   ⟨some 27, .load (.int .i64), [.t 26], none, []⟩,
   ⟨some 28, .bin .sub, [.t 25, .t 27], none, []⟩,
   ⟨some 3, .mv, [.t 28], none, []⟩])
 (.clean (.seq (.seq (.reg false [
   ⟨some 4, .mv, [.int .i64 0], none, []⟩])
 (.block 0 (.loop x34_0)))
 (.seq (.reg false [
   ⟨some 80, .mv, [.t 3], none, []⟩,
   ⟨some 2, .mv, [.t 80], none, []⟩])
 .ret)))))))⟩
/- 0=s 1=s 2= 3=free 4=i 5=l -/
/-! slices.Clone[[]tonneau/api.Loan,tonneau/api.Loan] -/
def x35 : XF := ⟨8, [.tmp 2], [0, 2],
 (.seq (.reg false [
   ⟨some 2, .nilrow 41 (.st (.cons (.int .i64) (.cons (.int .i64) (.int .i64)))), [], none, []⟩])
 (.seq (.seq (.reg false [
   ⟨some 3, .mv, [.t 0], none, []⟩,
   ⟨some 4, .isnil false (.st (.cons (.int .i64) (.cons (.int .i64) (.int .i64)))), [.t 3], none, []⟩])
 (.cond (.t 4)
  (.seq (.reg false [
    ⟨some 2, .nilrow 41 (.st (.cons (.int .i64) (.cons (.int .i64) (.int .i64)))), [], none, []⟩])
  .ret)
  .skip))
 (.seq (.reg false [
   ⟨some 5, .bslice 41 (.st (.cons (.int .i64) (.cons (.int .i64) (.int .i64)))) 0 [], [], none, []⟩,
   ⟨some 6, .mv, [.t 0], none, []⟩,
   ⟨some 7, .append 41 (.st (.cons (.int .i64) (.cons (.int .i64) (.int .i64)))) 24, [.t 5, .t 6], none, []⟩,
   ⟨some 2, .mv, [.t 7], none, []⟩])
 .ret)))⟩
/- 0=s 2= -/
/-! tonneau/tonneauref40.in -/
def x36 : XF := ⟨15, [.tmp 6], [0, 1, 2, 6],
 (.seq (.reg false [
   ⟨some 6, .mv, [.bool false], none, []⟩])
 (.seq (.reg false [
   ⟨some 7, .mv, [.t 0], none, []⟩,
   ⟨some 8, .mv, [.t 1], none, []⟩,
   ⟨some 9, .bin .geq, [.t 7, .t 8], none, []⟩,
   ⟨some 10, .mv, [.t 9], none, []⟩,
   ⟨some 11, .mv, [.t 0], some (3, 10, true), []⟩,
   ⟨some 12, .mv, [.t 2], some (3, 10, true), []⟩,
   ⟨some 13, .bin .leq, [.t 11, .t 12], some (3, 10, true), []⟩,
   ⟨some 14, .pick, [.t 10, .t 13, .bool false], none, []⟩,
   ⟨some 6, .mv, [.t 14], none, []⟩])
 .ret))⟩
/- 0=n 1=from 2=to 6= -/
/-! slices.BinarySearchFunc[[]tonneau/api.Loan,tonneau/api.Loan,int] -/
def x37_0 : XC := (.seq (.seq (.reg false [
   ⟨some 15, .mv, [.t 9], none, []⟩,
   ⟨some 16, .mv, [.t 10], none, []⟩,
   ⟨some 17, .bin .lss, [.t 15, .t 16], none, []⟩])
 (.cond (.t 17)
  .skip
  (.exit 0)))
 (.block 1 (.seq (.reg false [
    ⟨some 18, .mv, [.t 9], none, []⟩,
    ⟨some 19, .mv, [.t 10], none, []⟩,
    ⟨some 20, .bin .add, [.t 18, .t 19], none, []⟩,
    ⟨some 21, .conv .u64, [.t 20], none, []⟩,
    ⟨some 22, .bin .shr, [.t 21, .int .u64 1], none, []⟩,
    ⟨some 23, .conv .i64, [.t 22], none, []⟩,
    ⟨some 11, .mv, [.t 23], none, []⟩])
  (.clean (.seq (.reg false [
    ⟨some 24, .mv, [.t 2], none, []⟩,
    ⟨some 25, .mv, [.t 0], none, []⟩,
    ⟨some 26, .mv, [.t 11], none, []⟩,
    ⟨some 27, .iaddr (.st (.cons (.int .i64) (.cons (.int .i64) (.int .i64)))), [.t 25, .t 26], none, []⟩,
    ⟨some 28, .load (.st (.cons (.int .i64) (.cons (.int .i64) (.int .i64)))), [.t 27], none, []⟩,
    ⟨some 29, .mv, [.t 1], none, []⟩,
    ⟨some 30, .callv, [.t 24, .t 28, .t 29], none, []⟩,
    ⟨some 31, .bin .lss, [.t 30, .int .i64 0], none, []⟩])
  (.cond (.t 31)
   (.reg false [
     ⟨some 32, .mv, [.t 11], none, []⟩,
     ⟨some 33, .bin .add, [.t 32, .int .i64 1], none, []⟩,
     ⟨some 9, .mv, [.t 33], none, []⟩])
   (.reg false [
     ⟨some 34, .mv, [.t 11], none, []⟩,
     ⟨some 10, .mv, [.t 34], none, []⟩])))))))
def x37_0d : List Nat := [9, 10, 11]
def x37 : XF := ⟨49, [.tmp 6, .tmp 7], [0, 1, 2, 6, 7, 8, 9, 10, 11],
 (.seq (.reg false [
   ⟨some 6, .mv, [.int .i64 0], none, []⟩,
   ⟨some 7, .mv, [.bool false], none, []⟩])
 (.seq (.reg false [
   ⟨some 12, .mv, [.t 0], none, []⟩,
   ⟨some 13, .len false, [.t 12], none, []⟩,
   ⟨some 8, .mv, [.t 13], none, []⟩])
 (.seq (.reg false [
   ⟨some 14, .mv, [.t 8], none, []⟩,
   ⟨some 9, .mv, [.int .i64 0], none, []⟩,
   ⟨some 10, .mv, [.t 14], none, []⟩])
 (.seq (.block 0 (.loop x37_0))
 (.clean (.seq (.reg false [
   ⟨some 35, .mv, [.t 9], none, []⟩,
   ⟨some 36, .mv, [.t 9], none, []⟩,
   ⟨some 37, .mv, [.t 8], none, []⟩,
   ⟨some 38, .bin .lss, [.t 36, .t 37], none, []⟩,
   ⟨some 39, .mv, [.t 38], none, []⟩,
   ⟨some 40, .mv, [.t 2], some (4, 39, true), []⟩,
   ⟨some 41, .mv, [.t 0], some (4, 39, true), []⟩,
   ⟨some 42, .mv, [.t 9], some (4, 39, true), []⟩,
   ⟨some 43, .iaddr (.st (.cons (.int .i64) (.cons (.int .i64) (.int .i64)))), [.t 41, .t 42], some (4, 39, true), []⟩,
   ⟨some 44, .load (.st (.cons (.int .i64) (.cons (.int .i64) (.int .i64)))), [.t 43], some (4, 39, true), []⟩,
   ⟨some 45, .mv, [.t 1], some (4, 39, true), []⟩,
   ⟨some 46, .callv, [.t 40, .t 44, .t 45], some (4, 39, true), []⟩,
   ⟨some 47, .bin .eql, [.t 46, .int .i64 0], some (4, 39, true), []⟩,
   ⟨some 48, .pick, [.t 39, .t 47, .bool false], none, []⟩,
   ⟨some 6, .mv, [.t 35], none, []⟩,
   ⟨some 7, .mv, [.t 48], none, []⟩])
 .ret))))))⟩
/- 0=x 1=target 2=cmp 6= 7= 8=n 9=i 10=j 11=h -/
/-! tonneau/stock.find$1 -/
def x38 : XF := ⟨9, [.tmp 4], [0, 1, 2, 4],
 (.seq (.reg false [
   ⟨some 2, .box 41, [.t 0], none, []⟩,
   ⟨some 4, .mv, [.int .i64 0], none, []⟩])
 (.seq (.reg false [
   ⟨some 5, .faddr 0 (.int .i64), [.t 2], none, []⟩,
   ⟨some 6, .load (.int .i64), [.t 5], none, []⟩,
   ⟨some 7, .mv, [.t 1], none, []⟩,
   ⟨some 8, .call 39, [.t 6, .t 7], none, []⟩,
   ⟨some 4, .mv, [.t 8], none, []⟩])
 .ret))⟩
/- 0=l 1=p 2=l 4= -/
/-! cmp.Compare[int] -/
def x39 : XF := ⟨20, [.tmp 4], [0, 1, 4, 5, 6],
 (.seq (.reg false [
   ⟨some 4, .mv, [.int .i64 0], none, []⟩])
 (.seq (.reg false [
   ⟨some 7, .mv, [.t 0], none, []⟩,
   ⟨some 8, .call 42, [.t 7], none, []⟩,
   ⟨some 5, .mv, [.t 8], none, []⟩])
 (.seq (.reg false [
   ⟨some 9, .mv, [.t 1], none, []⟩,
   ⟨some 10, .call 42, [.t 9], none, []⟩,
   ⟨some 6, .mv, [.t 10], none, []⟩])
 (.seq (.seq (.reg false [
   ⟨some 11, .mv, [.t 5], none, []⟩])
 (.cond (.t 11)
  (.seq (.seq (.reg false [
    ⟨some 12, .mv, [.t 6], none, []⟩])
  (.cond (.t 12)
   (.seq (.reg false [
     ⟨some 4, .mv, [.int .i64 0], none, []⟩])
   .ret)
   .skip))
  (.seq (.reg false [
    ⟨some 4, .mv, [.int .i64 (-1)], none, []⟩])
  .ret))
  .skip))
 (.clean (.seq (.seq (.reg false [
   ⟨some 13, .mv, [.t 6], none, []⟩])
 (.cond (.t 13)
  (.seq (.reg false [
    ⟨some 4, .mv, [.int .i64 1], none, []⟩])
  .ret)
  .skip))
 (.seq (.seq (.reg false [
   ⟨some 14, .mv, [.t 0], none, []⟩,
   ⟨some 15, .mv, [.t 1], none, []⟩,
   ⟨some 16, .bin .lss, [.t 14, .t 15], none, []⟩])
 (.cond (.t 16)
  (.seq (.reg false [
    ⟨some 4, .mv, [.int .i64 (-1)], none, []⟩])
  .ret)
  .skip))
 (.seq (.seq (.reg false [
   ⟨some 17, .mv, [.t 0], none, []⟩,
   ⟨some 18, .mv, [.t 1], none, []⟩,
   ⟨some 19, .bin .gtr, [.t 17, .t 18], none, []⟩])
 (.cond (.t 19)
  (.seq (.reg false [
    ⟨some 4, .mv, [.int .i64 1], none, []⟩])
  .ret)
  .skip))
 (.seq (.reg false [
   ⟨some 4, .mv, [.int .i64 0], none, []⟩])
 .ret)))))))))⟩
/- 0=x 1=y 4= 5=xNaN 6=yNaN -/
/-! slices.rotateRight[tonneau/api.Loan] -/
def x41 : XF := ⟨10, [], [0, 1],
 (.reg false [
   ⟨some 4, .mv, [.t 0], none, []⟩,
   ⟨some 5, .mv, [.t 0], none, []⟩,
   ⟨some 6, .len false, [.t 5], none, []⟩,
   ⟨some 7, .mv, [.t 1], none, []⟩,
   ⟨some 8, .bin .sub, [.t 6, .t 7], none, []⟩,
   ⟨some 9, .call 43, [.t 4, .t 8], none, []⟩])⟩
/- 0=s 1=r -/
/-! cmp.isNaN[int] -/
def x42 : XF := ⟨6, [.tmp 2], [0, 2],
 (.seq (.reg false [
   ⟨some 2, .mv, [.bool false], none, []⟩])
 (.seq (.reg false [
   ⟨some 3, .mv, [.t 0], none, []⟩,
   ⟨some 4, .mv, [.t 0], none, []⟩,
   ⟨some 5, .bin .neq, [.t 3, .t 4], none, []⟩,
   ⟨some 2, .mv, [.t 5], none, []⟩])
 .ret))⟩
/- 0=x 2= -/
/-! slices.rotateLeft[tonneau/api.Loan] -/
def x43 : XF := ⟨14, [], [0, 1],
 (.seq (.reg false [
   ⟨some 4, .mv, [.t 0], none, []⟩,
   ⟨some 5, .mv, [.t 1], none, []⟩,
   ⟨some 6, .slice (.st (.cons (.int .i64) (.cons (.int .i64) (.int .i64)))) false true false, [.t 4, .t 5], none, []⟩,
   ⟨some 7, .call 44, [.t 6], none, []⟩])
 (.seq (.reg false [
   ⟨some 8, .mv, [.t 0], none, []⟩,
   ⟨some 9, .mv, [.t 1], none, []⟩,
   ⟨some 10, .slice (.st (.cons (.int .i64) (.cons (.int .i64) (.int .i64)))) true false false, [.t 8, .t 9], none, []⟩,
   ⟨some 11, .call 44, [.t 10], none, []⟩])
 (.reg false [
   ⟨some 12, .mv, [.t 0], none, []⟩,
   ⟨some 13, .call 44, [.t 12], none, []⟩])))⟩
/- 0=s 1=r -/
/-! slices.Reverse[[]tonneau/api.Loan,tonneau/api.Loan] -/
def x44_0 : XC := (.seq (.seq (.reg false [
   ⟨some 7, .mv, [.t 2], none, []⟩,
   ⟨some 8, .mv, [.t 3], none, []⟩,
   ⟨some 9, .bin .lss, [.t 7, .t 8], none, []⟩])
 (.cond (.t 9)
  .skip
  (.exit 0)))
 (.seq (.block 1 (.reg true [
    ⟨some 14, .mv, [.t 0], none, []⟩,
    ⟨some 15, .mv, [.t 2], none, []⟩,
    ⟨some 16, .mv, [.t 0], none, []⟩,
    ⟨some 17, .mv, [.t 3], none, []⟩,
    ⟨some 18, .mv, [.t 0], none, []⟩,
    ⟨some 19, .mv, [.t 3], none, []⟩,
    ⟨some 20, .iaddr (.st (.cons (.int .i64) (.cons (.int .i64) (.int .i64)))), [.t 18, .t 19], none, [4, 5]⟩,
    ⟨some 21, .load (.st (.cons (.int .i64) (.cons (.int .i64) (.int .i64)))), [.t 20], none, [6, 4, 5]⟩,
    ⟨some 22, .mv, [.t 0], none, []⟩,
    ⟨some 23, .mv, [.t 2], none, []⟩,
    ⟨some 24, .iaddr (.st (.cons (.int .i64) (.cons (.int .i64) (.int .i64)))), [.t 22, .t 23], none, [8, 9]⟩,
    ⟨some 25, .load (.st (.cons (.int .i64) (.cons (.int .i64) (.int .i64)))), [.t 24], none, [10, 8, 9]⟩,
    ⟨some 26, .iaddr (.st (.cons (.int .i64) (.cons (.int .i64) (.int .i64)))), [.t 14, .t 15], none, [0, 1, 4, 5, 6, 7, 11, 10, 8, 9]⟩,
    ⟨none, .store (.st (.cons (.int .i64) (.cons (.int .i64) (.int .i64)))), [.t 26, .t 21], none, [12, 0, 1, 4, 5, 6, 7, 11, 10, 8, 9]⟩,
    ⟨some 27, .iaddr (.st (.cons (.int .i64) (.cons (.int .i64) (.int .i64)))), [.t 16, .t 17], none, [2, 3, 0, 1, 4, 5, 6, 7, 8, 9, 10, 11, 12, 13]⟩,
    ⟨none, .store (.st (.cons (.int .i64) (.cons (.int .i64) (.int .i64)))), [.t 27, .t 25], none, [14, 2, 3, 0, 1, 4, 5, 6, 7, 8, 9, 10, 11, 12, 13]⟩]))
 (.clean (.reg false [
   ⟨some 10, .mv, [.t 2], none, []⟩,
   ⟨some 11, .bin .add, [.t 10, .int .i64 1], none, []⟩,
   ⟨some 12, .mv, [.t 3], none, []⟩,
   ⟨some 13, .bin .sub, [.t 12, .int .i64 1], none, []⟩,
   ⟨some 2, .mv, [.t 11], none, []⟩,
   ⟨some 3, .mv, [.t 13], none, []⟩]))))
def x44_0d : List Nat := [2, 3]
def x44 : XF := ⟨28, [], [0, 2, 3],
 (.seq (.reg false [
   ⟨some 4, .mv, [.t 0], none, []⟩,
   ⟨some 5, .len false, [.t 4], none, []⟩,
   ⟨some 6, .bin .sub, [.t 5, .int .i64 1], none, []⟩,
   ⟨some 2, .mv, [.int .i64 0], none, []⟩,
   ⟨some 3, .mv, [.t 6], none, []⟩])
 (.block 0 (.loop x44_0)))⟩
/- 0=s 2=i 3=j -/
end T
end Go.Proofs.Ytbbpiihbhdagnaa
