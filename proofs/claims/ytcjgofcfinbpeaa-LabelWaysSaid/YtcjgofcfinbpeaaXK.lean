/- The program's functions as code of the typed abstract walk (printed by a program). -/
import Derived.Test.YtcjgofcfinbpeaaXC
set_option linter.unusedVariables false
namespace Go.Proofs.Ytcjgofcfinbpeaa
namespace T
/-! tonneau/tonneaulaw12.LabelTells -/
def x3 : XF := ⟨84, [.tmp 14], [0, 1, 2, 3, 4, 5, 6, 14, 15, 16, 17, 18, 19, 20, 21],
 (.seq (.reg false [
   ⟨some 14, .mv, [.bool false], none, []⟩])
 (.seq (.reg false [
   ⟨some 22, .call 12, [], none, []⟩,
   ⟨some 15, .mv, [.t 22], none, []⟩])
 (.seq (.seq (.reg false [
   ⟨some 23, .mv, [.t 0], none, []⟩,
   ⟨some 24, .mv, [.t 1], none, []⟩,
   ⟨some 25, .mv, [.t 5], none, []⟩,
   ⟨some 26, .len false, [.t 25], none, []⟩,
   ⟨some 27, .call 13, [.t 23, .t 24, .t 26], none, []⟩,
   ⟨some 28, .not, [.t 27], none, []⟩,
   ⟨some 29, .mv, [.t 28], none, []⟩,
   ⟨some 30, .mv, [.t 6], some (6, 29, false), []⟩,
   ⟨some 31, .len false, [.t 30], some (6, 29, false), []⟩,
   ⟨some 32, .bin .gtr, [.t 31, .int .i64 12], some (6, 29, false), []⟩,
   ⟨some 33, .pick, [.t 29, .bool true, .t 32], none, []⟩])
 (.cond (.t 33)
  (.seq (.reg false [
    ⟨some 34, .mv, [.t 15], none, []⟩,
    ⟨some 14, .mv, [.t 34], none, []⟩])
  .ret)
  .skip))
 (.clean (.seq (.reg false [
   ⟨some 36, .mv, [.t 1], none, []⟩,
   ⟨some 37, .mv, [.t 6], none, []⟩,
   ⟨some 38, .mv, [.t 3], none, []⟩,
   ⟨some 39, .call 14, [.t 36, .t 37, .t 38], none, []⟩,
   ⟨some 35, .mv, [.t 39], none, []⟩,
   ⟨some 40, .extract 0, [.t 35], none, []⟩,
   ⟨some 41, .extract 1, [.t 35], none, []⟩,
   ⟨some 42, .extract 2, [.t 35], none, []⟩,
   ⟨some 16, .mv, [.t 40], none, []⟩,
   ⟨some 17, .mv, [.t 41], none, []⟩,
   ⟨some 18, .mv, [.t 42], none, []⟩])
 (.clean (.seq (.reg false [
   ⟨some 44, .mv, [.t 1], none, []⟩,
   ⟨some 45, .mv, [.t 6], none, []⟩,
   ⟨some 46, .mv, [.t 3], none, []⟩,
   ⟨some 47, .call 15, [.t 44, .t 45, .t 46], none, []⟩,
   ⟨some 43, .mv, [.t 47], none, []⟩,
   ⟨some 48, .extract 0, [.t 43], none, []⟩,
   ⟨some 49, .extract 1, [.t 43], none, []⟩,
   ⟨some 50, .extract 2, [.t 43], none, []⟩,
   ⟨some 19, .mv, [.t 48], none, []⟩,
   ⟨some 20, .mv, [.t 49], none, []⟩,
   ⟨some 21, .mv, [.t 50], none, []⟩])
 (.clean (.seq (.reg false [
   ⟨some 51, .mv, [.t 15], none, []⟩,
   ⟨some 52, .mv, [.t 51], none, []⟩,
   ⟨some 53, .mv, [.t 0], some (1, 52, true), []⟩,
   ⟨some 54, .mv, [.t 1], some (1, 52, true), []⟩,
   ⟨some 55, .mv, [.t 2], some (1, 52, true), []⟩,
   ⟨some 56, .mv, [.t 3], some (1, 52, true), []⟩,
   ⟨some 57, .mv, [.t 4], some (1, 52, true), []⟩,
   ⟨some 58, .mv, [.t 5], some (1, 52, true), []⟩,
   ⟨some 59, .call 16, [.t 53, .t 54, .t 55, .t 56, .t 57, .t 58], some (1, 52, true), []⟩,
   ⟨some 60, .mv, [.t 0], some (1, 52, true), []⟩,
   ⟨some 61, .mv, [.t 1], some (1, 52, true), []⟩,
   ⟨some 62, .mv, [.t 2], some (1, 52, true), []⟩,
   ⟨some 63, .mv, [.t 3], some (1, 52, true), []⟩,
   ⟨some 64, .mv, [.t 4], some (1, 52, true), []⟩,
   ⟨some 65, .mv, [.t 5], some (1, 52, true), []⟩,
   ⟨some 66, .call 17, [.t 60, .t 61, .t 62, .t 63, .t 64, .t 65], some (1, 52, true), []⟩,
   ⟨some 67, .bin .eql, [.t 59, .t 66], some (1, 52, true), []⟩,
   ⟨some 68, .pick, [.t 52, .t 67, .bool false], none, []⟩,
   ⟨some 69, .mv, [.t 68], none, []⟩,
   ⟨some 70, .mv, [.t 16], some (18, 69, true), []⟩,
   ⟨some 71, .mv, [.t 19], some (18, 69, true), []⟩,
   ⟨some 72, .bin .eql, [.t 70, .t 71], some (18, 69, true), []⟩,
   ⟨some 73, .pick, [.t 69, .t 72, .bool false], none, []⟩,
   ⟨some 74, .mv, [.t 73], none, []⟩,
   ⟨some 75, .mv, [.t 17], some (23, 74, true), []⟩,
   ⟨some 76, .mv, [.t 20], some (23, 74, true), []⟩,
   ⟨some 77, .bin .eql, [.t 75, .t 76], some (23, 74, true), []⟩,
   ⟨some 78, .pick, [.t 74, .t 77, .bool false], none, []⟩,
   ⟨some 79, .mv, [.t 78], none, []⟩,
   ⟨some 80, .mv, [.t 18], some (28, 79, true), []⟩,
   ⟨some 81, .mv, [.t 21], some (28, 79, true), []⟩,
   ⟨some 82, .bin .eql, [.t 80, .t 81], some (28, 79, true), []⟩,
   ⟨some 83, .pick, [.t 79, .t 82, .bool false], none, []⟩,
   ⟨some 14, .mv, [.t 83], none, []⟩])
 .ret)))))))))⟩
/- 0=n 1=arcs 2=from 3=start 4=high 5=labels 6=way 14= 15=head 16=a 17=b 18=e 19=c 20=d 21=f -/
/-! tonneau/tonneaulaw12.LabelSpan -/
def x4 : XF := ⟨147, [.tmp 10], [0, 1, 2, 3, 4, 10, 11, 12, 13, 14, 15, 16, 17, 18, 19, 21, 23, 24, 25, 26, 27],
 (.seq (.reg false [
   ⟨some 10, .mv, [.bool false], none, []⟩])
 (.seq (.reg false [
   ⟨some 28, .call 12, [], none, []⟩,
   ⟨some 11, .mv, [.t 28], none, []⟩])
 (.seq (.seq (.reg false [
   ⟨some 29, .mv, [.t 0], none, []⟩,
   ⟨some 30, .call 13, [.int .i64 1, .t 29, .int .i64 0], none, []⟩,
   ⟨some 31, .not, [.t 30], none, []⟩,
   ⟨some 32, .mv, [.t 31], none, []⟩,
   ⟨some 33, .mv, [.t 1], some (3, 32, false), []⟩,
   ⟨some 34, .len false, [.t 33], some (3, 32, false), []⟩,
   ⟨some 35, .bin .gtr, [.t 34, .int .i64 12], some (3, 32, false), []⟩,
   ⟨some 36, .pick, [.t 32, .bool true, .t 35], none, []⟩])
 (.cond (.t 36)
  (.seq (.reg false [
    ⟨some 37, .mv, [.t 11], none, []⟩,
    ⟨some 10, .mv, [.t 37], none, []⟩])
  .ret)
  .skip))
 (.clean (.seq (.reg false [
   ⟨some 39, .mv, [.t 0], none, []⟩,
   ⟨some 40, .mv, [.t 1], none, []⟩,
   ⟨some 41, .mv, [.t 2], none, []⟩,
   ⟨some 42, .call 14, [.t 39, .t 40, .t 41], none, []⟩,
   ⟨some 38, .mv, [.t 42], none, []⟩,
   ⟨some 43, .extract 0, [.t 38], none, []⟩,
   ⟨some 44, .extract 1, [.t 38], none, []⟩,
   ⟨some 45, .extract 2, [.t 38], none, []⟩,
   ⟨some 12, .mv, [.t 43], none, []⟩,
   ⟨some 13, .mv, [.t 44], none, []⟩,
   ⟨some 14, .mv, [.t 45], none, []⟩])
 (.clean (.seq (.seq (.reg false [
   ⟨some 46, .mv, [.t 14], none, []⟩,
   ⟨some 47, .bin .neq, [.t 46, .int .i64 0], none, []⟩])
 (.cond (.t 47)
  (.seq (.reg false [
    ⟨some 48, .mv, [.t 11], none, []⟩,
    ⟨some 49, .mv, [.t 48], none, []⟩,
    ⟨some 50, .mv, [.t 12], some (1, 49, true), []⟩,
    ⟨some 51, .bin .eql, [.t 50, .int .i64 0], some (1, 49, true), []⟩,
    ⟨some 52, .pick, [.t 49, .t 51, .bool false], none, []⟩,
    ⟨some 53, .mv, [.t 52], none, []⟩,
    ⟨some 54, .mv, [.t 13], some (5, 53, true), []⟩,
    ⟨some 55, .bin .eql, [.t 54, .int .i64 0], some (5, 53, true), []⟩,
    ⟨some 56, .pick, [.t 53, .t 55, .bool false], none, []⟩,
    ⟨some 10, .mv, [.t 56], none, []⟩])
  .ret)
  .skip))
 (.clean (.seq (.reg false [
   ⟨some 57, .mv, [.t 3], none, []⟩,
   ⟨some 58, .conv .i64, [.t 57], none, []⟩,
   ⟨some 59, .mv, [.t 1], none, []⟩,
   ⟨some 60, .len false, [.t 59], none, []⟩,
   ⟨some 61, .bin .add, [.t 60, .int .i64 1], none, []⟩,
   ⟨some 62, .bin .rem, [.t 58, .t 61], none, []⟩,
   ⟨some 15, .mv, [.t 62], none, []⟩])
 (.clean (.seq (.reg false [
   ⟨some 64, .mv, [.t 0], none, []⟩,
   ⟨some 65, .mv, [.t 1], none, []⟩,
   ⟨some 66, .mv, [.t 15], none, []⟩,
   ⟨some 67, .slice (.int .i64) false true false, [.t 65, .t 66], none, []⟩,
   ⟨some 68, .mv, [.t 2], none, []⟩,
   ⟨some 69, .call 14, [.t 64, .t 67, .t 68], none, []⟩,
   ⟨some 63, .mv, [.t 69], none, []⟩,
   ⟨some 70, .extract 0, [.t 63], none, []⟩,
   ⟨some 71, .extract 1, [.t 63], none, []⟩,
   ⟨some 72, .extract 2, [.t 63], none, []⟩,
   ⟨some 16, .mv, [.t 70], none, []⟩,
   ⟨some 17, .mv, [.t 71], none, []⟩,
   ⟨some 18, .mv, [.t 72], none, []⟩])
 (.clean (.seq (.seq (.reg false [
   ⟨some 73, .mv, [.t 18], none, []⟩,
   ⟨some 74, .bin .neq, [.t 73, .int .i64 0], none, []⟩])
 (.cond (.t 74)
  (.seq (.reg false [
    ⟨some 10, .mv, [.bool false], none, []⟩])
  .ret)
  .skip))
 (.seq (.reg false [
   ⟨some 76, .mv, [.t 0], none, []⟩,
   ⟨some 77, .mv, [.t 1], none, []⟩,
   ⟨some 78, .mv, [.t 15], none, []⟩,
   ⟨some 79, .slice (.int .i64) true false false, [.t 77, .t 78], none, []⟩,
   ⟨some 80, .mv, [.t 16], none, []⟩,
   ⟨some 81, .call 14, [.t 76, .t 79, .t 80], none, []⟩,
   ⟨some 75, .mv, [.t 81], none, []⟩,
   ⟨some 82, .extract 0, [.t 75], none, []⟩,
   ⟨some 83, .extract 1, [.t 75], none, []⟩,
   ⟨some 84, .extract 2, [.t 75], none, []⟩,
   ⟨some 19, .mv, [.t 82], none, []⟩,
   ⟨some 20, .mv, [.t 83], none, []⟩,
   ⟨some 21, .mv, [.t 84], none, []⟩])
 (.clean (.seq (.reg false [
   ⟨some 86, .mv, [.t 0], none, []⟩,
   ⟨some 87, .mv, [.t 1], none, []⟩,
   ⟨some 88, .mv, [.t 15], none, []⟩,
   ⟨some 89, .slice (.int .i64) true false false, [.t 87, .t 88], none, []⟩,
   ⟨some 90, .mv, [.t 17], none, []⟩,
   ⟨some 91, .call 14, [.t 86, .t 89, .t 90], none, []⟩,
   ⟨some 85, .mv, [.t 91], none, []⟩,
   ⟨some 92, .extract 0, [.t 85], none, []⟩,
   ⟨some 93, .extract 1, [.t 85], none, []⟩,
   ⟨some 94, .extract 2, [.t 85], none, []⟩,
   ⟨some 22, .mv, [.t 92], none, []⟩,
   ⟨some 23, .mv, [.t 93], none, []⟩,
   ⟨some 24, .mv, [.t 94], none, []⟩])
 (.clean (.seq (.seq (.reg false [
   ⟨some 95, .mv, [.t 21], none, []⟩,
   ⟨some 96, .bin .neq, [.t 95, .int .i64 0], none, []⟩,
   ⟨some 97, .mv, [.t 96], none, []⟩,
   ⟨some 98, .mv, [.t 24], some (2, 97, false), []⟩,
   ⟨some 99, .bin .neq, [.t 98, .int .i64 0], some (2, 97, false), []⟩,
   ⟨some 100, .pick, [.t 97, .bool true, .t 99], none, []⟩,
   ⟨some 101, .mv, [.t 100], none, []⟩,
   ⟨some 102, .mv, [.t 19], some (6, 101, false), []⟩,
   ⟨some 103, .mv, [.t 12], some (6, 101, false), []⟩,
   ⟨some 104, .bin .neq, [.t 102, .t 103], some (6, 101, false), []⟩,
   ⟨some 105, .pick, [.t 101, .bool true, .t 104], none, []⟩,
   ⟨some 106, .mv, [.t 105], none, []⟩,
   ⟨some 107, .mv, [.t 23], some (11, 106, false), []⟩,
   ⟨some 108, .mv, [.t 13], some (11, 106, false), []⟩,
   ⟨some 109, .bin .neq, [.t 107, .t 108], some (11, 106, false), []⟩,
   ⟨some 110, .pick, [.t 106, .bool true, .t 109], none, []⟩,
   ⟨some 111, .mv, [.t 110], none, []⟩,
   ⟨some 112, .mv, [.t 12], some (16, 111, false), []⟩,
   ⟨some 113, .mv, [.t 13], some (16, 111, false), []⟩,
   ⟨some 114, .bin .gtr, [.t 112, .t 113], some (16, 111, false), []⟩,
   ⟨some 115, .pick, [.t 111, .bool true, .t 114], none, []⟩,
   ⟨some 116, .mv, [.t 115], none, []⟩,
   ⟨some 117, .mv, [.t 12], some (21, 116, false), []⟩,
   ⟨some 118, .mv, [.t 2], some (21, 116, false), []⟩,
   ⟨some 119, .bin .lss, [.t 117, .t 118], some (21, 116, false), []⟩,
   ⟨some 120, .pick, [.t 116, .bool true, .t 119], none, []⟩])
 (.cond (.t 120)
  (.seq (.reg false [
    ⟨some 10, .mv, [.bool false], none, []⟩])
  .ret)
  .skip))
 (.clean (.seq (.reg false [
   ⟨some 122, .mv, [.t 0], none, []⟩,
   ⟨some 123, .mv, [.t 1], none, []⟩,
   ⟨some 124, .mv, [.t 2], none, []⟩,
   ⟨some 125, .mv, [.t 4], none, []⟩,
   ⟨some 126, .conv .i64, [.t 125], none, []⟩,
   ⟨some 127, .bin .add, [.t 124, .t 126], none, []⟩,
   ⟨some 128, .call 14, [.t 122, .t 123, .t 127], none, []⟩,
   ⟨some 121, .mv, [.t 128], none, []⟩,
   ⟨some 129, .extract 0, [.t 121], none, []⟩,
   ⟨some 130, .extract 1, [.t 121], none, []⟩,
   ⟨some 131, .extract 2, [.t 121], none, []⟩,
   ⟨some 25, .mv, [.t 129], none, []⟩,
   ⟨some 26, .mv, [.t 130], none, []⟩,
   ⟨some 27, .mv, [.t 131], none, []⟩])
 (.clean (.seq (.reg false [
   ⟨some 132, .mv, [.t 11], none, []⟩,
   ⟨some 133, .mv, [.t 132], none, []⟩,
   ⟨some 134, .mv, [.t 27], some (1, 133, true), []⟩,
   ⟨some 135, .bin .neq, [.t 134, .int .i64 0], some (1, 133, true), []⟩,
   ⟨some 136, .mv, [.t 135], some (1, 133, true), []⟩,
   ⟨some 137, .mv, [.t 25], some (4, 136, false), []⟩,
   ⟨some 138, .mv, [.t 12], some (4, 136, false), []⟩,
   ⟨some 139, .bin .geq, [.t 137, .t 138], some (4, 136, false), []⟩,
   ⟨some 140, .mv, [.t 139], some (4, 136, false), []⟩,
   ⟨some 141, .mv, [.t 26], some (8, 140, true), []⟩,
   ⟨some 142, .mv, [.t 13], some (8, 140, true), []⟩,
   ⟨some 143, .bin .geq, [.t 141, .t 142], some (8, 140, true), []⟩,
   ⟨some 144, .pick, [.t 140, .t 143, .bool false], some (4, 136, false), []⟩,
   ⟨some 145, .pick, [.t 136, .bool true, .t 144], some (1, 133, true), []⟩,
   ⟨some 146, .pick, [.t 133, .t 145, .bool false], none, []⟩,
   ⟨some 10, .mv, [.t 146], none, []⟩])
 .ret))))))))))))))))))))))⟩
/- 0=arcs 1=way 2=start 3=cut 4=later 10= 11=head 12=low 13=high 14=e 15=k 16=a 17=b 18=f 19=c 21=g 23=d 24=h 25=x 26=y 27=i -/
/-! tonneau/tonneaulaw12.LabelOnly -/
def x9_0 : XC := (.seq (.seq (.reg false [
   ⟨some 74, .mv, [.t 16], none, []⟩,
   ⟨some 75, .mv, [.t 0], none, []⟩,
   ⟨some 76, .bin .lss, [.t 74, .t 75], none, []⟩,
   ⟨some 77, .mv, [.t 76], none, []⟩,
   ⟨some 78, .mv, [.t 16], some (3, 77, true), []⟩,
   ⟨some 79, .mv, [.t 5], some (3, 77, true), []⟩,
   ⟨some 80, .len false, [.t 79], some (3, 77, true), []⟩,
   ⟨some 81, .bin .lss, [.t 78, .t 80], some (3, 77, true), []⟩,
   ⟨some 82, .pick, [.t 77, .t 81, .bool false], none, []⟩])
 (.cond (.t 82)
  .skip
  (.exit 0)))
 (.clean (.seq (.block 1 (.seq (.reg true [
    ⟨some 85, .mv, [.t 5], none, []⟩,
    ⟨some 86, .mv, [.t 16], none, []⟩,
    ⟨some 87, .iaddr (.st (.cons (.int .i64) (.int .i64))), [.t 85, .t 86], none, [0, 1]⟩,
    ⟨some 88, .faddr 0 (.int .i64), [.t 87], none, [2, 0, 1]⟩,
    ⟨some 89, .load (.int .i64), [.t 88], none, [3, 2, 0, 1]⟩,
    ⟨some 90, .mv, [.t 14], none, []⟩,
    ⟨some 91, .mv, [.t 16], none, []⟩,
    ⟨some 92, .iaddr (.st (.cons (.int .i64) (.int .i64))), [.t 90, .t 91], none, [5, 6]⟩,
    ⟨some 93, .faddr 0 (.int .i64), [.t 92], none, [7, 5, 6]⟩,
    ⟨some 94, .load (.int .i64), [.t 93], none, [8, 7, 5, 6]⟩,
    ⟨some 95, .bin .neq, [.t 89, .t 94], none, [4, 3, 2, 0, 1, 9, 8, 7, 5, 6]⟩])
  (.cond (.t 95)
   (.seq (.reg false [
     ⟨some 12, .mv, [.bool false], none, []⟩])
   .ret)
   .skip)))
 (.clean (.reg false [
   ⟨some 83, .mv, [.t 16], none, []⟩,
   ⟨some 84, .bin .add, [.t 83, .int .i64 1], none, []⟩,
   ⟨some 16, .mv, [.t 84], none, []⟩])))))
def x9_0d : List Nat := [12, 16]
def x9 : XF := ⟨103, [.tmp 12], [0, 1, 2, 3, 4, 5, 12, 13, 14, 15, 16],
 (.seq (.reg false [
   ⟨some 12, .mv, [.bool false], none, []⟩])
 (.seq (.reg false [
   ⟨some 17, .call 12, [], none, []⟩,
   ⟨some 13, .mv, [.t 17], none, []⟩])
 (.seq (.seq (.reg false [
   ⟨some 18, .mv, [.t 0], none, []⟩,
   ⟨some 19, .mv, [.t 1], none, []⟩,
   ⟨some 20, .mv, [.t 5], none, []⟩,
   ⟨some 21, .len false, [.t 20], none, []⟩,
   ⟨some 22, .call 13, [.t 18, .t 19, .t 21], none, []⟩,
   ⟨some 23, .not, [.t 22], none, []⟩,
   ⟨some 24, .mv, [.t 23], none, []⟩,
   ⟨some 25, .mv, [.t 0], some (6, 24, false), []⟩,
   ⟨some 26, .bin .gtr, [.t 25, .int .i64 2000], some (6, 24, false), []⟩,
   ⟨some 27, .pick, [.t 24, .bool true, .t 26], none, []⟩])
 (.cond (.t 27)
  (.seq (.reg false [
    ⟨some 28, .mv, [.t 13], none, []⟩,
    ⟨some 12, .mv, [.t 28], none, []⟩])
  .ret)
  .skip))
 (.clean (.seq (.reg false [
   ⟨some 30, .mv, [.t 0], none, []⟩,
   ⟨some 31, .mv, [.t 1], none, []⟩,
   ⟨some 32, .mv, [.t 2], none, []⟩,
   ⟨some 33, .mv, [.t 3], none, []⟩,
   ⟨some 34, .mv, [.t 4], none, []⟩,
   ⟨some 35, .call 20, [.t 30, .t 31, .t 32, .t 33, .t 34], none, []⟩,
   ⟨some 29, .mv, [.t 35], none, []⟩,
   ⟨some 36, .extract 0, [.t 29], none, []⟩,
   ⟨some 37, .extract 1, [.t 29], none, []⟩,
   ⟨some 14, .mv, [.t 36], none, []⟩,
   ⟨some 15, .mv, [.t 37], none, []⟩])
 (.clean (.seq (.seq (.reg false [
   ⟨some 38, .mv, [.t 15], none, []⟩,
   ⟨some 39, .bin .neq, [.t 38, .int .i64 0], none, []⟩])
 (.cond (.t 39)
  (.seq (.reg false [
    ⟨some 40, .mv, [.t 13], none, []⟩,
    ⟨some 41, .mv, [.t 40], none, []⟩,
    ⟨some 42, .mv, [.t 0], some (1, 41, true), []⟩,
    ⟨some 43, .mv, [.t 1], some (1, 41, true), []⟩,
    ⟨some 44, .mv, [.t 2], some (1, 41, true), []⟩,
    ⟨some 45, .mv, [.t 3], some (1, 41, true), []⟩,
    ⟨some 46, .mv, [.t 4], some (1, 41, true), []⟩,
    ⟨some 47, .mv, [.t 5], some (1, 41, true), []⟩,
    ⟨some 48, .call 16, [.t 42, .t 43, .t 44, .t 45, .t 46, .t 47], some (1, 41, true), []⟩,
    ⟨some 49, .bin .eql, [.t 48, .int .i64 1], some (1, 41, true), []⟩,
    ⟨some 50, .pick, [.t 41, .t 49, .bool false], none, []⟩,
    ⟨some 12, .mv, [.t 50], none, []⟩])
  .ret)
  .skip))
 (.clean (.seq (.seq (.reg false [
   ⟨some 51, .mv, [.t 14], none, []⟩,
   ⟨some 52, .len false, [.t 51], none, []⟩,
   ⟨some 53, .mv, [.t 0], none, []⟩,
   ⟨some 54, .bin .neq, [.t 52, .t 53], none, []⟩,
   ⟨some 55, .mv, [.t 54], none, []⟩,
   ⟨some 56, .mv, [.t 0], some (4, 55, false), []⟩,
   ⟨some 57, .mv, [.t 1], some (4, 55, false), []⟩,
   ⟨some 58, .mv, [.t 2], some (4, 55, false), []⟩,
   ⟨some 59, .mv, [.t 3], some (4, 55, false), []⟩,
   ⟨some 60, .mv, [.t 4], some (4, 55, false), []⟩,
   ⟨some 61, .mv, [.t 14], some (4, 55, false), []⟩,
   ⟨some 62, .call 16, [.t 56, .t 57, .t 58, .t 59, .t 60, .t 61], some (4, 55, false), []⟩,
   ⟨some 63, .bin .neq, [.t 62, .int .i64 0], some (4, 55, false), []⟩,
   ⟨some 64, .pick, [.t 55, .bool true, .t 63], none, []⟩])
 (.cond (.t 64)
  (.seq (.reg false [
    ⟨some 12, .mv, [.bool false], none, []⟩])
  .ret)
  .skip))
 (.clean (.seq (.seq (.reg false [
   ⟨some 65, .mv, [.t 0], none, []⟩,
   ⟨some 66, .mv, [.t 1], none, []⟩,
   ⟨some 67, .mv, [.t 2], none, []⟩,
   ⟨some 68, .mv, [.t 3], none, []⟩,
   ⟨some 69, .mv, [.t 4], none, []⟩,
   ⟨some 70, .mv, [.t 5], none, []⟩,
   ⟨some 71, .call 16, [.t 65, .t 66, .t 67, .t 68, .t 69, .t 70], none, []⟩,
   ⟨some 72, .bin .neq, [.t 71, .int .i64 0], none, []⟩])
 (.cond (.t 72)
  (.seq (.reg false [
    ⟨some 73, .mv, [.t 13], none, []⟩,
    ⟨some 12, .mv, [.t 73], none, []⟩])
  .ret)
  .skip))
 (.clean (.seq (.seq (.reg false [
   ⟨some 16, .mv, [.int .i64 0], none, []⟩])
 (.block 0 (.loop x9_0)))
 (.clean (.seq (.reg false [
   ⟨some 96, .mv, [.t 13], none, []⟩,
   ⟨some 97, .mv, [.t 96], none, []⟩,
   ⟨some 98, .mv, [.t 5], some (1, 97, true), []⟩,
   ⟨some 99, .len false, [.t 98], some (1, 97, true), []⟩,
   ⟨some 100, .mv, [.t 0], some (1, 97, true), []⟩,
   ⟨some 101, .bin .eql, [.t 99, .t 100], some (1, 97, true), []⟩,
   ⟨some 102, .pick, [.t 97, .t 101, .bool false], none, []⟩,
   ⟨some 12, .mv, [.t 102], none, []⟩])
 .ret)))))))))))))))⟩
/- 0=n 1=arcs 2=from 3=start 4=high 5=labels 12= 13=head 14=early 15=e 16=i -/
/-! tonneau/tonneaulaw12.LabelArrives -/
def x10_0 : XC := (.seq (.seq (.reg false [
   ⟨some 69, .mv, [.t 16], none, []⟩,
   ⟨some 70, .mv, [.t 2], none, []⟩,
   ⟨some 71, .len false, [.t 70], none, []⟩,
   ⟨some 72, .bin .lss, [.t 69, .t 71], none, []⟩])
 (.cond (.t 72)
  .skip
  (.exit 0)))
 (.seq (.block 1 (.seq (.reg false [
    ⟨some 75, .mv, [.t 1], none, []⟩,
    ⟨some 76, .mv, [.t 2], none, []⟩,
    ⟨some 77, .mv, [.t 16], none, []⟩,
    ⟨some 78, .iaddr (.int .i64), [.t 76, .t 77], none, []⟩,
    ⟨some 79, .load (.int .i64), [.t 78], none, []⟩,
    ⟨some 80, .iaddr (.st (.cons (.int .i64) (.cons (.int .i64) (.cons (.sl (.int .i64)) (.sl (.int .i64)))))), [.t 75, .t 79], none, []⟩,
    ⟨some 81, .load (.st (.cons (.int .i64) (.cons (.int .i64) (.cons (.sl (.int .i64)) (.sl (.int .i64)))))), [.t 80], none, []⟩,
    ⟨some 17, .alloc 45 (.st (.cons (.int .i64) (.cons (.int .i64) (.cons (.sl (.int .i64)) (.sl (.int .i64)))))), [], none, []⟩,
    ⟨none, .store (.st (.cons (.int .i64) (.cons (.int .i64) (.cons (.sl (.int .i64)) (.sl (.int .i64)))))), [.t 17, .t 81], none, []⟩])
  (.clean (.seq (.reg false [
    ⟨some 82, .load (.st (.cons (.int .i64) (.cons (.int .i64) (.cons (.sl (.int .i64)) (.sl (.int .i64)))))), [.t 17], none, []⟩,
    ⟨some 83, .mv, [.t 15], none, []⟩,
    ⟨some 84, .call 33, [.t 82, .t 83], none, []⟩,
    ⟨some 15, .mv, [.t 84], none, []⟩])
  (.seq (.reg false [
    ⟨some 85, .mv, [.t 15], none, []⟩,
    ⟨some 86, .bin .quo, [.t 85, .int .i64 60], none, []⟩,
    ⟨some 87, .bin .rem, [.t 86, .int .i64 24], none, []⟩,
    ⟨some 18, .mv, [.t 87], none, []⟩])
  (.seq (.reg false [
    ⟨some 88, .faddr 2 (.sl (.int .i64)), [.t 17], none, []⟩,
    ⟨some 89, .load (.sl (.int .i64)), [.t 88], none, []⟩,
    ⟨some 90, .mv, [.t 18], none, []⟩,
    ⟨some 91, .iaddr (.int .i64), [.t 89, .t 90], none, []⟩,
    ⟨some 92, .load (.int .i64), [.t 91], none, []⟩,
    ⟨some 19, .mv, [.t 92], none, []⟩])
  (.clean (.seq (.seq (.reg false [
    ⟨some 93, .mv, [.t 16], none, []⟩,
    ⟨some 94, .mv, [.t 4], none, []⟩,
    ⟨some 95, .len false, [.t 94], none, []⟩,
    ⟨some 96, .bin .lss, [.t 93, .t 95], none, []⟩])
  (.cond (.t 96)
   (.reg true [
     ⟨some 97, .mv, [.t 19], none, []⟩,
     ⟨some 98, .mv, [.t 4], none, []⟩,
     ⟨some 99, .mv, [.t 16], none, []⟩,
     ⟨some 100, .iaddr (.int .u16), [.t 98, .t 99], none, [1, 2]⟩,
     ⟨some 101, .load (.int .u16), [.t 100], none, [3, 1, 2]⟩,
     ⟨some 102, .conv .i64, [.t 101], none, [4, 3, 1, 2]⟩,
     ⟨some 103, .faddr 3 (.sl (.int .i64)), [.t 17], none, []⟩,
     ⟨some 104, .load (.sl (.int .i64)), [.t 103], none, [6]⟩,
     ⟨some 105, .mv, [.t 18], none, []⟩,
     ⟨some 106, .iaddr (.int .i64), [.t 104, .t 105], none, [7, 6, 8]⟩,
     ⟨some 107, .load (.int .i64), [.t 106], none, [9, 7, 6, 8]⟩,
     ⟨some 108, .faddr 2 (.sl (.int .i64)), [.t 17], none, []⟩,
     ⟨some 109, .load (.sl (.int .i64)), [.t 108], none, [11]⟩,
     ⟨some 110, .mv, [.t 18], none, []⟩,
     ⟨some 111, .iaddr (.int .i64), [.t 109, .t 110], none, [12, 11, 13]⟩,
     ⟨some 112, .load (.int .i64), [.t 111], none, [14, 12, 11, 13]⟩,
     ⟨some 113, .bin .sub, [.t 107, .t 112], none, [10, 9, 7, 6, 8, 15, 14, 12, 11, 13]⟩,
     ⟨some 114, .bin .add, [.t 113, .int .i64 1], none, [16, 10, 9, 7, 6, 8, 15, 14, 12, 11, 13]⟩,
     ⟨some 115, .bin .rem, [.t 102, .t 114], none, [5, 4, 3, 1, 2, 17, 16, 10, 9, 7, 6, 8, 15, 14, 12, 11, 13]⟩,
     ⟨some 116, .bin .add, [.t 97, .t 115], none, [0, 18, 5, 4, 3, 1, 2, 17, 16, 10, 9, 7, 6, 8, 15, 14, 12, 11, 13]⟩,
     ⟨some 19, .mv, [.t 116], none, [19, 0, 18, 5, 4, 3, 1, 2, 17, 16, 10, 9, 7, 6, 8, 15, 14, 12, 11, 13]⟩])
   .skip))
  (.clean (.reg false [
    ⟨some 117, .mv, [.t 15], none, []⟩,
    ⟨some 118, .mv, [.t 19], none, []⟩,
    ⟨some 119, .bin .add, [.t 117, .t 118], none, []⟩,
    ⟨some 15, .mv, [.t 119], none, []⟩]))))))))))
 (.clean (.reg false [
   ⟨some 73, .mv, [.t 16], none, []⟩,
   ⟨some 74, .bin .add, [.t 73, .int .i64 1], none, []⟩,
   ⟨some 16, .mv, [.t 74], none, []⟩]))))
def x10_0d : List Nat := [15, 16, 17, 18, 19]
def x10 : XF := ⟨191, [.tmp 10], [0, 1, 2, 3, 4, 10, 11, 12, 13, 14, 15, 16, 17, 18, 19, 20, 21, 22],
 (.seq (.reg false [
   ⟨some 10, .mv, [.bool false], none, []⟩])
 (.seq (.reg false [
   ⟨some 23, .call 12, [], none, []⟩,
   ⟨some 11, .mv, [.t 23], none, []⟩])
 (.seq (.seq (.reg false [
   ⟨some 24, .mv, [.t 0], none, []⟩,
   ⟨some 25, .mv, [.t 1], none, []⟩,
   ⟨some 26, .call 13, [.t 24, .t 25, .int .i64 0], none, []⟩,
   ⟨some 27, .not, [.t 26], none, []⟩,
   ⟨some 28, .mv, [.t 27], none, []⟩,
   ⟨some 29, .mv, [.t 0], some (4, 28, false), []⟩,
   ⟨some 30, .bin .gtr, [.t 29, .int .i64 2000], some (4, 28, false), []⟩,
   ⟨some 31, .pick, [.t 28, .bool true, .t 30], none, []⟩,
   ⟨some 32, .mv, [.t 31], none, []⟩,
   ⟨some 33, .mv, [.t 2], some (8, 32, false), []⟩,
   ⟨some 34, .len false, [.t 33], some (8, 32, false), []⟩,
   ⟨some 35, .bin .gtr, [.t 34, .int .i64 12], some (8, 32, false), []⟩,
   ⟨some 36, .pick, [.t 32, .bool true, .t 35], none, []⟩])
 (.cond (.t 36)
  (.seq (.reg false [
    ⟨some 37, .mv, [.t 11], none, []⟩,
    ⟨some 10, .mv, [.t 37], none, []⟩])
  .ret)
  .skip))
 (.clean (.seq (.reg false [
   ⟨some 39, .mv, [.t 1], none, []⟩,
   ⟨some 40, .mv, [.t 2], none, []⟩,
   ⟨some 41, .mv, [.t 3], none, []⟩,
   ⟨some 42, .call 14, [.t 39, .t 40, .t 41], none, []⟩,
   ⟨some 38, .mv, [.t 42], none, []⟩,
   ⟨some 43, .extract 0, [.t 38], none, []⟩,
   ⟨some 44, .extract 1, [.t 38], none, []⟩,
   ⟨some 45, .extract 2, [.t 38], none, []⟩,
   ⟨some 12, .mv, [.t 43], none, []⟩,
   ⟨some 13, .mv, [.t 44], none, []⟩,
   ⟨some 14, .mv, [.t 45], none, []⟩])
 (.clean (.seq (.seq (.reg false [
   ⟨some 46, .mv, [.t 14], none, []⟩,
   ⟨some 47, .bin .neq, [.t 46, .int .i64 0], none, []⟩,
   ⟨some 48, .mv, [.t 47], none, []⟩,
   ⟨some 49, .mv, [.t 2], some (2, 48, false), []⟩,
   ⟨some 50, .len false, [.t 49], some (2, 48, false), []⟩,
   ⟨some 51, .bin .eql, [.t 50, .int .i64 0], some (2, 48, false), []⟩,
   ⟨some 52, .pick, [.t 48, .bool true, .t 51], none, []⟩])
 (.cond (.t 52)
  (.seq (.reg false [
    ⟨some 53, .mv, [.t 11], none, []⟩,
    ⟨some 54, .mv, [.t 53], none, []⟩,
    ⟨some 55, .mv, [.t 14], some (1, 54, true), []⟩,
    ⟨some 56, .bin .neq, [.t 55, .int .i64 0], some (1, 54, true), []⟩,
    ⟨some 57, .mv, [.t 56], some (1, 54, true), []⟩,
    ⟨some 58, .mv, [.t 12], some (4, 57, false), []⟩,
    ⟨some 59, .mv, [.t 3], some (4, 57, false), []⟩,
    ⟨some 60, .bin .eql, [.t 58, .t 59], some (4, 57, false), []⟩,
    ⟨some 61, .mv, [.t 60], some (4, 57, false), []⟩,
    ⟨some 62, .mv, [.t 13], some (8, 61, true), []⟩,
    ⟨some 63, .mv, [.t 3], some (8, 61, true), []⟩,
    ⟨some 64, .bin .eql, [.t 62, .t 63], some (8, 61, true), []⟩,
    ⟨some 65, .pick, [.t 61, .t 64, .bool false], some (4, 57, false), []⟩,
    ⟨some 66, .pick, [.t 57, .bool true, .t 65], some (1, 54, true), []⟩,
    ⟨some 67, .pick, [.t 54, .t 66, .bool false], none, []⟩,
    ⟨some 10, .mv, [.t 67], none, []⟩])
  .ret)
  .skip))
 (.clean (.seq (.reg false [
   ⟨some 68, .mv, [.t 3], none, []⟩,
   ⟨some 15, .mv, [.t 68], none, []⟩])
 (.seq (.seq (.reg false [
   ⟨some 16, .mv, [.int .i64 0], none, []⟩])
 (.block 0 (.loop x10_0)))
 (.clean (.seq (.reg false [
   ⟨some 121, .mv, [.t 0], none, []⟩,
   ⟨some 122, .mv, [.t 1], none, []⟩,
   ⟨some 123, .mv, [.t 1], none, []⟩,
   ⟨some 124, .mv, [.t 2], none, []⟩,
   ⟨some 125, .iaddr (.int .i64), [.t 124, .int .i64 0], none, []⟩,
   ⟨some 126, .load (.int .i64), [.t 125], none, []⟩,
   ⟨some 127, .iaddr (.st (.cons (.int .i64) (.cons (.int .i64) (.cons (.sl (.int .i64)) (.sl (.int .i64)))))), [.t 123, .t 126], none, []⟩,
   ⟨some 128, .faddr 0 (.int .i64), [.t 127], none, []⟩,
   ⟨some 129, .load (.int .i64), [.t 128], none, []⟩,
   ⟨some 130, .mv, [.t 3], none, []⟩,
   ⟨some 131, .call 20, [.t 121, .t 122, .t 129, .t 130, .bool false], none, []⟩,
   ⟨some 120, .mv, [.t 131], none, []⟩,
   ⟨some 132, .extract 0, [.t 120], none, []⟩,
   ⟨some 133, .extract 1, [.t 120], none, []⟩,
   ⟨some 20, .mv, [.t 132], none, []⟩,
   ⟨some 21, .mv, [.t 133], none, []⟩])
 (.clean (.seq (.seq (.reg false [
   ⟨some 134, .mv, [.t 21], none, []⟩,
   ⟨some 135, .bin .neq, [.t 134, .int .i64 0], none, []⟩])
 (.cond (.t 135)
  (.seq (.reg false [
    ⟨some 136, .mv, [.t 11], none, []⟩,
    ⟨some 137, .mv, [.t 136], none, []⟩,
    ⟨some 138, .mv, [.t 12], some (1, 137, true), []⟩,
    ⟨some 139, .mv, [.t 15], some (1, 137, true), []⟩,
    ⟨some 140, .bin .leq, [.t 138, .t 139], some (1, 137, true), []⟩,
    ⟨some 141, .pick, [.t 137, .t 140, .bool false], none, []⟩,
    ⟨some 142, .mv, [.t 141], none, []⟩,
    ⟨some 143, .mv, [.t 15], some (6, 142, true), []⟩,
    ⟨some 144, .mv, [.t 13], some (6, 142, true), []⟩,
    ⟨some 145, .bin .leq, [.t 143, .t 144], some (6, 142, true), []⟩,
    ⟨some 146, .pick, [.t 142, .t 145, .bool false], none, []⟩,
    ⟨some 10, .mv, [.t 146], none, []⟩])
  .ret)
  .skip))
 (.clean (.seq (.reg false [
   ⟨some 147, .mv, [.t 1], none, []⟩,
   ⟨some 148, .mv, [.t 2], none, []⟩,
   ⟨some 149, .mv, [.t 2], none, []⟩,
   ⟨some 150, .len false, [.t 149], none, []⟩,
   ⟨some 151, .bin .sub, [.t 150, .int .i64 1], none, []⟩,
   ⟨some 152, .iaddr (.int .i64), [.t 148, .t 151], none, []⟩,
   ⟨some 153, .load (.int .i64), [.t 152], none, []⟩,
   ⟨some 154, .iaddr (.st (.cons (.int .i64) (.cons (.int .i64) (.cons (.sl (.int .i64)) (.sl (.int .i64)))))), [.t 147, .t 153], none, []⟩,
   ⟨some 155, .faddr 1 (.int .i64), [.t 154], none, []⟩,
   ⟨some 156, .load (.int .i64), [.t 155], none, []⟩,
   ⟨some 22, .mv, [.t 156], none, []⟩])
 (.clean (.seq (.reg false [
   ⟨some 157, .mv, [.t 11], none, []⟩,
   ⟨some 158, .mv, [.t 157], none, []⟩,
   ⟨some 159, .mv, [.t 12], some (1, 158, true), []⟩,
   ⟨some 160, .mv, [.t 15], some (1, 158, true), []⟩,
   ⟨some 161, .bin .leq, [.t 159, .t 160], some (1, 158, true), []⟩,
   ⟨some 162, .pick, [.t 158, .t 161, .bool false], none, []⟩,
   ⟨some 163, .mv, [.t 162], none, []⟩,
   ⟨some 164, .mv, [.t 15], some (6, 163, true), []⟩,
   ⟨some 165, .mv, [.t 13], some (6, 163, true), []⟩,
   ⟨some 166, .bin .leq, [.t 164, .t 165], some (6, 163, true), []⟩,
   ⟨some 167, .pick, [.t 163, .t 166, .bool false], none, []⟩,
   ⟨some 168, .mv, [.t 167], none, []⟩,
   ⟨some 169, .mv, [.t 22], some (11, 168, true), []⟩,
   ⟨some 170, .mv, [.t 20], some (11, 168, true), []⟩,
   ⟨some 171, .len false, [.t 170], some (11, 168, true), []⟩,
   ⟨some 172, .bin .lss, [.t 169, .t 171], some (11, 168, true), []⟩,
   ⟨some 173, .pick, [.t 168, .t 172, .bool false], none, []⟩,
   ⟨some 174, .mv, [.t 173], none, []⟩,
   ⟨some 175, .mv, [.t 20], some (17, 174, true), []⟩,
   ⟨some 176, .mv, [.t 22], some (17, 174, true), []⟩,
   ⟨some 177, .iaddr (.st (.cons (.int .i64) (.int .i64))), [.t 175, .t 176], some (17, 174, true), []⟩,
   ⟨some 178, .faddr 0 (.int .i64), [.t 177], some (17, 174, true), []⟩,
   ⟨some 179, .load (.int .i64), [.t 178], some (17, 174, true), []⟩,
   ⟨some 180, .bin .geq, [.t 179, .int .i64 0], some (17, 174, true), []⟩,
   ⟨some 181, .pick, [.t 174, .t 180, .bool false], none, []⟩,
   ⟨some 182, .mv, [.t 181], none, []⟩,
   ⟨some 183, .mv, [.t 20], some (25, 182, true), []⟩,
   ⟨some 184, .mv, [.t 22], some (25, 182, true), []⟩,
   ⟨some 185, .iaddr (.st (.cons (.int .i64) (.int .i64))), [.t 183, .t 184], some (25, 182, true), []⟩,
   ⟨some 186, .faddr 0 (.int .i64), [.t 185], some (25, 182, true), []⟩,
   ⟨some 187, .load (.int .i64), [.t 186], some (25, 182, true), []⟩,
   ⟨some 188, .mv, [.t 15], some (25, 182, true), []⟩,
   ⟨some 189, .bin .leq, [.t 187, .t 188], some (25, 182, true), []⟩,
   ⟨some 190, .pick, [.t 182, .t 189, .bool false], none, []⟩,
   ⟨some 10, .mv, [.t 190], none, []⟩])
 .ret))))))))))))))))))⟩
/- 0=n 1=arcs 2=way 3=start 4=took 10= 11=head 12=low 13=high 14=e 15=now 16=i 17=a 18=hour 19=n 20=early 21=f 22=to -/
/-! tonneau/tonneaulaw12.LabelWays -/
def x11_0 : XC := (.seq (.seq (.reg false [
   ⟨some 52, .mv, [.t 14], none, []⟩,
   ⟨some 53, .mv, [.t 0], none, []⟩,
   ⟨some 54, .bin .lss, [.t 52, .t 53], none, []⟩])
 (.cond (.t 54)
  .skip
  (.exit 0)))
 (.seq (.block 1 (.seq (.seq (.reg false [
    ⟨some 57, .mv, [.t 14], none, []⟩,
    ⟨some 58, .mv, [.t 2], none, []⟩,
    ⟨some 59, .bin .eql, [.t 57, .t 58], none, []⟩,
    ⟨some 60, .mv, [.t 59], none, []⟩,
    ⟨some 61, .mv, [.t 12], some (3, 60, false), []⟩,
    ⟨some 62, .mv, [.t 14], some (3, 60, false), []⟩,
    ⟨some 63, .iaddr (.st (.cons (.int .i64) (.int .i64))), [.t 61, .t 62], some (3, 60, false), []⟩,
    ⟨some 64, .faddr 0 (.int .i64), [.t 63], some (3, 60, false), []⟩,
    ⟨some 65, .load (.int .i64), [.t 64], some (3, 60, false), []⟩,
    ⟨some 66, .bin .lss, [.t 65, .int .i64 0], some (3, 60, false), []⟩,
    ⟨some 67, .pick, [.t 60, .bool true, .t 66], none, []⟩])
  (.cond (.t 67)
   (.exit 1)
   .skip))
  (.clean (.seq (.reg false [
    ⟨some 69, .mv, [.t 1], none, []⟩,
    ⟨some 70, .mv, [.t 12], none, []⟩,
    ⟨some 71, .mv, [.t 1], none, []⟩,
    ⟨some 72, .mv, [.t 14], none, []⟩,
    ⟨some 73, .call 28, [.t 70, .t 71, .t 72], none, []⟩,
    ⟨some 74, .mv, [.t 3], none, []⟩,
    ⟨some 75, .call 14, [.t 69, .t 73, .t 74], none, []⟩,
    ⟨some 68, .mv, [.t 75], none, []⟩,
    ⟨some 76, .extract 0, [.t 68], none, []⟩,
    ⟨some 77, .extract 1, [.t 68], none, []⟩,
    ⟨some 78, .extract 2, [.t 68], none, []⟩,
    ⟨some 15, .mv, [.t 76], none, []⟩,
    ⟨some 16, .mv, [.t 77], none, []⟩,
    ⟨some 17, .mv, [.t 78], none, []⟩])
  (.clean (.seq (.reg false [
    ⟨some 79, .mv, [.t 17], none, []⟩,
    ⟨some 80, .bin .neq, [.t 79, .int .i64 0], none, []⟩,
    ⟨some 81, .mv, [.t 80], none, []⟩,
    ⟨some 82, .mv, [.t 16], some (2, 81, false), []⟩,
    ⟨some 83, .mv, [.t 12], some (2, 81, false), []⟩,
    ⟨some 84, .mv, [.t 14], some (2, 81, false), []⟩,
    ⟨some 85, .iaddr (.st (.cons (.int .i64) (.int .i64))), [.t 83, .t 84], some (2, 81, false), []⟩,
    ⟨some 86, .faddr 0 (.int .i64), [.t 85], some (2, 81, false), []⟩,
    ⟨some 87, .load (.int .i64), [.t 86], some (2, 81, false), []⟩,
    ⟨some 88, .bin .neq, [.t 82, .t 87], some (2, 81, false), []⟩,
    ⟨some 89, .pick, [.t 81, .bool true, .t 88], none, []⟩,
    ⟨some 90, .mv, [.t 89], none, []⟩,
    ⟨some 91, .mv, [.t 15], some (11, 90, false), []⟩,
    ⟨some 92, .mv, [.t 16], some (11, 90, false), []⟩,
    ⟨some 93, .bin .gtr, [.t 91, .t 92], some (11, 90, false), []⟩,
    ⟨some 94, .pick, [.t 90, .bool true, .t 93], none, []⟩])
  (.cond (.t 94)
   (.seq (.reg false [
     ⟨some 10, .mv, [.bool false], none, []⟩])
   .ret)
   .skip)))))))
 (.clean (.reg false [
   ⟨some 55, .mv, [.t 14], none, []⟩,
   ⟨some 56, .bin .add, [.t 55, .int .i64 1], none, []⟩,
   ⟨some 14, .mv, [.t 56], none, []⟩]))))
def x11_0d : List Nat := [10, 14, 15, 16, 17]
def x11 : XF := ⟨150, [.tmp 10], [0, 1, 2, 3, 4, 10, 11, 12, 13, 14, 15, 16, 17, 19, 20, 21],
 (.seq (.reg false [
   ⟨some 10, .mv, [.bool false], none, []⟩])
 (.seq (.reg false [
   ⟨some 22, .call 12, [], none, []⟩,
   ⟨some 11, .mv, [.t 22], none, []⟩])
 (.seq (.seq (.reg false [
   ⟨some 23, .mv, [.t 0], none, []⟩,
   ⟨some 24, .mv, [.t 1], none, []⟩,
   ⟨some 25, .call 13, [.t 23, .t 24, .int .i64 0], none, []⟩,
   ⟨some 26, .not, [.t 25], none, []⟩,
   ⟨some 27, .mv, [.t 26], none, []⟩,
   ⟨some 28, .mv, [.t 0], some (4, 27, false), []⟩,
   ⟨some 29, .bin .gtr, [.t 28, .int .i64 2000], some (4, 27, false), []⟩,
   ⟨some 30, .pick, [.t 27, .bool true, .t 29], none, []⟩,
   ⟨some 31, .mv, [.t 30], none, []⟩,
   ⟨some 32, .mv, [.t 4], some (8, 31, false), []⟩,
   ⟨some 33, .len false, [.t 32], some (8, 31, false), []⟩,
   ⟨some 34, .bin .gtr, [.t 33, .int .i64 12], some (8, 31, false), []⟩,
   ⟨some 35, .pick, [.t 31, .bool true, .t 34], none, []⟩])
 (.cond (.t 35)
  (.seq (.reg false [
    ⟨some 36, .mv, [.t 11], none, []⟩,
    ⟨some 10, .mv, [.t 36], none, []⟩])
  .ret)
  .skip))
 (.clean (.seq (.reg false [
   ⟨some 38, .mv, [.t 0], none, []⟩,
   ⟨some 39, .mv, [.t 1], none, []⟩,
   ⟨some 40, .mv, [.t 2], none, []⟩,
   ⟨some 41, .mv, [.t 3], none, []⟩,
   ⟨some 42, .call 20, [.t 38, .t 39, .t 40, .t 41, .bool true], none, []⟩,
   ⟨some 37, .mv, [.t 42], none, []⟩,
   ⟨some 43, .extract 0, [.t 37], none, []⟩,
   ⟨some 44, .extract 1, [.t 37], none, []⟩,
   ⟨some 12, .mv, [.t 43], none, []⟩,
   ⟨some 13, .mv, [.t 44], none, []⟩])
 (.clean (.seq (.seq (.reg false [
   ⟨some 45, .mv, [.t 13], none, []⟩,
   ⟨some 46, .bin .neq, [.t 45, .int .i64 0], none, []⟩])
 (.cond (.t 46)
  (.seq (.reg false [
    ⟨some 47, .mv, [.t 11], none, []⟩,
    ⟨some 10, .mv, [.t 47], none, []⟩])
  .ret)
  .skip))
 (.seq (.seq (.reg false [
   ⟨some 48, .mv, [.t 12], none, []⟩,
   ⟨some 49, .len false, [.t 48], none, []⟩,
   ⟨some 50, .mv, [.t 0], none, []⟩,
   ⟨some 51, .bin .neq, [.t 49, .t 50], none, []⟩])
 (.cond (.t 51)
  (.seq (.reg false [
    ⟨some 10, .mv, [.bool false], none, []⟩])
  .ret)
  .skip))
 (.clean (.seq (.seq (.reg false [
   ⟨some 14, .mv, [.int .i64 0], none, []⟩])
 (.block 0 (.loop x11_0)))
 (.clean (.seq (.reg false [
   ⟨some 96, .mv, [.t 1], none, []⟩,
   ⟨some 97, .mv, [.t 4], none, []⟩,
   ⟨some 98, .mv, [.t 3], none, []⟩,
   ⟨some 99, .call 14, [.t 96, .t 97, .t 98], none, []⟩,
   ⟨some 95, .mv, [.t 99], none, []⟩,
   ⟨some 100, .extract 0, [.t 95], none, []⟩,
   ⟨some 101, .extract 1, [.t 95], none, []⟩,
   ⟨some 102, .extract 2, [.t 95], none, []⟩,
   ⟨some 18, .mv, [.t 100], none, []⟩,
   ⟨some 19, .mv, [.t 101], none, []⟩,
   ⟨some 20, .mv, [.t 102], none, []⟩])
 (.clean (.seq (.seq (.reg false [
   ⟨some 103, .mv, [.t 20], none, []⟩,
   ⟨some 104, .bin .neq, [.t 103, .int .i64 0], none, []⟩,
   ⟨some 105, .mv, [.t 104], none, []⟩,
   ⟨some 106, .mv, [.t 4], some (2, 105, false), []⟩,
   ⟨some 107, .len false, [.t 106], some (2, 105, false), []⟩,
   ⟨some 108, .bin .eql, [.t 107, .int .i64 0], some (2, 105, false), []⟩,
   ⟨some 109, .pick, [.t 105, .bool true, .t 108], none, []⟩,
   ⟨some 110, .mv, [.t 109], none, []⟩,
   ⟨some 111, .mv, [.t 1], some (7, 110, false), []⟩,
   ⟨some 112, .mv, [.t 4], some (7, 110, false), []⟩,
   ⟨some 113, .iaddr (.int .i64), [.t 112, .int .i64 0], some (7, 110, false), []⟩,
   ⟨some 114, .load (.int .i64), [.t 113], some (7, 110, false), []⟩,
   ⟨some 115, .iaddr (.st (.cons (.int .i64) (.cons (.int .i64) (.cons (.sl (.int .i64)) (.sl (.int .i64)))))), [.t 111, .t 114], some (7, 110, false), []⟩,
   ⟨some 116, .faddr 0 (.int .i64), [.t 115], some (7, 110, false), []⟩,
   ⟨some 117, .load (.int .i64), [.t 116], some (7, 110, false), []⟩,
   ⟨some 118, .mv, [.t 2], some (7, 110, false), []⟩,
   ⟨some 119, .bin .neq, [.t 117, .t 118], some (7, 110, false), []⟩,
   ⟨some 120, .pick, [.t 110, .bool true, .t 119], none, []⟩])
 (.cond (.t 120)
  (.seq (.reg false [
    ⟨some 121, .mv, [.t 11], none, []⟩,
    ⟨some 10, .mv, [.t 121], none, []⟩])
  .ret)
  .skip))
 (.clean (.seq (.reg false [
   ⟨some 122, .mv, [.t 1], none, []⟩,
   ⟨some 123, .mv, [.t 4], none, []⟩,
   ⟨some 124, .mv, [.t 4], none, []⟩,
   ⟨some 125, .len false, [.t 124], none, []⟩,
   ⟨some 126, .bin .sub, [.t 125, .int .i64 1], none, []⟩,
   ⟨some 127, .iaddr (.int .i64), [.t 123, .t 126], none, []⟩,
   ⟨some 128, .load (.int .i64), [.t 127], none, []⟩,
   ⟨some 129, .iaddr (.st (.cons (.int .i64) (.cons (.int .i64) (.cons (.sl (.int .i64)) (.sl (.int .i64)))))), [.t 122, .t 128], none, []⟩,
   ⟨some 130, .faddr 1 (.int .i64), [.t 129], none, []⟩,
   ⟨some 131, .load (.int .i64), [.t 130], none, []⟩,
   ⟨some 21, .mv, [.t 131], none, []⟩])
 (.clean (.seq (.reg false [
   ⟨some 132, .mv, [.t 11], none, []⟩,
   ⟨some 133, .mv, [.t 132], none, []⟩,
   ⟨some 134, .mv, [.t 12], some (1, 133, true), []⟩,
   ⟨some 135, .mv, [.t 21], some (1, 133, true), []⟩,
   ⟨some 136, .iaddr (.st (.cons (.int .i64) (.int .i64))), [.t 134, .t 135], some (1, 133, true), []⟩,
   ⟨some 137, .faddr 0 (.int .i64), [.t 136], some (1, 133, true), []⟩,
   ⟨some 138, .load (.int .i64), [.t 137], some (1, 133, true), []⟩,
   ⟨some 139, .bin .geq, [.t 138, .int .i64 0], some (1, 133, true), []⟩,
   ⟨some 140, .pick, [.t 133, .t 139, .bool false], none, []⟩,
   ⟨some 141, .mv, [.t 140], none, []⟩,
   ⟨some 142, .mv, [.t 12], some (9, 141, true), []⟩,
   ⟨some 143, .mv, [.t 21], some (9, 141, true), []⟩,
   ⟨some 144, .iaddr (.st (.cons (.int .i64) (.int .i64))), [.t 142, .t 143], some (9, 141, true), []⟩,
   ⟨some 145, .faddr 0 (.int .i64), [.t 144], some (9, 141, true), []⟩,
   ⟨some 146, .load (.int .i64), [.t 145], some (9, 141, true), []⟩,
   ⟨some 147, .mv, [.t 19], some (9, 141, true), []⟩,
   ⟨some 148, .bin .leq, [.t 146, .t 147], some (9, 141, true), []⟩,
   ⟨some 149, .pick, [.t 141, .t 148, .bool false], none, []⟩,
   ⟨some 10, .mv, [.t 149], none, []⟩])
 .ret))))))))))))))))))⟩
/- 0=n 1=arcs 2=from 3=start 4=other 10= 11=head 12=early 13=e 14=i 15=low 16=high 17=f 19=high 20=f 21=to -/
/-! tonneau/tonneaulaw12.small -/
def x12 : XF := ⟨54, [.tmp 0], [0, 1, 2, 3, 6, 7],
 (.seq (.reg false [
   ⟨some 0, .mv, [.bool false], none, []⟩])
 (.seq (.reg false [
   ⟨some 9, .call 34, [], none, []⟩,
   ⟨some 10, .bslice 3 (.int .i64) 1 [0], [.int .i64 0], none, []⟩,
   ⟨some 11, .call 14, [.t 9, .t 10, .int .i64 100], none, []⟩,
   ⟨some 8, .mv, [.t 11], none, []⟩,
   ⟨some 12, .extract 0, [.t 8], none, []⟩,
   ⟨some 13, .extract 1, [.t 8], none, []⟩,
   ⟨some 14, .extract 2, [.t 8], none, []⟩,
   ⟨some 1, .mv, [.t 12], none, []⟩,
   ⟨some 2, .mv, [.t 13], none, []⟩,
   ⟨some 3, .mv, [.t 14], none, []⟩])
 (.clean (.seq (.reg false [
   ⟨some 16, .call 34, [], none, []⟩,
   ⟨some 17, .bslice 3 (.int .i64) 1 [0], [.int .i64 2], none, []⟩,
   ⟨some 18, .call 14, [.t 16, .t 17, .int .i64 100], none, []⟩,
   ⟨some 15, .mv, [.t 18], none, []⟩,
   ⟨some 19, .extract 0, [.t 15], none, []⟩,
   ⟨some 20, .extract 1, [.t 15], none, []⟩,
   ⟨some 21, .extract 2, [.t 15], none, []⟩,
   ⟨some 4, .mv, [.t 19], none, []⟩,
   ⟨some 5, .mv, [.t 20], none, []⟩,
   ⟨some 6, .mv, [.t 21], none, []⟩])
 (.clean (.seq (.reg false [
   ⟨some 22, .call 35, [.int .i64 115, .int .i64 1], none, []⟩,
   ⟨some 23, .bin .eql, [.t 22, .int .i64 0], none, []⟩,
   ⟨some 24, .mv, [.t 23], none, []⟩,
   ⟨some 25, .call 35, [.int .i64 120, .int .i64 0], some (2, 24, true), []⟩,
   ⟨some 26, .bin .eql, [.t 25, .int .i64 23], some (2, 24, true), []⟩,
   ⟨some 27, .pick, [.t 24, .t 26, .bool false], none, []⟩,
   ⟨some 28, .mv, [.t 27], none, []⟩,
   ⟨some 29, .call 35, [.int .i64 (-1), .int .i64 (-1)], some (6, 28, true), []⟩,
   ⟨some 30, .bin .eql, [.t 29, .int .i64 23], some (6, 28, true), []⟩,
   ⟨some 31, .pick, [.t 28, .t 30, .bool false], none, []⟩,
   ⟨some 7, .mv, [.t 31], none, []⟩])
 (.clean (.seq (.reg false [
   ⟨some 32, .mv, [.t 7], none, []⟩,
   ⟨some 33, .mv, [.t 32], none, []⟩,
   ⟨some 34, .mv, [.t 3], some (1, 33, true), []⟩,
   ⟨some 35, .bin .eql, [.t 34, .int .i64 0], some (1, 33, true), []⟩,
   ⟨some 36, .pick, [.t 33, .t 35, .bool false], none, []⟩,
   ⟨some 37, .mv, [.t 36], none, []⟩,
   ⟨some 38, .mv, [.t 1], some (5, 37, true), []⟩,
   ⟨some 39, .bin .eql, [.t 38, .int .i64 110], some (5, 37, true), []⟩,
   ⟨some 40, .pick, [.t 37, .t 39, .bool false], none, []⟩,
   ⟨some 41, .mv, [.t 40], none, []⟩,
   ⟨some 42, .mv, [.t 2], some (9, 41, true), []⟩,
   ⟨some 43, .bin .eql, [.t 42, .int .i64 120], some (9, 41, true), []⟩,
   ⟨some 44, .pick, [.t 41, .t 43, .bool false], none, []⟩,
   ⟨some 45, .mv, [.t 44], none, []⟩,
   ⟨some 46, .mv, [.t 6], some (13, 45, true), []⟩,
   ⟨some 47, .bin .eql, [.t 46, .int .i64 1], some (13, 45, true), []⟩,
   ⟨some 48, .pick, [.t 45, .t 47, .bool false], none, []⟩,
   ⟨some 49, .mv, [.t 48], none, []⟩,
   ⟨some 50, .call 34, [], some (17, 49, true), []⟩,
   ⟨some 51, .call 16, [.int .i64 2, .t 50, .int .i64 0, .int .i64 100, .bool true, .nil], some (17, 49, true), []⟩,
   ⟨some 52, .bin .eql, [.t 51, .int .i64 2], some (17, 49, true), []⟩,
   ⟨some 53, .pick, [.t 49, .t 52, .bool false], none, []⟩,
   ⟨some 0, .mv, [.t 53], none, []⟩])
 .ret))))))))⟩
/- 0= 1=a 2=b 3=e 6=f 7=one -/
/-! tonneau/label.Span -/
def x14_0 : XC := (.seq (.reg false [
   ⟨some 33, .bin .lss, [.t 32, .t 31], none, []⟩])
 (.seq (.cond (.t 33)
  .skip
  (.exit 0))
 (.seq (.block 1 (.seq (.reg false [
    ⟨some 34, .iaddr (.st (.cons (.int .i64) (.cons (.int .i64) (.cons (.sl (.int .i64)) (.sl (.int .i64)))))), [.t 30, .t 32], none, []⟩,
    ⟨some 35, .load (.st (.cons (.int .i64) (.cons (.int .i64) (.cons (.sl (.int .i64)) (.sl (.int .i64)))))), [.t 34], none, []⟩,
    ⟨some 10, .alloc 45 (.st (.cons (.int .i64) (.cons (.int .i64) (.cons (.sl (.int .i64)) (.sl (.int .i64)))))), [], none, []⟩,
    ⟨none, .store (.st (.cons (.int .i64) (.cons (.int .i64) (.cons (.sl (.int .i64)) (.sl (.int .i64)))))), [.t 10, .t 35], none, []⟩])
  (.seq (.reg false [
    ⟨some 36, .load (.st (.cons (.int .i64) (.cons (.int .i64) (.cons (.sl (.int .i64)) (.sl (.int .i64)))))), [.t 10], none, []⟩,
    ⟨some 37, .call 37, [.t 36], none, []⟩,
    ⟨some 38, .not, [.t 37], none, []⟩])
  (.cond (.t 38)
   (.seq (.reg false [
     ⟨some 6, .mv, [.int .i64 0], none, []⟩,
     ⟨some 7, .mv, [.int .i64 0], none, []⟩,
     ⟨some 8, .mv, [.int .i64 1], none, []⟩])
   .ret)
   .skip))))
 (.reg false [
   ⟨some 39, .bin .add, [.t 32, .int .i64 1], none, []⟩,
   ⟨some 32, .mv, [.t 39], none, []⟩]))))
def x14_0d : List Nat := [6, 7, 8, 10, 32]
def x14_1 : XC := (.seq (.reg false [
   ⟨some 43, .bin .lss, [.t 42, .t 41], none, []⟩])
 (.seq (.cond (.t 43)
  .skip
  (.exit 2))
 (.seq (.block 3 (.seq (.reg false [
    ⟨some 44, .mv, [.t 42], none, []⟩,
    ⟨some 45, .iaddr (.int .i64), [.t 40, .t 42], none, []⟩,
    ⟨some 46, .load (.int .i64), [.t 45], none, []⟩,
    ⟨some 11, .mv, [.t 44], none, []⟩,
    ⟨some 12, .mv, [.t 46], none, []⟩])
  (.seq (.reg true [
    ⟨some 47, .mv, [.t 12], none, []⟩,
    ⟨some 48, .bin .lss, [.t 47, .int .i64 0], none, [0]⟩,
    ⟨some 49, .mv, [.t 48], none, [1, 0]⟩,
    ⟨some 50, .mv, [.t 12], some (2, 49, false), [2, 1, 0]⟩,
    ⟨some 51, .mv, [.t 0], some (2, 49, false), [2, 1, 0]⟩,
    ⟨some 52, .len false, [.t 51], some (2, 49, false), [4, 2, 1, 0]⟩,
    ⟨some 53, .bin .geq, [.t 50, .t 52], some (2, 49, false), [3, 2, 1, 0, 5, 4]⟩,
    ⟨some 54, .pick, [.t 49, .bool true, .t 53], none, [2, 1, 0, 6, 3, 5, 4]⟩,
    ⟨some 55, .mv, [.t 54], none, [7, 2, 1, 0, 6, 3, 5, 4]⟩,
    ⟨some 56, .mv, [.t 11], some (8, 55, false), [8, 7, 2, 1, 0, 6, 3, 5, 4]⟩,
    ⟨some 57, .bin .gtr, [.t 56, .int .i64 0], some (8, 55, false), [9, 8, 7, 2, 1, 0, 6, 3, 5, 4]⟩,
    ⟨some 58, .mv, [.t 57], some (8, 55, false), [10, 9, 8, 7, 2, 1, 0, 6, 3, 5, 4]⟩,
    ⟨some 59, .mv, [.t 0], some (11, 58, true), [11, 10, 9, 8, 7, 2, 1, 0, 6, 3, 5, 4]⟩,
    ⟨some 60, .mv, [.t 1], some (11, 58, true), [11, 10, 9, 8, 7, 2, 1, 0, 6, 3, 5, 4]⟩,
    ⟨some 61, .mv, [.t 11], some (11, 58, true), [11, 10, 9, 8, 7, 2, 1, 0, 6, 3, 5, 4]⟩,
    ⟨some 62, .bin .sub, [.t 61, .int .i64 1], some (11, 58, true), [14, 11, 10, 9, 8, 7, 2, 1, 0, 6, 3, 5, 4]⟩,
    ⟨some 63, .iaddr (.int .i64), [.t 60, .t 62], some (11, 58, true), [13, 11, 10, 9, 8, 7, 2, 1, 0, 6, 3, 5, 4, 15, 14]⟩,
    ⟨some 64, .load (.int .i64), [.t 63], some (11, 58, true), [16, 13, 11, 10, 9, 8, 7, 2, 1, 0, 6, 3, 5, 4, 15, 14]⟩,
    ⟨some 65, .iaddr (.st (.cons (.int .i64) (.cons (.int .i64) (.cons (.sl (.int .i64)) (.sl (.int .i64)))))), [.t 59, .t 64], some (11, 58, true), [12, 11, 10, 9, 8, 7, 2, 1, 0, 6, 3, 5, 4, 17, 16, 13, 15, 14]⟩,
    ⟨some 66, .faddr 1 (.int .i64), [.t 65], some (11, 58, true), [18, 12, 11, 10, 9, 8, 7, 2, 1, 0, 6, 3, 5, 4, 17, 16, 13, 15, 14]⟩,
    ⟨some 67, .load (.int .i64), [.t 66], some (11, 58, true), [19, 18, 12, 11, 10, 9, 8, 7, 2, 1, 0, 6, 3, 5, 4, 17, 16, 13, 15, 14]⟩,
    ⟨some 68, .mv, [.t 0], some (11, 58, true), [11, 10, 9, 8, 7, 2, 1, 0, 6, 3, 5, 4]⟩,
    ⟨some 69, .mv, [.t 12], some (11, 58, true), [11, 10, 9, 8, 7, 2, 1, 0, 6, 3, 5, 4]⟩,
    ⟨some 70, .iaddr (.st (.cons (.int .i64) (.cons (.int .i64) (.cons (.sl (.int .i64)) (.sl (.int .i64)))))), [.t 68, .t 69], some (11, 58, true), [21, 11, 10, 9, 8, 7, 2, 1, 0, 6, 3, 5, 4, 22]⟩,
    ⟨some 71, .faddr 0 (.int .i64), [.t 70], some (11, 58, true), [23, 21, 11, 10, 9, 8, 7, 2, 1, 0, 6, 3, 5, 4, 22]⟩,
    ⟨some 72, .load (.int .i64), [.t 71], some (11, 58, true), [24, 23, 21, 11, 10, 9, 8, 7, 2, 1, 0, 6, 3, 5, 4, 22]⟩,
    ⟨some 73, .bin .neq, [.t 67, .t 72], some (11, 58, true), [20, 19, 18, 12, 11, 10, 9, 8, 7, 2, 1, 0, 6, 3, 5, 4, 17, 16, 13, 15, 14, 25, 24, 23, 21, 22]⟩,
    ⟨some 74, .pick, [.t 58, .t 73, .bool false], some (8, 55, false), [11, 10, 9, 8, 7, 2, 1, 0, 6, 3, 5, 4, 26, 20, 19, 18, 12, 17, 16, 13, 15, 14, 25, 24, 23, 21, 22]⟩,
    ⟨some 75, .pick, [.t 55, .bool true, .t 74], none, [8, 7, 2, 1, 0, 6, 3, 5, 4, 27, 11, 10, 9, 26, 20, 19, 18, 12, 17, 16, 13, 15, 14, 25, 24, 23, 21, 22]⟩])
  (.cond (.t 75)
   (.seq (.reg false [
     ⟨some 6, .mv, [.int .i64 0], none, []⟩,
     ⟨some 7, .mv, [.int .i64 0], none, []⟩,
     ⟨some 8, .mv, [.int .i64 1], none, []⟩])
   .ret)
   .skip))))
 (.reg false [
   ⟨some 76, .bin .add, [.t 42, .int .i64 1], none, []⟩,
   ⟨some 42, .mv, [.t 76], none, []⟩]))))
def x14_1d : List Nat := [6, 7, 8, 11, 12, 42]
def x14_2 : XC := (.seq (.reg false [
   ⟨some 82, .bin .lss, [.t 81, .t 80], none, []⟩])
 (.seq (.cond (.t 82)
  .skip
  (.exit 4))
 (.seq (.block 5 (.seq (.reg false [
    ⟨some 83, .iaddr (.int .i64), [.t 79, .t 81], none, []⟩,
    ⟨some 84, .load (.int .i64), [.t 83], none, []⟩,
    ⟨some 16, .mv, [.t 84], none, []⟩])
  (.seq (.reg true [
    ⟨some 85, .mv, [.t 0], none, []⟩,
    ⟨some 86, .mv, [.t 16], none, []⟩,
    ⟨some 87, .iaddr (.st (.cons (.int .i64) (.cons (.int .i64) (.cons (.sl (.int .i64)) (.sl (.int .i64)))))), [.t 85, .t 86], none, [0, 1]⟩,
    ⟨some 88, .load (.st (.cons (.int .i64) (.cons (.int .i64) (.cons (.sl (.int .i64)) (.sl (.int .i64)))))), [.t 87], none, [2, 0, 1]⟩,
    ⟨some 89, .mv, [.t 13], none, []⟩,
    ⟨some 90, .call 31, [.t 88, .t 89, .bool false], none, [3, 2, 0, 1, 4]⟩,
    ⟨some 91, .mv, [.t 0], none, []⟩,
    ⟨some 92, .mv, [.t 16], none, []⟩,
    ⟨some 93, .iaddr (.st (.cons (.int .i64) (.cons (.int .i64) (.cons (.sl (.int .i64)) (.sl (.int .i64)))))), [.t 91, .t 92], none, [6, 7]⟩,
    ⟨some 94, .load (.st (.cons (.int .i64) (.cons (.int .i64) (.cons (.sl (.int .i64)) (.sl (.int .i64)))))), [.t 93], none, [8, 6, 7]⟩,
    ⟨some 95, .mv, [.t 14], none, []⟩,
    ⟨some 96, .call 31, [.t 94, .t 95, .bool true], none, [9, 8, 6, 7, 10, 5, 3, 2, 0, 1, 4]⟩,
    ⟨some 13, .mv, [.t 90], none, [5, 3, 2, 0, 1, 4, 11, 9, 8, 6, 7, 10]⟩,
    ⟨some 14, .mv, [.t 96], none, [11, 9, 8, 6, 7, 10, 5, 3, 2, 0, 1, 4, 12]⟩])
  (.clean (.seq (.reg false [
    ⟨some 97, .mv, [.t 14], none, []⟩,
    ⟨some 98, .bin .gtr, [.t 97, .int .i64 1048576], none, []⟩])
  (.cond (.t 98)
   (.seq (.reg false [
     ⟨some 6, .mv, [.int .i64 0], none, []⟩,
     ⟨some 7, .mv, [.int .i64 0], none, []⟩,
     ⟨some 8, .mv, [.int .i64 3], none, []⟩])
   .ret)
   .skip))))))
 (.reg false [
   ⟨some 99, .bin .add, [.t 81, .int .i64 1], none, []⟩,
   ⟨some 81, .mv, [.t 99], none, []⟩]))))
def x14_2d : List Nat := [6, 7, 8, 13, 14, 16, 81]
def x14 : XF := ⟨102, [.tmp 6, .tmp 7, .tmp 8], [0, 1, 2, 6, 7, 8, 10, 11, 12, 13, 14, 16, 30, 31, 32, 40, 41, 42, 79, 80, 81],
 (.seq (.reg false [
   ⟨some 6, .mv, [.int .i64 0], none, []⟩,
   ⟨some 7, .mv, [.int .i64 0], none, []⟩,
   ⟨some 8, .mv, [.int .i64 0], none, []⟩])
 (.seq (.seq (.reg false [
   ⟨some 17, .mv, [.t 0], none, []⟩,
   ⟨some 18, .len false, [.t 17], none, []⟩,
   ⟨some 19, .bin .gtr, [.t 18, .int .i64 20000], none, []⟩,
   ⟨some 20, .mv, [.t 19], none, []⟩,
   ⟨some 21, .mv, [.t 1], some (3, 20, false), []⟩,
   ⟨some 22, .len false, [.t 21], some (3, 20, false), []⟩,
   ⟨some 23, .bin .gtr, [.t 22, .int .i64 2000], some (3, 20, false), []⟩,
   ⟨some 24, .pick, [.t 20, .bool true, .t 23], none, []⟩,
   ⟨some 25, .mv, [.t 24], none, []⟩,
   ⟨some 26, .mv, [.t 2], some (8, 25, false), []⟩,
   ⟨some 27, .call 36, [.t 26], some (8, 25, false), []⟩,
   ⟨some 28, .not, [.t 27], some (8, 25, false), []⟩,
   ⟨some 29, .pick, [.t 25, .bool true, .t 28], none, []⟩])
 (.cond (.t 29)
  (.seq (.reg false [
    ⟨some 6, .mv, [.int .i64 0], none, []⟩,
    ⟨some 7, .mv, [.int .i64 0], none, []⟩,
    ⟨some 8, .mv, [.int .i64 1], none, []⟩])
  .ret)
  .skip))
 (.clean (.seq (.seq (.reg false [
   ⟨some 30, .mv, [.t 0], none, []⟩,
   ⟨some 31, .len false, [.t 30], none, []⟩,
   ⟨some 32, .mv, [.int .i64 0], none, []⟩])
 (.block 0 (.loop x14_0)))
 (.clean (.seq (.seq (.reg false [
   ⟨some 40, .mv, [.t 1], none, []⟩,
   ⟨some 41, .len false, [.t 40], none, []⟩,
   ⟨some 42, .mv, [.int .i64 0], none, []⟩])
 (.block 2 (.loop x14_1)))
 (.clean (.seq (.reg false [
   ⟨some 77, .mv, [.t 2], none, []⟩,
   ⟨some 78, .mv, [.t 2], none, []⟩,
   ⟨some 13, .mv, [.t 77], none, []⟩,
   ⟨some 14, .mv, [.t 78], none, []⟩])
 (.seq (.seq (.reg false [
   ⟨some 79, .mv, [.t 1], none, []⟩,
   ⟨some 80, .len false, [.t 79], none, []⟩,
   ⟨some 81, .mv, [.int .i64 0], none, []⟩])
 (.block 4 (.loop x14_2)))
 (.clean (.seq (.reg false [
   ⟨some 100, .mv, [.t 13], none, []⟩,
   ⟨some 101, .mv, [.t 14], none, []⟩,
   ⟨some 6, .mv, [.t 100], none, []⟩,
   ⟨some 7, .mv, [.t 101], none, []⟩,
   ⟨some 8, .mv, [.int .i64 0], none, []⟩])
 .ret)))))))))))⟩
/- 0=arcs 1=way 2=start 6= 7= 8= 10=a 11=i 12=k 13=low 14=high 16=k 30= 31= 32= 40= 41= 42= 79= 80= 81= -/
/-! tonneau/tonneauref12.Span -/
def x15_0 : XC := (.seq (.seq (.reg false [
   ⟨some 27, .mv, [.t 9], none, []⟩,
   ⟨some 28, .mv, [.t 0], none, []⟩,
   ⟨some 29, .len false, [.t 28], none, []⟩,
   ⟨some 30, .bin .lss, [.t 27, .t 29], none, []⟩])
 (.cond (.t 30)
  .skip
  (.exit 0)))
 (.seq (.block 1 (.seq (.reg false [
    ⟨some 33, .mv, [.t 0], none, []⟩,
    ⟨some 34, .mv, [.t 9], none, []⟩,
    ⟨some 35, .iaddr (.st (.cons (.int .i64) (.cons (.int .i64) (.cons (.sl (.int .i64)) (.sl (.int .i64)))))), [.t 33, .t 34], none, []⟩,
    ⟨some 36, .load (.st (.cons (.int .i64) (.cons (.int .i64) (.cons (.sl (.int .i64)) (.sl (.int .i64)))))), [.t 35], none, []⟩,
    ⟨some 37, .call 40, [.t 36], none, []⟩,
    ⟨some 38, .not, [.t 37], none, []⟩])
  (.cond (.t 38)
   (.seq (.reg false [
     ⟨some 6, .mv, [.int .i64 0], none, []⟩,
     ⟨some 7, .mv, [.int .i64 0], none, []⟩,
     ⟨some 8, .mv, [.int .i64 1], none, []⟩])
   .ret)
   .skip)))
 (.clean (.reg false [
   ⟨some 31, .mv, [.t 9], none, []⟩,
   ⟨some 32, .bin .add, [.t 31, .int .i64 1], none, []⟩,
   ⟨some 9, .mv, [.t 32], none, []⟩]))))
def x15_0d : List Nat := [6, 7, 8, 9]
def x15_1 : XC := (.seq (.seq (.reg false [
   ⟨some 41, .mv, [.t 12], none, []⟩,
   ⟨some 42, .mv, [.t 1], none, []⟩,
   ⟨some 43, .len false, [.t 42], none, []⟩,
   ⟨some 44, .bin .lss, [.t 41, .t 43], none, []⟩])
 (.cond (.t 44)
  .skip
  (.exit 2)))
 (.seq (.block 3 (.seq (.reg false [
    ⟨some 47, .mv, [.t 0], none, []⟩,
    ⟨some 48, .mv, [.t 1], none, []⟩,
    ⟨some 49, .mv, [.t 12], none, []⟩,
    ⟨some 50, .iaddr (.int .i64), [.t 48, .t 49], none, []⟩,
    ⟨some 51, .load (.int .i64), [.t 50], none, []⟩,
    ⟨some 52, .iaddr (.st (.cons (.int .i64) (.cons (.int .i64) (.cons (.sl (.int .i64)) (.sl (.int .i64)))))), [.t 47, .t 51], none, []⟩,
    ⟨some 53, .load (.st (.cons (.int .i64) (.cons (.int .i64) (.cons (.sl (.int .i64)) (.sl (.int .i64)))))), [.t 52], none, []⟩,
    ⟨some 54, .mv, [.t 10], none, []⟩,
    ⟨some 55, .call 41, [.t 53, .t 54, .bool false], none, []⟩,
    ⟨some 10, .mv, [.t 55], none, []⟩])
  (.clean (.seq (.reg false [
    ⟨some 56, .mv, [.t 0], none, []⟩,
    ⟨some 57, .mv, [.t 1], none, []⟩,
    ⟨some 58, .mv, [.t 12], none, []⟩,
    ⟨some 59, .iaddr (.int .i64), [.t 57, .t 58], none, []⟩,
    ⟨some 60, .load (.int .i64), [.t 59], none, []⟩,
    ⟨some 61, .iaddr (.st (.cons (.int .i64) (.cons (.int .i64) (.cons (.sl (.int .i64)) (.sl (.int .i64)))))), [.t 56, .t 60], none, []⟩,
    ⟨some 62, .load (.st (.cons (.int .i64) (.cons (.int .i64) (.cons (.sl (.int .i64)) (.sl (.int .i64)))))), [.t 61], none, []⟩,
    ⟨some 63, .mv, [.t 11], none, []⟩,
    ⟨some 64, .call 41, [.t 62, .t 63, .bool true], none, []⟩,
    ⟨some 11, .mv, [.t 64], none, []⟩])
  (.clean (.seq (.reg false [
    ⟨some 65, .mv, [.t 11], none, []⟩,
    ⟨some 66, .call 38, [.t 65], none, []⟩,
    ⟨some 67, .not, [.t 66], none, []⟩])
  (.cond (.t 67)
   (.seq (.reg false [
     ⟨some 6, .mv, [.int .i64 0], none, []⟩,
     ⟨some 7, .mv, [.int .i64 0], none, []⟩,
     ⟨some 8, .mv, [.int .i64 3], none, []⟩])
   .ret)
   .skip)))))))
 (.clean (.reg false [
   ⟨some 45, .mv, [.t 12], none, []⟩,
   ⟨some 46, .bin .add, [.t 45, .int .i64 1], none, []⟩,
   ⟨some 12, .mv, [.t 46], none, []⟩]))))
def x15_1d : List Nat := [6, 7, 8, 10, 11, 12]
def x15 : XF := ⟨70, [.tmp 6, .tmp 7, .tmp 8], [0, 1, 2, 6, 7, 8, 9, 10, 11, 12],
 (.seq (.reg false [
   ⟨some 6, .mv, [.int .i64 0], none, []⟩,
   ⟨some 7, .mv, [.int .i64 0], none, []⟩,
   ⟨some 8, .mv, [.int .i64 0], none, []⟩])
 (.seq (.seq (.reg false [
   ⟨some 13, .mv, [.t 0], none, []⟩,
   ⟨some 14, .len false, [.t 13], none, []⟩,
   ⟨some 15, .bin .gtr, [.t 14, .int .i64 20000], none, []⟩,
   ⟨some 16, .mv, [.t 15], none, []⟩,
   ⟨some 17, .mv, [.t 2], some (3, 16, false), []⟩,
   ⟨some 18, .call 38, [.t 17], some (3, 16, false), []⟩,
   ⟨some 19, .not, [.t 18], some (3, 16, false), []⟩,
   ⟨some 20, .pick, [.t 16, .bool true, .t 19], none, []⟩,
   ⟨some 21, .mv, [.t 20], none, []⟩,
   ⟨some 22, .mv, [.t 0], some (8, 21, false), []⟩,
   ⟨some 23, .mv, [.t 1], some (8, 21, false), []⟩,
   ⟨some 24, .call 39, [.t 22, .t 23], some (8, 21, false), []⟩,
   ⟨some 25, .not, [.t 24], some (8, 21, false), []⟩,
   ⟨some 26, .pick, [.t 21, .bool true, .t 25], none, []⟩])
 (.cond (.t 26)
  (.seq (.reg false [
    ⟨some 6, .mv, [.int .i64 0], none, []⟩,
    ⟨some 7, .mv, [.int .i64 0], none, []⟩,
    ⟨some 8, .mv, [.int .i64 1], none, []⟩])
  .ret)
  .skip))
 (.clean (.seq (.seq (.reg false [
   ⟨some 9, .mv, [.int .i64 0], none, []⟩])
 (.block 0 (.loop x15_0)))
 (.clean (.seq (.reg false [
   ⟨some 39, .mv, [.t 2], none, []⟩,
   ⟨some 10, .mv, [.t 39], none, []⟩])
 (.seq (.reg false [
   ⟨some 40, .mv, [.t 2], none, []⟩,
   ⟨some 11, .mv, [.t 40], none, []⟩])
 (.seq (.seq (.reg false [
   ⟨some 12, .mv, [.int .i64 0], none, []⟩])
 (.block 2 (.loop x15_1)))
 (.clean (.seq (.reg false [
   ⟨some 68, .mv, [.t 10], none, []⟩,
   ⟨some 69, .mv, [.t 11], none, []⟩,
   ⟨some 6, .mv, [.t 68], none, []⟩,
   ⟨some 7, .mv, [.t 69], none, []⟩,
   ⟨some 8, .mv, [.int .i64 0], none, []⟩])
 .ret))))))))))⟩
/- 0=arcs 1=way 2=start 6= 7= 8= 9=i 10=low 11=high 12=i -/
/-! tonneau/label.Check -/
def x16_0 : XC := (.seq (.reg false [
   ⟨some 53, .bin .lss, [.t 52, .t 51], none, []⟩])
 (.seq (.cond (.t 53)
  .skip
  (.exit 1))
 (.seq (.block 2 (.seq (.reg false [
    ⟨some 54, .iaddr (.st (.cons (.int .i64) (.cons (.int .i64) (.cons (.sl (.int .i64)) (.sl (.int .i64)))))), [.t 50, .t 52], none, []⟩,
    ⟨some 55, .load (.st (.cons (.int .i64) (.cons (.int .i64) (.cons (.sl (.int .i64)) (.sl (.int .i64)))))), [.t 54], none, []⟩,
    ⟨some 14, .alloc 45 (.st (.cons (.int .i64) (.cons (.int .i64) (.cons (.sl (.int .i64)) (.sl (.int .i64)))))), [], none, []⟩,
    ⟨none, .store (.st (.cons (.int .i64) (.cons (.int .i64) (.cons (.sl (.int .i64)) (.sl (.int .i64)))))), [.t 14, .t 55], none, []⟩])
  (.seq (.reg true [
    ⟨some 56, .mv, [.t 5], none, []⟩,
    ⟨some 57, .faddr 0 (.int .i64), [.t 14], none, []⟩,
    ⟨some 58, .load (.int .i64), [.t 57], none, [1]⟩,
    ⟨some 59, .iaddr (.st (.cons (.int .i64) (.int .i64))), [.t 56, .t 58], none, [0, 2, 1]⟩,
    ⟨some 60, .faddr 0 (.int .i64), [.t 59], none, [3, 0, 2, 1]⟩,
    ⟨some 61, .load (.int .i64), [.t 60], none, [4, 3, 0, 2, 1]⟩,
    ⟨some 62, .mv, [.t 5], none, []⟩,
    ⟨some 63, .faddr 1 (.int .i64), [.t 14], none, []⟩,
    ⟨some 64, .load (.int .i64), [.t 63], none, [7]⟩,
    ⟨some 65, .iaddr (.st (.cons (.int .i64) (.int .i64))), [.t 62, .t 64], none, [6, 8, 7]⟩,
    ⟨some 66, .faddr 0 (.int .i64), [.t 65], none, [9, 6, 8, 7]⟩,
    ⟨some 67, .load (.int .i64), [.t 66], none, [10, 9, 6, 8, 7]⟩,
    ⟨some 15, .mv, [.t 61], none, [5, 4, 3, 0, 2, 1]⟩,
    ⟨some 16, .mv, [.t 67], none, [11, 10, 9, 6, 8, 7, 12, 5, 4, 3, 0, 2, 1]⟩])
  (.clean (.seq (.seq (.reg false [
    ⟨some 68, .mv, [.t 15], none, []⟩,
    ⟨some 69, .bin .eql, [.t 68, .int .i64 (-1)], none, []⟩])
  (.cond (.t 69)
   (.exit 2)
   .skip))
  (.seq (.reg false [
    ⟨some 70, .load (.st (.cons (.int .i64) (.cons (.int .i64) (.cons (.sl (.int .i64)) (.sl (.int .i64)))))), [.t 14], none, []⟩,
    ⟨some 71, .mv, [.t 15], none, []⟩,
    ⟨some 72, .mv, [.t 4], none, []⟩,
    ⟨some 73, .call 31, [.t 70, .t 71, .t 72], none, []⟩,
    ⟨some 17, .mv, [.t 73], none, []⟩])
  (.seq (.reg false [
    ⟨some 74, .mv, [.t 17], none, []⟩,
    ⟨some 75, .call 36, [.t 74], none, []⟩,
    ⟨some 76, .mv, [.t 75], none, []⟩,
    ⟨some 77, .mv, [.t 16], some (2, 76, true), []⟩,
    ⟨some 78, .bin .eql, [.t 77, .int .i64 (-1)], some (2, 76, true), []⟩,
    ⟨some 79, .mv, [.t 78], some (2, 76, true), []⟩,
    ⟨some 80, .mv, [.t 16], some (5, 79, false), []⟩,
    ⟨some 81, .mv, [.t 17], some (5, 79, false), []⟩,
    ⟨some 82, .bin .gtr, [.t 80, .t 81], some (5, 79, false), []⟩,
    ⟨some 83, .pick, [.t 79, .bool true, .t 82], some (2, 76, true), []⟩,
    ⟨some 84, .pick, [.t 76, .t 83, .bool false], none, []⟩])
  (.cond (.t 84)
   (.seq (.reg false [
     ⟨some 12, .mv, [.int .i64 23], none, []⟩])
   .ret)
   .skip))))))))
 (.reg false [
   ⟨some 85, .bin .add, [.t 52, .int .i64 1], none, []⟩,
   ⟨some 52, .mv, [.t 85], none, []⟩]))))
def x16_0d : List Nat := [12, 14, 15, 16, 17, 52]
def x16 : XF := ⟨86, [.tmp 12], [0, 1, 2, 3, 4, 5, 12, 14, 15, 16, 17, 50, 51, 52],
 (.seq (.reg false [
   ⟨some 12, .mv, [.int .i64 0], none, []⟩])
 (.seq (.block 0 (.seq (.reg false [
    ⟨some 19, .mv, [.t 0], none, []⟩,
    ⟨some 20, .mv, [.t 1], none, []⟩,
    ⟨some 21, .call 25, [.t 19, .t 20], none, []⟩,
    ⟨some 22, .not, [.t 21], none, []⟩,
    ⟨some 23, .mv, [.t 22], none, []⟩,
    ⟨some 24, .mv, [.t 2], some (4, 23, false), []⟩,
    ⟨some 25, .bin .lss, [.t 24, .int .i64 0], some (4, 23, false), []⟩,
    ⟨some 26, .pick, [.t 23, .bool true, .t 25], none, []⟩,
    ⟨some 27, .mv, [.t 26], none, []⟩,
    ⟨some 28, .mv, [.t 2], some (8, 27, false), []⟩,
    ⟨some 29, .mv, [.t 0], some (8, 27, false), []⟩,
    ⟨some 30, .bin .geq, [.t 28, .t 29], some (8, 27, false), []⟩,
    ⟨some 31, .pick, [.t 27, .bool true, .t 30], none, []⟩,
    ⟨some 32, .mv, [.t 31], none, []⟩,
    ⟨some 33, .mv, [.t 3], some (13, 32, false), []⟩,
    ⟨some 34, .call 36, [.t 33], some (13, 32, false), []⟩,
    ⟨some 35, .not, [.t 34], some (13, 32, false), []⟩,
    ⟨some 36, .pick, [.t 32, .bool true, .t 35], none, []⟩,
    ⟨some 18, .mv, [.t 36], none, []⟩])
  (.cond (.t 18)
   (.seq (.reg false [
     ⟨some 12, .mv, [.int .i64 1], none, []⟩])
   .ret)
   (.seq (.reg false [
     ⟨some 38, .mv, [.t 5], none, []⟩,
     ⟨some 39, .len false, [.t 38], none, []⟩,
     ⟨some 40, .mv, [.t 0], none, []⟩,
     ⟨some 41, .bin .neq, [.t 39, .t 40], none, []⟩,
     ⟨some 37, .mv, [.t 41], none, []⟩])
   (.cond (.t 37)
    (.seq (.reg false [
      ⟨some 12, .mv, [.int .i64 2], none, []⟩])
    .ret)
    (.seq (.reg false [
      ⟨some 43, .mv, [.t 1], none, []⟩,
      ⟨some 44, .mv, [.t 2], none, []⟩,
      ⟨some 45, .mv, [.t 3], none, []⟩,
      ⟨some 46, .mv, [.t 4], none, []⟩,
      ⟨some 47, .mv, [.t 5], none, []⟩,
      ⟨some 48, .call 42, [.t 43, .t 44, .t 45, .t 46, .t 47], none, []⟩,
      ⟨some 49, .not, [.t 48], none, []⟩,
      ⟨some 42, .mv, [.t 49], none, []⟩])
    (.cond (.t 42)
     (.seq (.reg false [
       ⟨some 12, .mv, [.int .i64 23], none, []⟩])
     .ret)
     .skip)))))))
 (.clean (.seq (.seq (.reg false [
   ⟨some 50, .mv, [.t 1], none, []⟩,
   ⟨some 51, .len false, [.t 50], none, []⟩,
   ⟨some 52, .mv, [.int .i64 0], none, []⟩])
 (.block 1 (.loop x16_0)))
 (.seq (.reg false [
   ⟨some 12, .mv, [.int .i64 0], none, []⟩])
 .ret)))))⟩
/- 0=n 1=arcs 2=from 3=start 4=high 5=labels 12= 14=a 15=t 16=to 17=at 50= 51= 52= -/
/-! tonneau/tonneauref12.Check -/
def x17 : XF := ⟨49, [.tmp 12], [0, 1, 2, 3, 4, 5, 12],
 (.seq (.reg false [
   ⟨some 12, .mv, [.int .i64 0], none, []⟩])
 (.seq (.seq (.reg false [
   ⟨some 13, .mv, [.t 0], none, []⟩,
   ⟨some 14, .mv, [.t 1], none, []⟩,
   ⟨some 15, .call 26, [.t 13, .t 14], none, []⟩,
   ⟨some 16, .not, [.t 15], none, []⟩,
   ⟨some 17, .mv, [.t 16], none, []⟩,
   ⟨some 18, .mv, [.t 2], some (4, 17, false), []⟩,
   ⟨some 19, .bin .lss, [.t 18, .int .i64 0], some (4, 17, false), []⟩,
   ⟨some 20, .pick, [.t 17, .bool true, .t 19], none, []⟩,
   ⟨some 21, .mv, [.t 20], none, []⟩,
   ⟨some 22, .mv, [.t 2], some (8, 21, false), []⟩,
   ⟨some 23, .mv, [.t 0], some (8, 21, false), []⟩,
   ⟨some 24, .bin .geq, [.t 22, .t 23], some (8, 21, false), []⟩,
   ⟨some 25, .pick, [.t 21, .bool true, .t 24], none, []⟩,
   ⟨some 26, .mv, [.t 25], none, []⟩,
   ⟨some 27, .mv, [.t 3], some (13, 26, false), []⟩,
   ⟨some 28, .call 38, [.t 27], some (13, 26, false), []⟩,
   ⟨some 29, .not, [.t 28], some (13, 26, false), []⟩,
   ⟨some 30, .pick, [.t 26, .bool true, .t 29], none, []⟩])
 (.cond (.t 30)
  (.seq (.reg false [
    ⟨some 12, .mv, [.int .i64 1], none, []⟩])
  .ret)
  .skip))
 (.clean (.seq (.seq (.reg false [
   ⟨some 31, .mv, [.t 5], none, []⟩,
   ⟨some 32, .len false, [.t 31], none, []⟩,
   ⟨some 33, .mv, [.t 0], none, []⟩,
   ⟨some 34, .bin .neq, [.t 32, .t 33], none, []⟩])
 (.cond (.t 34)
  (.seq (.reg false [
    ⟨some 12, .mv, [.int .i64 2], none, []⟩])
  .ret)
  .skip))
 (.clean (.seq (.seq (.reg false [
   ⟨some 35, .mv, [.t 1], none, []⟩,
   ⟨some 36, .mv, [.t 2], none, []⟩,
   ⟨some 37, .mv, [.t 3], none, []⟩,
   ⟨some 38, .mv, [.t 4], none, []⟩,
   ⟨some 39, .mv, [.t 5], none, []⟩,
   ⟨some 40, .call 43, [.t 35, .t 36, .t 37, .t 38, .t 39], none, []⟩,
   ⟨some 41, .not, [.t 40], none, []⟩,
   ⟨some 42, .mv, [.t 41], none, []⟩,
   ⟨some 43, .mv, [.t 1], some (7, 42, false), []⟩,
   ⟨some 44, .mv, [.t 4], some (7, 42, false), []⟩,
   ⟨some 45, .mv, [.t 5], some (7, 42, false), []⟩,
   ⟨some 46, .call 44, [.t 43, .t 44, .t 45], some (7, 42, false), []⟩,
   ⟨some 47, .not, [.t 46], some (7, 42, false), []⟩,
   ⟨some 48, .pick, [.t 42, .bool true, .t 47], none, []⟩])
 (.cond (.t 48)
  (.seq (.reg false [
    ⟨some 12, .mv, [.int .i64 23], none, []⟩])
  .ret)
  .skip))
 (.seq (.reg false [
   ⟨some 12, .mv, [.int .i64 0], none, []⟩])
 .ret)))))))⟩
/- 0=n 1=arcs 2=from 3=start 4=high 5=labels 12= -/
/-! tonneau/tonneauref12.Enter -/
def x33_0 : XC := (.seq (.seq (.reg false [
   ⟨some 9, .mv, [.t 6], none, []⟩,
   ⟨some 10, .mv, [.t 1], none, []⟩,
   ⟨some 11, .bin .add, [.t 10, .int .i64 1440], none, []⟩,
   ⟨some 12, .bin .leq, [.t 9, .t 11], none, []⟩])
 (.cond (.t 12)
  .skip
  (.exit 0)))
 (.seq (.block 1 (.seq (.reg true [
    ⟨some 15, .mv, [.t 6], none, []⟩,
    ⟨some 16, .faddr 3 (.sl (.int .i64)), [.t 2], none, []⟩,
    ⟨some 17, .load (.sl (.int .i64)), [.t 16], none, [1]⟩,
    ⟨some 18, .mv, [.t 6], none, []⟩,
    ⟨some 19, .bin .quo, [.t 18, .int .i64 60], none, [3]⟩,
    ⟨some 20, .bin .rem, [.t 19, .int .i64 24], none, [4, 3]⟩,
    ⟨some 21, .iaddr (.int .i64), [.t 17, .t 20], none, [2, 1, 5, 4, 3]⟩,
    ⟨some 22, .load (.int .i64), [.t 21], none, [6, 2, 1, 5, 4, 3]⟩,
    ⟨some 23, .bin .add, [.t 15, .t 22], none, [0, 7, 6, 2, 1, 5, 4, 3]⟩,
    ⟨some 24, .mv, [.t 5], none, []⟩,
    ⟨some 25, .faddr 3 (.sl (.int .i64)), [.t 2], none, []⟩,
    ⟨some 26, .load (.sl (.int .i64)), [.t 25], none, [10]⟩,
    ⟨some 27, .mv, [.t 5], none, []⟩,
    ⟨some 28, .bin .quo, [.t 27, .int .i64 60], none, [12]⟩,
    ⟨some 29, .bin .rem, [.t 28, .int .i64 24], none, [13, 12]⟩,
    ⟨some 30, .iaddr (.int .i64), [.t 26, .t 29], none, [11, 10, 14, 13, 12]⟩,
    ⟨some 31, .load (.int .i64), [.t 30], none, [15, 11, 10, 14, 13, 12]⟩,
    ⟨some 32, .bin .add, [.t 24, .t 31], none, [9, 16, 15, 11, 10, 14, 13, 12]⟩,
    ⟨some 33, .bin .lss, [.t 23, .t 32], none, [8, 0, 7, 6, 2, 1, 5, 4, 3, 17, 9, 16, 15, 11, 10, 14, 13, 12]⟩])
  (.cond (.t 33)
   (.reg false [
     ⟨some 34, .mv, [.t 6], none, []⟩,
     ⟨some 5, .mv, [.t 34], none, []⟩])
   .skip)))
 (.clean (.reg false [
   ⟨some 13, .mv, [.t 6], none, []⟩,
   ⟨some 14, .bin .add, [.t 13, .int .i64 1], none, []⟩,
   ⟨some 6, .mv, [.t 14], none, []⟩]))))
def x33_0d : List Nat := [5, 6]
def x33 : XF := ⟨36, [.tmp 4], [0, 1, 2, 4, 5, 6],
 (.seq (.reg false [
   ⟨some 2, .box 45, [.t 0], none, []⟩,
   ⟨some 4, .mv, [.int .i64 0], none, []⟩])
 (.seq (.reg false [
   ⟨some 7, .mv, [.t 1], none, []⟩,
   ⟨some 5, .mv, [.t 7], none, []⟩])
 (.seq (.seq (.reg false [
   ⟨some 8, .mv, [.t 1], none, []⟩,
   ⟨some 6, .mv, [.t 8], none, []⟩])
 (.block 0 (.loop x33_0)))
 (.seq (.reg false [
   ⟨some 35, .mv, [.t 5], none, []⟩,
   ⟨some 4, .mv, [.t 35], none, []⟩])
 .ret))))⟩
/- 0=a 1=now 2=a 4= 5=best 6=t -/
/-! tonneau/tonneaulaw12.two -/
def x34 : XF := ⟨4, [.tmp 0], [0],
 (.seq (.reg false [
   ⟨some 0, .nilrow 45 (.st (.cons (.int .i64) (.cons (.int .i64) (.cons (.sl (.int .i64)) (.sl (.int .i64)))))), [], none, []⟩])
 (.seq (.reg false [
   ⟨some 1, .call 58, [.int .i64 0, .int .i64 1, .int .i64 10, .int .i64 20], none, []⟩,
   ⟨some 2, .call 58, [.int .i64 0, .int .i64 1, .int .i64 15, .int .i64 15], none, []⟩,
   ⟨some 3, .bslice 45 (.st (.cons (.int .i64) (.cons (.int .i64) (.cons (.sl (.int .i64)) (.sl (.int .i64)))))) 2 [0, 1], [.t 1, .t 2], none, []⟩,
   ⟨some 0, .mv, [.t 3], none, []⟩])
 .ret))⟩
/- 0= -/
/-! tonneau/tonneaulaw12.check -/
def x35 : XF := ⟨12, [.tmp 4], [0, 1, 4],
 (.seq (.reg false [
   ⟨some 4, .mv, [.int .i64 0], none, []⟩])
 (.seq (.reg false [
   ⟨some 5, .call 34, [], none, []⟩,
   ⟨some 6, .build (.st (.cons (.int .i64) (.int .i64))) [(0, (.int .i64)), (1, (.int .i64))], [.int .i64 100, .int .i64 (-1)], none, []⟩,
   ⟨some 7, .mv, [.t 0], none, []⟩,
   ⟨some 8, .mv, [.t 1], none, []⟩,
   ⟨some 9, .build (.st (.cons (.int .i64) (.int .i64))) [(0, (.int .i64)), (1, (.int .i64))], [.t 7, .t 8], none, []⟩,
   ⟨some 10, .bslice 43 (.st (.cons (.int .i64) (.int .i64))) 2 [0, 1], [.t 6, .t 9], none, []⟩,
   ⟨some 11, .call 16, [.int .i64 2, .t 5, .int .i64 0, .int .i64 100, .bool true, .t 10], none, []⟩,
   ⟨some 4, .mv, [.t 11], none, []⟩])
 .ret))⟩
/- 0=time 1=by 4= -/
/-! tonneau/label.time -/
def x36 : XF := ⟨9, [.tmp 2], [0, 2],
 (.seq (.reg false [
   ⟨some 2, .mv, [.bool false], none, []⟩])
 (.seq (.reg false [
   ⟨some 3, .mv, [.t 0], none, []⟩,
   ⟨some 4, .bin .geq, [.t 3, .int .i64 0], none, []⟩,
   ⟨some 5, .mv, [.t 4], none, []⟩,
   ⟨some 6, .mv, [.t 0], some (2, 5, true), []⟩,
   ⟨some 7, .bin .leq, [.t 6, .int .i64 1048576], some (2, 5, true), []⟩,
   ⟨some 8, .pick, [.t 5, .t 7, .bool false], none, []⟩,
   ⟨some 2, .mv, [.t 8], none, []⟩])
 .ret))⟩
/- 0=n 2= -/
/-! tonneau/tonneauref12.time -/
def x38 : XF := ⟨9, [.tmp 2], [0, 2],
 (.seq (.reg false [
   ⟨some 2, .mv, [.bool false], none, []⟩])
 (.seq (.reg false [
   ⟨some 3, .mv, [.t 0], none, []⟩,
   ⟨some 4, .bin .geq, [.t 3, .int .i64 0], none, []⟩,
   ⟨some 5, .mv, [.t 4], none, []⟩,
   ⟨some 6, .mv, [.t 0], some (2, 5, true), []⟩,
   ⟨some 7, .bin .leq, [.t 6, .int .i64 1048576], some (2, 5, true), []⟩,
   ⟨some 8, .pick, [.t 5, .t 7, .bool false], none, []⟩,
   ⟨some 2, .mv, [.t 8], none, []⟩])
 .ret))⟩
/- 0=n 2= -/
/-! tonneau/tonneauref12.Connected -/
def x39_0 : XC := (.seq (.seq (.reg false [
   ⟨some 6, .mv, [.t 5], none, []⟩,
   ⟨some 7, .mv, [.t 1], none, []⟩,
   ⟨some 8, .len false, [.t 7], none, []⟩,
   ⟨some 9, .bin .lss, [.t 6, .t 8], none, []⟩])
 (.cond (.t 9)
  .skip
  (.exit 0)))
 (.seq (.block 1 (.seq (.reg true [
    ⟨some 12, .mv, [.t 1], none, []⟩,
    ⟨some 13, .mv, [.t 5], none, []⟩,
    ⟨some 14, .iaddr (.int .i64), [.t 12, .t 13], none, [0, 1]⟩,
    ⟨some 15, .load (.int .i64), [.t 14], none, [2, 0, 1]⟩,
    ⟨some 16, .bin .lss, [.t 15, .int .i64 0], none, [3, 2, 0, 1]⟩,
    ⟨some 17, .mv, [.t 16], none, [4, 3, 2, 0, 1]⟩,
    ⟨some 18, .mv, [.t 1], some (5, 17, false), [5, 4, 3, 2, 0, 1]⟩,
    ⟨some 19, .mv, [.t 5], some (5, 17, false), [5, 4, 3, 2, 0, 1]⟩,
    ⟨some 20, .iaddr (.int .i64), [.t 18, .t 19], some (5, 17, false), [6, 5, 4, 3, 2, 0, 1, 7]⟩,
    ⟨some 21, .load (.int .i64), [.t 20], some (5, 17, false), [8, 6, 5, 4, 3, 2, 0, 1, 7]⟩,
    ⟨some 22, .mv, [.t 0], some (5, 17, false), [5, 4, 3, 2, 0, 1]⟩,
    ⟨some 23, .len false, [.t 22], some (5, 17, false), [10, 5, 4, 3, 2, 0, 1]⟩,
    ⟨some 24, .bin .geq, [.t 21, .t 23], some (5, 17, false), [9, 8, 6, 5, 4, 3, 2, 0, 1, 7, 11, 10]⟩,
    ⟨some 25, .pick, [.t 17, .bool true, .t 24], none, [5, 4, 3, 2, 0, 1, 12, 9, 8, 6, 7, 11, 10]⟩,
    ⟨some 26, .mv, [.t 25], none, [13, 5, 4, 3, 2, 0, 1, 12, 9, 8, 6, 7, 11, 10]⟩,
    ⟨some 27, .mv, [.t 5], some (14, 26, false), [14, 13, 5, 4, 3, 2, 0, 1, 12, 9, 8, 6, 7, 11, 10]⟩,
    ⟨some 28, .bin .gtr, [.t 27, .int .i64 0], some (14, 26, false), [15, 14, 13, 5, 4, 3, 2, 0, 1, 12, 9, 8, 6, 7, 11, 10]⟩,
    ⟨some 29, .mv, [.t 28], some (14, 26, false), [16, 15, 14, 13, 5, 4, 3, 2, 0, 1, 12, 9, 8, 6, 7, 11, 10]⟩,
    ⟨some 30, .mv, [.t 0], some (17, 29, true), [17, 16, 15, 14, 13, 5, 4, 3, 2, 0, 1, 12, 9, 8, 6, 7, 11, 10]⟩,
    ⟨some 31, .mv, [.t 1], some (17, 29, true), [17, 16, 15, 14, 13, 5, 4, 3, 2, 0, 1, 12, 9, 8, 6, 7, 11, 10]⟩,
    ⟨some 32, .mv, [.t 5], some (17, 29, true), [17, 16, 15, 14, 13, 5, 4, 3, 2, 0, 1, 12, 9, 8, 6, 7, 11, 10]⟩,
    ⟨some 33, .bin .sub, [.t 32, .int .i64 1], some (17, 29, true), [20, 17, 16, 15, 14, 13, 5, 4, 3, 2, 0, 1, 12, 9, 8, 6, 7, 11, 10]⟩,
    ⟨some 34, .max, [.t 33, .int .i64 0], some (17, 29, true), [21, 20, 17, 16, 15, 14, 13, 5, 4, 3, 2, 0, 1, 12, 9, 8, 6, 7, 11, 10]⟩,
    ⟨some 35, .iaddr (.int .i64), [.t 31, .t 34], some (17, 29, true), [19, 17, 16, 15, 14, 13, 5, 4, 3, 2, 0, 1, 12, 9, 8, 6, 7, 11, 10, 22, 21, 20]⟩,
    ⟨some 36, .load (.int .i64), [.t 35], some (17, 29, true), [23, 19, 17, 16, 15, 14, 13, 5, 4, 3, 2, 0, 1, 12, 9, 8, 6, 7, 11, 10, 22, 21, 20]⟩,
    ⟨some 37, .iaddr (.st (.cons (.int .i64) (.cons (.int .i64) (.cons (.sl (.int .i64)) (.sl (.int .i64)))))), [.t 30, .t 36], some (17, 29, true), [18, 17, 16, 15, 14, 13, 5, 4, 3, 2, 0, 1, 12, 9, 8, 6, 7, 11, 10, 24, 23, 19, 22, 21, 20]⟩,
    ⟨some 38, .faddr 1 (.int .i64), [.t 37], some (17, 29, true), [25, 18, 17, 16, 15, 14, 13, 5, 4, 3, 2, 0, 1, 12, 9, 8, 6, 7, 11, 10, 24, 23, 19, 22, 21, 20]⟩,
    ⟨some 39, .load (.int .i64), [.t 38], some (17, 29, true), [26, 25, 18, 17, 16, 15, 14, 13, 5, 4, 3, 2, 0, 1, 12, 9, 8, 6, 7, 11, 10, 24, 23, 19, 22, 21, 20]⟩,
    ⟨some 40, .mv, [.t 0], some (17, 29, true), [17, 16, 15, 14, 13, 5, 4, 3, 2, 0, 1, 12, 9, 8, 6, 7, 11, 10]⟩,
    ⟨some 41, .mv, [.t 1], some (17, 29, true), [17, 16, 15, 14, 13, 5, 4, 3, 2, 0, 1, 12, 9, 8, 6, 7, 11, 10]⟩,
    ⟨some 42, .mv, [.t 5], some (17, 29, true), [17, 16, 15, 14, 13, 5, 4, 3, 2, 0, 1, 12, 9, 8, 6, 7, 11, 10]⟩,
    ⟨some 43, .iaddr (.int .i64), [.t 41, .t 42], some (17, 29, true), [29, 17, 16, 15, 14, 13, 5, 4, 3, 2, 0, 1, 12, 9, 8, 6, 7, 11, 10, 30]⟩,
    ⟨some 44, .load (.int .i64), [.t 43], some (17, 29, true), [31, 29, 17, 16, 15, 14, 13, 5, 4, 3, 2, 0, 1, 12, 9, 8, 6, 7, 11, 10, 30]⟩,
    ⟨some 45, .iaddr (.st (.cons (.int .i64) (.cons (.int .i64) (.cons (.sl (.int .i64)) (.sl (.int .i64)))))), [.t 40, .t 44], some (17, 29, true), [28, 17, 16, 15, 14, 13, 5, 4, 3, 2, 0, 1, 12, 9, 8, 6, 7, 11, 10, 32, 31, 29, 30]⟩,
    ⟨some 46, .faddr 0 (.int .i64), [.t 45], some (17, 29, true), [33, 28, 17, 16, 15, 14, 13, 5, 4, 3, 2, 0, 1, 12, 9, 8, 6, 7, 11, 10, 32, 31, 29, 30]⟩,
    ⟨some 47, .load (.int .i64), [.t 46], some (17, 29, true), [34, 33, 28, 17, 16, 15, 14, 13, 5, 4, 3, 2, 0, 1, 12, 9, 8, 6, 7, 11, 10, 32, 31, 29, 30]⟩,
    ⟨some 48, .bin .neq, [.t 39, .t 47], some (17, 29, true), [27, 26, 25, 18, 17, 16, 15, 14, 13, 5, 4, 3, 2, 0, 1, 12, 9, 8, 6, 7, 11, 10, 24, 23, 19, 22, 21, 20, 35, 34, 33, 28, 32, 31, 29, 30]⟩,
    ⟨some 49, .pick, [.t 29, .t 48, .bool false], some (14, 26, false), [17, 16, 15, 14, 13, 5, 4, 3, 2, 0, 1, 12, 9, 8, 6, 7, 11, 10, 36, 27, 26, 25, 18, 24, 23, 19, 22, 21, 20, 35, 34, 33, 28, 32, 31, 29, 30]⟩,
    ⟨some 50, .pick, [.t 26, .bool true, .t 49], none, [14, 13, 5, 4, 3, 2, 0, 1, 12, 9, 8, 6, 7, 11, 10, 37, 17, 16, 15, 36, 27, 26, 25, 18, 24, 23, 19, 22, 21, 20, 35, 34, 33, 28, 32, 31, 29, 30]⟩])
  (.cond (.t 50)
   (.seq (.reg false [
     ⟨some 4, .mv, [.bool false], none, []⟩])
   .ret)
   .skip)))
 (.clean (.reg false [
   ⟨some 10, .mv, [.t 5], none, []⟩,
   ⟨some 11, .bin .add, [.t 10, .int .i64 1], none, []⟩,
   ⟨some 5, .mv, [.t 11], none, []⟩]))))
def x39_0d : List Nat := [4, 5]
def x39 : XF := ⟨54, [.tmp 4], [0, 1, 4, 5],
 (.seq (.reg false [
   ⟨some 4, .mv, [.bool false], none, []⟩])
 (.seq (.seq (.reg false [
   ⟨some 5, .mv, [.int .i64 0], none, []⟩])
 (.block 0 (.loop x39_0)))
 (.clean (.seq (.reg false [
   ⟨some 51, .mv, [.t 1], none, []⟩,
   ⟨some 52, .len false, [.t 51], none, []⟩,
   ⟨some 53, .bin .leq, [.t 52, .int .i64 2000], none, []⟩,
   ⟨some 4, .mv, [.t 53], none, []⟩])
 .ret))))⟩
/- 0=arcs 1=way 4= 5=i -/
/-! tonneau/label.sound -/
def x42_0 : XC := (.seq (.reg false [
   ⟨some 25, .bin .lss, [.t 24, .t 23], none, []⟩])
 (.seq (.cond (.t 25)
  .skip
  (.exit 0))
 (.seq (.block 1 (.seq (.reg false [
    ⟨some 26, .mv, [.t 24], none, []⟩,
    ⟨some 27, .iaddr (.st (.cons (.int .i64) (.int .i64))), [.t 22, .t 24], none, []⟩,
    ⟨some 28, .load (.st (.cons (.int .i64) (.int .i64))), [.t 27], none, []⟩,
    ⟨some 12, .alloc 43 (.st (.cons (.int .i64) (.int .i64))), [], none, []⟩,
    ⟨some 11, .mv, [.t 26], none, []⟩,
    ⟨none, .store (.st (.cons (.int .i64) (.int .i64))), [.t 12, .t 28], none, []⟩])
  (.seq (.seq (.reg false [
    ⟨some 29, .mv, [.t 11], none, []⟩,
    ⟨some 30, .mv, [.t 1], none, []⟩,
    ⟨some 31, .bin .eql, [.t 29, .t 30], none, []⟩])
  (.cond (.t 31)
   (.exit 1)
   .skip))
  (.seq (.seq (.reg false [
    ⟨some 32, .faddr 0 (.int .i64), [.t 12], none, []⟩,
    ⟨some 33, .load (.int .i64), [.t 32], none, []⟩,
    ⟨some 34, .bin .eql, [.t 33, .int .i64 (-1)], none, []⟩])
  (.cond (.t 34)
   (.seq (.seq (.reg false [
     ⟨some 35, .faddr 1 (.int .i64), [.t 12], none, []⟩,
     ⟨some 36, .load (.int .i64), [.t 35], none, []⟩,
     ⟨some 37, .bin .neq, [.t 36, .int .i64 (-1)], none, []⟩])
   (.cond (.t 37)
    (.seq (.reg false [
      ⟨some 10, .mv, [.bool false], none, []⟩])
    .ret)
    .skip))
   (.exit 1))
   .skip))
  (.clean (.seq (.seq (.reg false [
    ⟨some 38, .faddr 0 (.int .i64), [.t 12], none, []⟩,
    ⟨some 39, .load (.int .i64), [.t 38], none, []⟩,
    ⟨some 40, .call 36, [.t 39], none, []⟩,
    ⟨some 41, .not, [.t 40], none, []⟩,
    ⟨some 42, .mv, [.t 41], none, []⟩,
    ⟨some 43, .faddr 1 (.int .i64), [.t 12], some (4, 42, false), []⟩,
    ⟨some 44, .load (.int .i64), [.t 43], some (4, 42, false), []⟩,
    ⟨some 45, .bin .lss, [.t 44, .int .i64 0], some (4, 42, false), []⟩,
    ⟨some 46, .pick, [.t 42, .bool true, .t 45], none, []⟩,
    ⟨some 47, .mv, [.t 46], none, []⟩,
    ⟨some 48, .faddr 1 (.int .i64), [.t 12], some (9, 47, false), []⟩,
    ⟨some 49, .load (.int .i64), [.t 48], some (9, 47, false), []⟩,
    ⟨some 50, .mv, [.t 0], some (9, 47, false), []⟩,
    ⟨some 51, .len false, [.t 50], some (9, 47, false), []⟩,
    ⟨some 52, .bin .geq, [.t 49, .t 51], some (9, 47, false), []⟩,
    ⟨some 53, .pick, [.t 47, .bool true, .t 52], none, []⟩,
    ⟨some 54, .mv, [.t 53], none, []⟩,
    ⟨some 55, .mv, [.t 0], some (16, 54, false), []⟩,
    ⟨some 56, .faddr 1 (.int .i64), [.t 12], some (16, 54, false), []⟩,
    ⟨some 57, .load (.int .i64), [.t 56], some (16, 54, false), []⟩,
    ⟨some 58, .iaddr (.st (.cons (.int .i64) (.cons (.int .i64) (.cons (.sl (.int .i64)) (.sl (.int .i64)))))), [.t 55, .t 57], some (16, 54, false), []⟩,
    ⟨some 59, .faddr 1 (.int .i64), [.t 58], some (16, 54, false), []⟩,
    ⟨some 60, .load (.int .i64), [.t 59], some (16, 54, false), []⟩,
    ⟨some 61, .mv, [.t 11], some (16, 54, false), []⟩,
    ⟨some 62, .bin .neq, [.t 60, .t 61], some (16, 54, false), []⟩,
    ⟨some 63, .pick, [.t 54, .bool true, .t 62], none, []⟩])
  (.cond (.t 63)
   (.seq (.reg false [
     ⟨some 10, .mv, [.bool false], none, []⟩])
   .ret)
   .skip))
  (.clean (.seq (.reg false [
    ⟨some 64, .mv, [.t 0], none, []⟩,
    ⟨some 65, .faddr 1 (.int .i64), [.t 12], none, []⟩,
    ⟨some 66, .load (.int .i64), [.t 65], none, []⟩,
    ⟨some 67, .iaddr (.st (.cons (.int .i64) (.cons (.int .i64) (.cons (.sl (.int .i64)) (.sl (.int .i64)))))), [.t 64, .t 66], none, []⟩,
    ⟨some 68, .load (.st (.cons (.int .i64) (.cons (.int .i64) (.cons (.sl (.int .i64)) (.sl (.int .i64)))))), [.t 67], none, []⟩,
    ⟨some 13, .alloc 45 (.st (.cons (.int .i64) (.cons (.int .i64) (.cons (.sl (.int .i64)) (.sl (.int .i64)))))), [], none, []⟩,
    ⟨none, .store (.st (.cons (.int .i64) (.cons (.int .i64) (.cons (.sl (.int .i64)) (.sl (.int .i64)))))), [.t 13, .t 68], none, []⟩])
  (.clean (.seq (.reg false [
    ⟨some 69, .mv, [.t 4], none, []⟩,
    ⟨some 70, .faddr 0 (.int .i64), [.t 13], none, []⟩,
    ⟨some 71, .load (.int .i64), [.t 70], none, []⟩,
    ⟨some 72, .iaddr (.st (.cons (.int .i64) (.int .i64))), [.t 69, .t 71], none, []⟩,
    ⟨some 73, .faddr 0 (.int .i64), [.t 72], none, []⟩,
    ⟨some 74, .load (.int .i64), [.t 73], none, []⟩,
    ⟨some 14, .mv, [.t 74], none, []⟩])
  (.clean (.seq (.reg true [
    ⟨some 75, .mv, [.t 14], none, []⟩,
    ⟨some 76, .call 36, [.t 75], none, [0]⟩,
    ⟨some 77, .not, [.t 76], none, [1, 0]⟩,
    ⟨some 78, .mv, [.t 77], none, [2, 1, 0]⟩,
    ⟨some 79, .load (.st (.cons (.int .i64) (.cons (.int .i64) (.cons (.sl (.int .i64)) (.sl (.int .i64)))))), [.t 13], some (3, 78, false), [3, 2, 1, 0]⟩,
    ⟨some 80, .mv, [.t 14], some (3, 78, false), [3, 2, 1, 0]⟩,
    ⟨some 81, .mv, [.t 3], some (3, 78, false), [3, 2, 1, 0]⟩,
    ⟨some 82, .call 31, [.t 79, .t 80, .t 81], some (3, 78, false), [4, 3, 2, 1, 0, 5, 6]⟩,
    ⟨some 83, .faddr 0 (.int .i64), [.t 12], some (3, 78, false), [3, 2, 1, 0]⟩,
    ⟨some 84, .load (.int .i64), [.t 83], some (3, 78, false), [8, 3, 2, 1, 0]⟩,
    ⟨some 85, .bin .neq, [.t 82, .t 84], some (3, 78, false), [7, 4, 3, 2, 1, 0, 5, 6, 9, 8]⟩,
    ⟨some 86, .pick, [.t 78, .bool true, .t 85], none, [3, 2, 1, 0, 10, 7, 4, 5, 6, 9, 8]⟩])
  (.cond (.t 86)
   (.seq (.reg false [
     ⟨some 10, .mv, [.bool false], none, []⟩])
   .ret)
   .skip)))))))))))))
 (.reg false [
   ⟨some 87, .bin .add, [.t 24, .int .i64 1], none, []⟩,
   ⟨some 24, .mv, [.t 87], none, []⟩]))))
def x42_0d : List Nat := [10, 11, 12, 13, 14, 24]
def x42 : XF := ⟨92, [.tmp 10], [0, 1, 2, 3, 4, 10, 11, 12, 13, 14, 22, 23, 24],
 (.seq (.reg false [
   ⟨some 10, .mv, [.bool false], none, []⟩])
 (.seq (.seq (.reg false [
   ⟨some 15, .mv, [.t 4], none, []⟩,
   ⟨some 16, .mv, [.t 1], none, []⟩,
   ⟨some 17, .iaddr (.st (.cons (.int .i64) (.int .i64))), [.t 15, .t 16], none, []⟩,
   ⟨some 18, .load (.st (.cons (.int .i64) (.int .i64))), [.t 17], none, []⟩,
   ⟨some 19, .mv, [.t 2], none, []⟩,
   ⟨some 20, .build (.st (.cons (.int .i64) (.int .i64))) [(0, (.int .i64)), (1, (.int .i64))], [.t 19, .int .i64 (-1)], none, []⟩,
   ⟨some 21, .steq true (.st (.cons (.int .i64) (.int .i64))), [.t 18, .t 20], none, []⟩])
 (.cond (.t 21)
  (.seq (.reg false [
    ⟨some 10, .mv, [.bool false], none, []⟩])
  .ret)
  .skip))
 (.clean (.seq (.seq (.reg false [
   ⟨some 22, .mv, [.t 4], none, []⟩,
   ⟨some 23, .len false, [.t 22], none, []⟩,
   ⟨some 24, .mv, [.int .i64 0], none, []⟩])
 (.block 0 (.loop x42_0)))
 (.clean (.seq (.reg false [
   ⟨some 88, .mv, [.t 0], none, []⟩,
   ⟨some 89, .mv, [.t 4], none, []⟩,
   ⟨some 90, .mv, [.t 1], none, []⟩,
   ⟨some 91, .call 60, [.t 88, .t 89, .t 90], none, []⟩,
   ⟨some 10, .mv, [.t 91], none, []⟩])
 .ret))))))⟩
/- 0=arcs 1=from 2=start 3=high 4=labels 10= 11=i 12=l 13=a 14=t 22= 23= 24= -/
/-! tonneau/tonneauref12.Sound -/
def x43_0 : XC := (.seq (.seq (.reg false [
   ⟨some 14, .mv, [.t 11], none, []⟩,
   ⟨some 15, .mv, [.t 4], none, []⟩,
   ⟨some 16, .len false, [.t 15], none, []⟩,
   ⟨some 17, .bin .lss, [.t 14, .t 16], none, []⟩])
 (.cond (.t 17)
  .skip
  (.exit 0)))
 (.seq (.block 1 (.seq (.reg false [
    ⟨some 20, .mv, [.t 4], none, []⟩,
    ⟨some 21, .mv, [.t 11], none, []⟩,
    ⟨some 22, .iaddr (.st (.cons (.int .i64) (.int .i64))), [.t 20, .t 21], none, []⟩,
    ⟨some 23, .load (.st (.cons (.int .i64) (.int .i64))), [.t 22], none, []⟩,
    ⟨some 12, .alloc 43 (.st (.cons (.int .i64) (.int .i64))), [], none, []⟩,
    ⟨none, .store (.st (.cons (.int .i64) (.int .i64))), [.t 12, .t 23], none, []⟩])
  (.seq (.seq (.reg false [
    ⟨some 24, .mv, [.t 11], none, []⟩,
    ⟨some 25, .mv, [.t 1], none, []⟩,
    ⟨some 26, .bin .eql, [.t 24, .t 25], none, []⟩])
  (.cond (.t 26)
   (.seq (.seq (.reg false [
     ⟨some 27, .faddr 0 (.int .i64), [.t 12], none, []⟩,
     ⟨some 28, .load (.int .i64), [.t 27], none, []⟩,
     ⟨some 29, .mv, [.t 2], none, []⟩,
     ⟨some 30, .bin .neq, [.t 28, .t 29], none, []⟩,
     ⟨some 31, .mv, [.t 30], none, []⟩,
     ⟨some 32, .faddr 1 (.int .i64), [.t 12], some (4, 31, false), []⟩,
     ⟨some 33, .load (.int .i64), [.t 32], some (4, 31, false), []⟩,
     ⟨some 34, .bin .neq, [.t 33, .int .i64 (-1)], some (4, 31, false), []⟩,
     ⟨some 35, .pick, [.t 31, .bool true, .t 34], none, []⟩])
   (.cond (.t 35)
    (.seq (.reg false [
      ⟨some 10, .mv, [.bool false], none, []⟩])
    .ret)
    .skip))
   (.exit 1))
   .skip))
  (.clean (.seq (.seq (.reg false [
    ⟨some 36, .faddr 0 (.int .i64), [.t 12], none, []⟩,
    ⟨some 37, .load (.int .i64), [.t 36], none, []⟩,
    ⟨some 38, .bin .eql, [.t 37, .int .i64 (-1)], none, []⟩])
  (.cond (.t 38)
   (.seq (.seq (.reg false [
     ⟨some 39, .faddr 1 (.int .i64), [.t 12], none, []⟩,
     ⟨some 40, .load (.int .i64), [.t 39], none, []⟩,
     ⟨some 41, .bin .neq, [.t 40, .int .i64 (-1)], none, []⟩])
   (.cond (.t 41)
    (.seq (.reg false [
      ⟨some 10, .mv, [.bool false], none, []⟩])
    .ret)
    .skip))
   (.exit 1))
   .skip))
  (.clean (.seq (.seq (.reg false [
    ⟨some 42, .faddr 0 (.int .i64), [.t 12], none, []⟩,
    ⟨some 43, .load (.int .i64), [.t 42], none, []⟩,
    ⟨some 44, .call 38, [.t 43], none, []⟩,
    ⟨some 45, .not, [.t 44], none, []⟩,
    ⟨some 46, .mv, [.t 45], none, []⟩,
    ⟨some 47, .faddr 1 (.int .i64), [.t 12], some (4, 46, false), []⟩,
    ⟨some 48, .load (.int .i64), [.t 47], some (4, 46, false), []⟩,
    ⟨some 49, .bin .lss, [.t 48, .int .i64 0], some (4, 46, false), []⟩,
    ⟨some 50, .pick, [.t 46, .bool true, .t 49], none, []⟩,
    ⟨some 51, .mv, [.t 50], none, []⟩,
    ⟨some 52, .faddr 1 (.int .i64), [.t 12], some (9, 51, false), []⟩,
    ⟨some 53, .load (.int .i64), [.t 52], some (9, 51, false), []⟩,
    ⟨some 54, .mv, [.t 0], some (9, 51, false), []⟩,
    ⟨some 55, .len false, [.t 54], some (9, 51, false), []⟩,
    ⟨some 56, .bin .geq, [.t 53, .t 55], some (9, 51, false), []⟩,
    ⟨some 57, .pick, [.t 51, .bool true, .t 56], none, []⟩])
  (.cond (.t 57)
   (.seq (.reg false [
     ⟨some 10, .mv, [.bool false], none, []⟩])
   .ret)
   .skip))
  (.clean (.seq (.reg false [
    ⟨some 58, .mv, [.t 0], none, []⟩,
    ⟨some 59, .faddr 1 (.int .i64), [.t 12], none, []⟩,
    ⟨some 60, .load (.int .i64), [.t 59], none, []⟩,
    ⟨some 61, .iaddr (.st (.cons (.int .i64) (.cons (.int .i64) (.cons (.sl (.int .i64)) (.sl (.int .i64)))))), [.t 58, .t 60], none, []⟩,
    ⟨some 62, .load (.st (.cons (.int .i64) (.cons (.int .i64) (.cons (.sl (.int .i64)) (.sl (.int .i64)))))), [.t 61], none, []⟩,
    ⟨some 13, .alloc 45 (.st (.cons (.int .i64) (.cons (.int .i64) (.cons (.sl (.int .i64)) (.sl (.int .i64)))))), [], none, []⟩,
    ⟨none, .store (.st (.cons (.int .i64) (.cons (.int .i64) (.cons (.sl (.int .i64)) (.sl (.int .i64)))))), [.t 13, .t 62], none, []⟩])
  (.clean (.seq (.reg true [
    ⟨some 63, .faddr 1 (.int .i64), [.t 13], none, []⟩,
    ⟨some 64, .load (.int .i64), [.t 63], none, [0]⟩,
    ⟨some 65, .mv, [.t 11], none, []⟩,
    ⟨some 66, .bin .neq, [.t 64, .t 65], none, [1, 0, 2]⟩,
    ⟨some 67, .mv, [.t 66], none, [3, 1, 0, 2]⟩,
    ⟨some 68, .mv, [.t 4], some (4, 67, false), [4, 3, 1, 0, 2]⟩,
    ⟨some 69, .faddr 0 (.int .i64), [.t 13], some (4, 67, false), [4, 3, 1, 0, 2]⟩,
    ⟨some 70, .load (.int .i64), [.t 69], some (4, 67, false), [6, 4, 3, 1, 0, 2]⟩,
    ⟨some 71, .iaddr (.st (.cons (.int .i64) (.int .i64))), [.t 68, .t 70], some (4, 67, false), [5, 4, 3, 1, 0, 2, 7, 6]⟩,
    ⟨some 72, .faddr 0 (.int .i64), [.t 71], some (4, 67, false), [8, 5, 4, 3, 1, 0, 2, 7, 6]⟩,
    ⟨some 73, .load (.int .i64), [.t 72], some (4, 67, false), [9, 8, 5, 4, 3, 1, 0, 2, 7, 6]⟩,
    ⟨some 74, .call 38, [.t 73], some (4, 67, false), [10, 9, 8, 5, 4, 3, 1, 0, 2, 7, 6]⟩,
    ⟨some 75, .not, [.t 74], some (4, 67, false), [11, 10, 9, 8, 5, 4, 3, 1, 0, 2, 7, 6]⟩,
    ⟨some 76, .pick, [.t 67, .bool true, .t 75], none, [4, 3, 1, 0, 2, 12, 11, 10, 9, 8, 5, 7, 6]⟩,
    ⟨some 77, .mv, [.t 76], none, [13, 4, 3, 1, 0, 2, 12, 11, 10, 9, 8, 5, 7, 6]⟩,
    ⟨some 78, .load (.st (.cons (.int .i64) (.cons (.int .i64) (.cons (.sl (.int .i64)) (.sl (.int .i64)))))), [.t 13], some (14, 77, false), [14, 13, 4, 3, 1, 0, 2, 12, 11, 10, 9, 8, 5, 7, 6]⟩,
    ⟨some 79, .mv, [.t 4], some (14, 77, false), [14, 13, 4, 3, 1, 0, 2, 12, 11, 10, 9, 8, 5, 7, 6]⟩,
    ⟨some 80, .faddr 0 (.int .i64), [.t 13], some (14, 77, false), [14, 13, 4, 3, 1, 0, 2, 12, 11, 10, 9, 8, 5, 7, 6]⟩,
    ⟨some 81, .load (.int .i64), [.t 80], some (14, 77, false), [17, 14, 13, 4, 3, 1, 0, 2, 12, 11, 10, 9, 8, 5, 7, 6]⟩,
    ⟨some 82, .iaddr (.st (.cons (.int .i64) (.int .i64))), [.t 79, .t 81], some (14, 77, false), [16, 14, 13, 4, 3, 1, 0, 2, 12, 11, 10, 9, 8, 5, 7, 6, 18, 17]⟩,
    ⟨some 83, .faddr 0 (.int .i64), [.t 82], some (14, 77, false), [19, 16, 14, 13, 4, 3, 1, 0, 2, 12, 11, 10, 9, 8, 5, 7, 6, 18, 17]⟩,
    ⟨some 84, .load (.int .i64), [.t 83], some (14, 77, false), [20, 19, 16, 14, 13, 4, 3, 1, 0, 2, 12, 11, 10, 9, 8, 5, 7, 6, 18, 17]⟩,
    ⟨some 85, .mv, [.t 3], some (14, 77, false), [14, 13, 4, 3, 1, 0, 2, 12, 11, 10, 9, 8, 5, 7, 6]⟩,
    ⟨some 86, .call 41, [.t 78, .t 84, .t 85], some (14, 77, false), [15, 14, 13, 4, 3, 1, 0, 2, 12, 11, 10, 9, 8, 5, 7, 6, 21, 20, 19, 16, 18, 17, 22]⟩,
    ⟨some 87, .faddr 0 (.int .i64), [.t 12], some (14, 77, false), [14, 13, 4, 3, 1, 0, 2, 12, 11, 10, 9, 8, 5, 7, 6]⟩,
    ⟨some 88, .load (.int .i64), [.t 87], some (14, 77, false), [24, 14, 13, 4, 3, 1, 0, 2, 12, 11, 10, 9, 8, 5, 7, 6]⟩,
    ⟨some 89, .bin .neq, [.t 86, .t 88], some (14, 77, false), [23, 15, 14, 13, 4, 3, 1, 0, 2, 12, 11, 10, 9, 8, 5, 7, 6, 21, 20, 19, 16, 18, 17, 22, 25, 24]⟩,
    ⟨some 90, .pick, [.t 77, .bool true, .t 89], none, [14, 13, 4, 3, 1, 0, 2, 12, 11, 10, 9, 8, 5, 7, 6, 26, 23, 15, 21, 20, 19, 16, 18, 17, 22, 25, 24]⟩,
    ⟨some 91, .mv, [.t 90], none, [27, 14, 13, 4, 3, 1, 0, 2, 12, 11, 10, 9, 8, 5, 7, 6, 26, 23, 15, 21, 20, 19, 16, 18, 17, 22, 25, 24]⟩,
    ⟨some 92, .mv, [.t 0], some (28, 91, false), [28, 27, 14, 13, 4, 3, 1, 0, 2, 12, 11, 10, 9, 8, 5, 7, 6, 26, 23, 15, 21, 20, 19, 16, 18, 17, 22, 25, 24]⟩,
    ⟨some 93, .mv, [.t 4], some (28, 91, false), [28, 27, 14, 13, 4, 3, 1, 0, 2, 12, 11, 10, 9, 8, 5, 7, 6, 26, 23, 15, 21, 20, 19, 16, 18, 17, 22, 25, 24]⟩,
    ⟨some 94, .mv, [.t 1], some (28, 91, false), [28, 27, 14, 13, 4, 3, 1, 0, 2, 12, 11, 10, 9, 8, 5, 7, 6, 26, 23, 15, 21, 20, 19, 16, 18, 17, 22, 25, 24]⟩,
    ⟨some 95, .mv, [.t 11], some (28, 91, false), [28, 27, 14, 13, 4, 3, 1, 0, 2, 12, 11, 10, 9, 8, 5, 7, 6, 26, 23, 15, 21, 20, 19, 16, 18, 17, 22, 25, 24]⟩,
    ⟨some 96, .call 61, [.t 92, .t 93, .t 94, .t 95], some (28, 91, false), [29, 28, 27, 14, 13, 4, 3, 1, 0, 2, 12, 11, 10, 9, 8, 5, 7, 6, 26, 23, 15, 21, 20, 19, 16, 18, 17, 22, 25, 24, 30, 31, 32]⟩,
    ⟨some 97, .not, [.t 96], some (28, 91, false), [33, 29, 28, 27, 14, 13, 4, 3, 1, 0, 2, 12, 11, 10, 9, 8, 5, 7, 6, 26, 23, 15, 21, 20, 19, 16, 18, 17, 22, 25, 24, 30, 31, 32]⟩,
    ⟨some 98, .pick, [.t 91, .bool true, .t 97], none, [28, 27, 14, 13, 4, 3, 1, 0, 2, 12, 11, 10, 9, 8, 5, 7, 6, 26, 23, 15, 21, 20, 19, 16, 18, 17, 22, 25, 24, 34, 33, 29, 30, 31, 32]⟩])
  (.cond (.t 98)
   (.seq (.reg false [
     ⟨some 10, .mv, [.bool false], none, []⟩])
   .ret)
   .skip))))))))))))
 (.clean (.reg false [
   ⟨some 18, .mv, [.t 11], none, []⟩,
   ⟨some 19, .bin .add, [.t 18, .int .i64 1], none, []⟩,
   ⟨some 11, .mv, [.t 19], none, []⟩]))))
def x43_0d : List Nat := [10, 11, 12, 13]
def x43 : XF := ⟨99, [.tmp 10], [0, 1, 2, 3, 4, 10, 11, 12, 13],
 (.seq (.reg false [
   ⟨some 10, .mv, [.bool false], none, []⟩])
 (.seq (.seq (.reg false [
   ⟨some 11, .mv, [.int .i64 0], none, []⟩])
 (.block 0 (.loop x43_0)))
 (.seq (.reg false [
   ⟨some 10, .mv, [.bool true], none, []⟩])
 .ret)))⟩
/- 0=arcs 1=from 2=start 3=high 4=labels 10= 11=i 12=l 13=a -/
/-! tonneau/tonneauref12.Tight -/
def x44_0 : XC := (.seq (.seq (.reg false [
   ⟨some 11, .mv, [.t 7], none, []⟩,
   ⟨some 12, .mv, [.t 0], none, []⟩,
   ⟨some 13, .len false, [.t 12], none, []⟩,
   ⟨some 14, .bin .lss, [.t 11, .t 13], none, []⟩])
 (.cond (.t 14)
  .skip
  (.exit 0)))
 (.seq (.block 1 (.seq (.reg false [
    ⟨some 17, .mv, [.t 2], none, []⟩,
    ⟨some 18, .mv, [.t 0], none, []⟩,
    ⟨some 19, .mv, [.t 7], none, []⟩,
    ⟨some 20, .iaddr (.st (.cons (.int .i64) (.cons (.int .i64) (.cons (.sl (.int .i64)) (.sl (.int .i64)))))), [.t 18, .t 19], none, []⟩,
    ⟨some 21, .faddr 0 (.int .i64), [.t 20], none, []⟩,
    ⟨some 22, .load (.int .i64), [.t 21], none, []⟩,
    ⟨some 23, .iaddr (.st (.cons (.int .i64) (.int .i64))), [.t 17, .t 22], none, []⟩,
    ⟨some 24, .load (.st (.cons (.int .i64) (.int .i64))), [.t 23], none, []⟩,
    ⟨some 8, .alloc 43 (.st (.cons (.int .i64) (.int .i64))), [], none, []⟩,
    ⟨none, .store (.st (.cons (.int .i64) (.int .i64))), [.t 8, .t 24], none, []⟩])
  (.clean (.seq (.seq (.reg false [
    ⟨some 25, .faddr 0 (.int .i64), [.t 8], none, []⟩,
    ⟨some 26, .load (.int .i64), [.t 25], none, []⟩,
    ⟨some 27, .bin .eql, [.t 26, .int .i64 (-1)], none, []⟩])
  (.cond (.t 27)
   (.exit 1)
   .skip))
  (.seq (.reg true [
    ⟨some 28, .mv, [.t 0], none, []⟩,
    ⟨some 29, .mv, [.t 7], none, []⟩,
    ⟨some 30, .iaddr (.st (.cons (.int .i64) (.cons (.int .i64) (.cons (.sl (.int .i64)) (.sl (.int .i64)))))), [.t 28, .t 29], none, [0, 1]⟩,
    ⟨some 31, .load (.st (.cons (.int .i64) (.cons (.int .i64) (.cons (.sl (.int .i64)) (.sl (.int .i64)))))), [.t 30], none, [2, 0, 1]⟩,
    ⟨some 32, .faddr 0 (.int .i64), [.t 8], none, []⟩,
    ⟨some 33, .load (.int .i64), [.t 32], none, [4]⟩,
    ⟨some 34, .mv, [.t 1], none, []⟩,
    ⟨some 35, .call 41, [.t 31, .t 33, .t 34], none, [3, 2, 0, 1, 5, 4, 6]⟩,
    ⟨some 9, .mv, [.t 35], none, [7, 3, 2, 0, 1, 5, 4, 6]⟩])
  (.clean (.seq (.reg false [
    ⟨some 36, .mv, [.t 2], none, []⟩,
    ⟨some 37, .mv, [.t 0], none, []⟩,
    ⟨some 38, .mv, [.t 7], none, []⟩,
    ⟨some 39, .iaddr (.st (.cons (.int .i64) (.cons (.int .i64) (.cons (.sl (.int .i64)) (.sl (.int .i64)))))), [.t 37, .t 38], none, []⟩,
    ⟨some 40, .faddr 1 (.int .i64), [.t 39], none, []⟩,
    ⟨some 41, .load (.int .i64), [.t 40], none, []⟩,
    ⟨some 42, .iaddr (.st (.cons (.int .i64) (.int .i64))), [.t 36, .t 41], none, []⟩,
    ⟨some 43, .faddr 0 (.int .i64), [.t 42], none, []⟩,
    ⟨some 44, .load (.int .i64), [.t 43], none, []⟩,
    ⟨some 10, .mv, [.t 44], none, []⟩])
  (.clean (.seq (.reg false [
    ⟨some 45, .mv, [.t 9], none, []⟩,
    ⟨some 46, .call 38, [.t 45], none, []⟩,
    ⟨some 47, .mv, [.t 46], none, []⟩,
    ⟨some 48, .mv, [.t 10], some (2, 47, true), []⟩,
    ⟨some 49, .bin .eql, [.t 48, .int .i64 (-1)], some (2, 47, true), []⟩,
    ⟨some 50, .mv, [.t 49], some (2, 47, true), []⟩,
    ⟨some 51, .mv, [.t 10], some (5, 50, false), []⟩,
    ⟨some 52, .mv, [.t 9], some (5, 50, false), []⟩,
    ⟨some 53, .bin .gtr, [.t 51, .t 52], some (5, 50, false), []⟩,
    ⟨some 54, .pick, [.t 50, .bool true, .t 53], some (2, 47, true), []⟩,
    ⟨some 55, .pick, [.t 47, .t 54, .bool false], none, []⟩])
  (.cond (.t 55)
   (.seq (.reg false [
     ⟨some 6, .mv, [.bool false], none, []⟩])
   .ret)
   .skip))))))))))
 (.clean (.reg false [
   ⟨some 15, .mv, [.t 7], none, []⟩,
   ⟨some 16, .bin .add, [.t 15, .int .i64 1], none, []⟩,
   ⟨some 7, .mv, [.t 16], none, []⟩]))))
def x44_0d : List Nat := [6, 7, 8, 9, 10]
def x44 : XF := ⟨56, [.tmp 6], [0, 1, 2, 6, 7, 8, 9, 10],
 (.seq (.reg false [
   ⟨some 6, .mv, [.bool false], none, []⟩])
 (.seq (.seq (.reg false [
   ⟨some 7, .mv, [.int .i64 0], none, []⟩])
 (.block 0 (.loop x44_0)))
 (.seq (.reg false [
   ⟨some 6, .mv, [.bool true], none, []⟩])
 .ret)))⟩
/- 0=arcs 1=high 2=labels 6= 7=i 8=l 9=at 10=to -/
/-! tonneau/tonneaulaw12.arc -/
def x58_0 : XC := (.seq (.seq (.reg false [
   ⟨some 14, .mv, [.t 10], none, []⟩,
   ⟨some 15, .bin .lss, [.t 14, .int .i64 24], none, []⟩])
 (.cond (.t 15)
  .skip
  (.exit 0)))
 (.seq (.block 1 (.seq (.reg false [
    ⟨some 18, .faddr 2 (.sl (.int .i64)), [.t 9], none, []⟩,
    ⟨some 19, .load (.sl (.int .i64)), [.t 18], none, []⟩,
    ⟨some 20, .mv, [.t 2], none, []⟩,
    ⟨some 21, .bslice 3 (.int .i64) 1 [0], [.t 20], none, []⟩,
    ⟨some 22, .append 3 (.int .i64) 8, [.t 19, .t 21], none, []⟩,
    ⟨some 23, .faddr 2 (.sl (.int .i64)), [.t 9], none, []⟩,
    ⟨none, .store (.sl (.int .i64)), [.t 23, .t 22], none, []⟩])
  (.clean (.reg false [
    ⟨some 24, .faddr 3 (.sl (.int .i64)), [.t 9], none, []⟩,
    ⟨some 25, .load (.sl (.int .i64)), [.t 24], none, []⟩,
    ⟨some 26, .mv, [.t 3], none, []⟩,
    ⟨some 27, .bslice 3 (.int .i64) 1 [0], [.t 26], none, []⟩,
    ⟨some 28, .append 3 (.int .i64) 8, [.t 25, .t 27], none, []⟩,
    ⟨some 29, .faddr 3 (.sl (.int .i64)), [.t 9], none, []⟩,
    ⟨none, .store (.sl (.int .i64)), [.t 29, .t 28], none, []⟩]))))
 (.clean (.reg false [
   ⟨some 16, .mv, [.t 10], none, []⟩,
   ⟨some 17, .bin .add, [.t 16, .int .i64 1], none, []⟩,
   ⟨some 10, .mv, [.t 17], none, []⟩]))))
def x58_0d : List Nat := [10]
def x58 : XF := ⟨31, [.cell 8 (.st (.cons (.int .i64) (.cons (.int .i64) (.cons (.sl (.int .i64)) (.sl (.int .i64))))))], [0, 1, 2, 3, 8, 9, 10],
 (.seq (.reg false [
   ⟨some 8, .alloc 45 (.st (.cons (.int .i64) (.cons (.int .i64) (.cons (.sl (.int .i64)) (.sl (.int .i64)))))), [], none, []⟩])
 (.seq (.reg false [
   ⟨some 11, .mv, [.t 0], none, []⟩,
   ⟨some 12, .mv, [.t 1], none, []⟩,
   ⟨some 13, .build (.st (.cons (.int .i64) (.cons (.int .i64) (.cons (.sl (.int .i64)) (.sl (.int .i64)))))) [(0, (.int .i64)), (1, (.int .i64))], [.t 11, .t 12], none, []⟩,
   ⟨some 9, .alloc 45 (.st (.cons (.int .i64) (.cons (.int .i64) (.cons (.sl (.int .i64)) (.sl (.int .i64)))))), [], none, []⟩,
   ⟨none, .store (.st (.cons (.int .i64) (.cons (.int .i64) (.cons (.sl (.int .i64)) (.sl (.int .i64)))))), [.t 9, .t 13], none, []⟩])
 (.seq (.seq (.reg false [
   ⟨some 10, .mv, [.int .i64 0], none, []⟩])
 (.block 0 (.loop x58_0)))
 (.seq (.reg false [
   ⟨some 30, .load (.st (.cons (.int .i64) (.cons (.int .i64) (.cons (.sl (.int .i64)) (.sl (.int .i64)))))), [.t 9], none, []⟩,
   ⟨none, .store (.st (.cons (.int .i64) (.cons (.int .i64) (.cons (.sl (.int .i64)) (.sl (.int .i64)))))), [.t 8, .t 30], none, []⟩])
 .ret))))⟩
/- 0=from 1=to 2=low 3=high 8= 9=a 10=i -/
/-! tonneau/label.tree -/
def x60_1 : XC := (.seq (.seq (.reg false [
   ⟨some 28, .mv, [.t 7], none, []⟩,
   ⟨some 29, .mv, [.t 11], none, []⟩,
   ⟨some 30, .mapget .i64 .bool false, [.t 28, .t 29], none, []⟩,
   ⟨some 31, .not, [.t 30], none, []⟩])
 (.cond (.t 31)
  .skip
  (.exit 2)))
 (.block 3 (.seq (.reg false [
    ⟨some 32, .mv, [.t 10], none, []⟩,
    ⟨some 33, .mv, [.t 11], none, []⟩,
    ⟨some 34, .bslice 3 (.int .i64) 1 [0], [.t 33], none, []⟩,
    ⟨some 35, .append 3 (.int .i64) 8, [.t 32, .t 34], none, []⟩,
    ⟨some 10, .mv, [.t 35], none, []⟩])
  (.seq (.seq (.reg false [
    ⟨some 36, .mv, [.t 10], none, []⟩,
    ⟨some 37, .len false, [.t 36], none, []⟩,
    ⟨some 38, .mv, [.t 1], none, []⟩,
    ⟨some 39, .len false, [.t 38], none, []⟩,
    ⟨some 40, .bin .gtr, [.t 37, .t 39], none, []⟩])
  (.cond (.t 40)
   (.seq (.reg false [
     ⟨some 6, .mv, [.bool false], none, []⟩])
   .ret)
   .skip))
  (.clean (.reg false [
    ⟨some 41, .mv, [.t 0], none, []⟩,
    ⟨some 42, .mv, [.t 1], none, []⟩,
    ⟨some 43, .mv, [.t 11], none, []⟩,
    ⟨some 44, .iaddr (.st (.cons (.int .i64) (.int .i64))), [.t 42, .t 43], none, []⟩,
    ⟨some 45, .faddr 1 (.int .i64), [.t 44], none, []⟩,
    ⟨some 46, .load (.int .i64), [.t 45], none, []⟩,
    ⟨some 47, .iaddr (.st (.cons (.int .i64) (.cons (.int .i64) (.cons (.sl (.int .i64)) (.sl (.int .i64)))))), [.t 41, .t 46], none, []⟩,
    ⟨some 48, .faddr 0 (.int .i64), [.t 47], none, []⟩,
    ⟨some 49, .load (.int .i64), [.t 48], none, []⟩,
    ⟨some 11, .mv, [.t 49], none, []⟩]))))))
def x60_1d : List Nat := [6, 10, 11]
def x60_2 : XC := (.seq (.reg false [
   ⟨some 53, .bin .lss, [.t 52, .t 51], none, []⟩])
 (.seq (.cond (.t 53)
  .skip
  (.exit 4))
 (.seq (.block 5 (.seq (.reg false [
    ⟨some 54, .iaddr (.int .i64), [.t 50, .t 52], none, []⟩,
    ⟨some 55, .load (.int .i64), [.t 54], none, []⟩,
    ⟨some 13, .mv, [.t 55], none, []⟩])
  (.reg false [
    ⟨some 56, .mv, [.t 7], none, []⟩,
    ⟨some 57, .mv, [.t 13], none, []⟩,
    ⟨none, .mapset .i64 .bool, [.t 56, .t 57, .bool true], none, []⟩])))
 (.reg false [
   ⟨some 58, .bin .add, [.t 52, .int .i64 1], none, []⟩,
   ⟨some 52, .mv, [.t 58], none, []⟩]))))
def x60_2d : List Nat := [13, 52]
def x60_0 : XC := (.seq (.reg false [
   ⟨some 20, .bin .lss, [.t 19, .t 18], none, []⟩])
 (.seq (.cond (.t 20)
  .skip
  (.exit 0))
 (.seq (.block 1 (.seq (.reg false [
    ⟨some 21, .mv, [.t 19], none, []⟩,
    ⟨some 22, .iaddr (.st (.cons (.int .i64) (.int .i64))), [.t 17, .t 19], none, []⟩,
    ⟨some 23, .load (.st (.cons (.int .i64) (.int .i64))), [.t 22], none, []⟩,
    ⟨some 9, .alloc 43 (.st (.cons (.int .i64) (.int .i64))), [], none, []⟩,
    ⟨some 8, .mv, [.t 21], none, []⟩,
    ⟨none, .store (.st (.cons (.int .i64) (.int .i64))), [.t 9, .t 23], none, []⟩])
  (.seq (.seq (.reg false [
    ⟨some 24, .faddr 0 (.int .i64), [.t 9], none, []⟩,
    ⟨some 25, .load (.int .i64), [.t 24], none, []⟩,
    ⟨some 26, .bin .eql, [.t 25, .int .i64 (-1)], none, []⟩])
  (.cond (.t 26)
   (.exit 1)
   .skip))
  (.seq (.reg false [
    ⟨some 10, .nilrow 3 (.int .i64), [], none, []⟩])
  (.seq (.reg false [
    ⟨some 27, .mv, [.t 8], none, []⟩,
    ⟨some 11, .mv, [.t 27], none, []⟩])
  (.seq (.block 2 (.loop x60_1))
  (.clean (.seq (.reg false [
    ⟨some 50, .mv, [.t 10], none, []⟩,
    ⟨some 51, .len false, [.t 50], none, []⟩,
    ⟨some 52, .mv, [.int .i64 0], none, []⟩])
  (.block 4 (.loop x60_2))))))))))
 (.reg false [
   ⟨some 59, .bin .add, [.t 19, .int .i64 1], none, []⟩,
   ⟨some 19, .mv, [.t 59], none, []⟩]))))
def x60_0d : List Nat := [6, 8, 9, 10, 11, 13, 19, 50, 51, 52]
def x60 : XF := ⟨60, [.tmp 6], [0, 1, 2, 6, 7, 8, 9, 10, 11, 13, 17, 18, 19, 50, 51, 52],
 (.seq (.reg false [
   ⟨some 6, .mv, [.bool false], none, []⟩])
 (.seq (.reg false [
   ⟨some 14, .mkmap .i64 .bool, [], none, []⟩,
   ⟨some 15, .mv, [.t 2], none, []⟩,
   ⟨none, .mapset .i64 .bool, [.t 14, .t 15, .bool true], none, []⟩,
   ⟨some 16, .mv, [.t 14], none, []⟩,
   ⟨some 7, .mv, [.t 16], none, []⟩])
 (.seq (.seq (.reg false [
   ⟨some 17, .mv, [.t 1], none, []⟩,
   ⟨some 18, .len false, [.t 17], none, []⟩,
   ⟨some 19, .mv, [.int .i64 0], none, []⟩])
 (.block 0 (.loop x60_0)))
 (.seq (.reg false [
   ⟨some 6, .mv, [.bool true], none, []⟩])
 .ret))))⟩
/- 0=arcs 1=labels 2=from 6= 7=home 8=i 9=l 10=walk 11=at 13=k 17= 18= 19= 50= 51= 52= -/
/-! tonneau/tonneauref12.back -/
def x61_0 : XC := (.seq (.seq (.reg false [
   ⟨some 11, .mv, [.t 9], none, []⟩,
   ⟨some 12, .mv, [.t 1], none, []⟩,
   ⟨some 13, .len false, [.t 12], none, []⟩,
   ⟨some 14, .bin .leq, [.t 11, .t 13], none, []⟩])
 (.cond (.t 14)
  .skip
  (.exit 0)))
 (.seq (.block 1 (.seq (.seq (.reg false [
    ⟨some 17, .mv, [.t 3], none, []⟩,
    ⟨some 18, .mv, [.t 2], none, []⟩,
    ⟨some 19, .bin .eql, [.t 17, .t 18], none, []⟩])
  (.cond (.t 19)
   (.seq (.reg false [
     ⟨some 8, .mv, [.bool true], none, []⟩])
   .ret)
   .skip))
  (.seq (.reg false [
    ⟨some 20, .mv, [.t 1], none, []⟩,
    ⟨some 21, .mv, [.t 3], none, []⟩,
    ⟨some 22, .iaddr (.st (.cons (.int .i64) (.int .i64))), [.t 20, .t 21], none, []⟩,
    ⟨some 23, .faddr 1 (.int .i64), [.t 22], none, []⟩,
    ⟨some 24, .load (.int .i64), [.t 23], none, []⟩,
    ⟨some 10, .mv, [.t 24], none, []⟩])
  (.clean (.seq (.seq (.reg false [
    ⟨some 25, .mv, [.t 10], none, []⟩,
    ⟨some 26, .bin .lss, [.t 25, .int .i64 0], none, []⟩,
    ⟨some 27, .mv, [.t 26], none, []⟩,
    ⟨some 28, .mv, [.t 10], some (2, 27, false), []⟩,
    ⟨some 29, .mv, [.t 0], some (2, 27, false), []⟩,
    ⟨some 30, .len false, [.t 29], some (2, 27, false), []⟩,
    ⟨some 31, .bin .geq, [.t 28, .t 30], some (2, 27, false), []⟩,
    ⟨some 32, .pick, [.t 27, .bool true, .t 31], none, []⟩])
  (.cond (.t 32)
   (.seq (.reg false [
     ⟨some 8, .mv, [.bool false], none, []⟩])
   .ret)
   .skip))
  (.clean (.reg false [
    ⟨some 33, .mv, [.t 0], none, []⟩,
    ⟨some 34, .mv, [.t 10], none, []⟩,
    ⟨some 35, .iaddr (.st (.cons (.int .i64) (.cons (.int .i64) (.cons (.sl (.int .i64)) (.sl (.int .i64)))))), [.t 33, .t 34], none, []⟩,
    ⟨some 36, .faddr 0 (.int .i64), [.t 35], none, []⟩,
    ⟨some 37, .load (.int .i64), [.t 36], none, []⟩,
    ⟨some 3, .mv, [.t 37], none, []⟩])))))))
 (.clean (.reg false [
   ⟨some 15, .mv, [.t 9], none, []⟩,
   ⟨some 16, .bin .add, [.t 15, .int .i64 1], none, []⟩,
   ⟨some 9, .mv, [.t 16], none, []⟩]))))
def x61_0d : List Nat := [3, 8, 9, 10]
def x61 : XF := ⟨38, [.tmp 8], [0, 1, 2, 3, 8, 9, 10],
 (.seq (.reg false [
   ⟨some 8, .mv, [.bool false], none, []⟩])
 (.seq (.seq (.reg false [
   ⟨some 9, .mv, [.int .i64 0], none, []⟩])
 (.block 0 (.loop x61_0)))
 (.seq (.reg false [
   ⟨some 8, .mv, [.bool false], none, []⟩])
 .ret)))⟩
/- 0=arcs 1=labels 2=from 3=node 8= 9=k 10=by -/
end T
end Go.Proofs.Ytcjgofcfinbpeaa
