/- The program's functions as code of the typed abstract walk (printed by a program). -/
import Derived.Test.YtehdnoajohlkgaaXC
set_option linter.unusedVariables false
namespace Go.Proofs.Ytehdnoajohlkgaa
namespace T
/-! tonneau/tonneaulaw17.LoadLess -/
def z7_0 : XC := (.seq (.seq (.reg false [
   ⟨some 56, .mv, [.t 15], none, []⟩,
   ⟨some 57, .mv, [.t 1], none, []⟩,
   ⟨some 58, .len false, [.t 57], none, []⟩,
   ⟨some 59, .bin .lss, [.t 56, .t 58], none, []⟩])
 (.cond (.t 59)
  .skip
  (.exit 0)))
 (.seq (.block 1 (.seq (.reg false [
    ⟨some 62, .mv, [.t 1], none, []⟩,
    ⟨some 63, .mv, [.t 15], none, []⟩,
    ⟨some 64, .iaddr (.st (.cons (.int .i64) .bool)), [.t 62, .t 63], none, []⟩,
    ⟨some 65, .faddr 0 (.int .i64), [.t 64], none, []⟩,
    ⟨some 66, .load (.int .i64), [.t 65], none, []⟩,
    ⟨some 67, .mv, [.t 10], none, []⟩,
    ⟨some 68, .bin .neq, [.t 66, .t 67], none, []⟩])
  (.cond (.t 68)
   (.seq (.reg false [
     ⟨some 69, .mv, [.t 13], none, []⟩,
     ⟨some 70, .mv, [.t 1], none, []⟩,
     ⟨some 71, .mv, [.t 15], none, []⟩,
     ⟨some 72, .iaddr (.st (.cons (.int .i64) .bool)), [.t 70, .t 71], none, []⟩,
     ⟨some 73, .load (.st (.cons (.int .i64) .bool)), [.t 72], none, []⟩,
     ⟨some 74, .bslice 44 (.st (.cons (.int .i64) .bool)) 1 [0], [.t 73], none, []⟩,
     ⟨some 75, .append 44 (.st (.cons (.int .i64) .bool)) 16, [.t 69, .t 74], none, []⟩,
     ⟨some 13, .mv, [.t 75], none, []⟩])
   (.clean (.reg false [
     ⟨some 76, .mv, [.t 14], none, []⟩,
     ⟨some 77, .mv, [.t 15], none, []⟩,
     ⟨some 78, .bin .add, [.t 77, .int .i64 1], none, []⟩,
     ⟨some 79, .bslice 3 (.int .i64) 1 [0], [.t 78], none, []⟩,
     ⟨some 80, .append 3 (.int .i64) 8, [.t 76, .t 79], none, []⟩,
     ⟨some 14, .mv, [.t 80], none, []⟩])))
   .skip)))
 (.clean (.reg false [
   ⟨some 60, .mv, [.t 15], none, []⟩,
   ⟨some 61, .bin .add, [.t 60, .int .i64 1], none, []⟩,
   ⟨some 15, .mv, [.t 61], none, []⟩]))))
def z7_0d : List Nat := [13, 14, 15]
def z7_1 : XC := (.seq (.seq (.reg false [
   ⟨some 96, .mv, [.t 18], none, []⟩,
   ⟨some 97, .mv, [.t 14], none, []⟩,
   ⟨some 98, .len false, [.t 97], none, []⟩,
   ⟨some 99, .bin .lss, [.t 96, .t 98], none, []⟩])
 (.cond (.t 99)
  .skip
  (.exit 2)))
 (.seq (.block 3 (.seq (.reg false [
    ⟨some 102, .mv, [.t 11], none, []⟩,
    ⟨some 103, .mv, [.t 14], none, []⟩,
    ⟨some 104, .mv, [.t 18], none, []⟩,
    ⟨some 105, .iaddr (.int .i64), [.t 103, .t 104], none, []⟩,
    ⟨some 106, .load (.int .i64), [.t 105], none, []⟩,
    ⟨some 107, .iaddr (.st (.cons (.int .i64) (.cons (.int .i64) (.int .i64)))), [.t 102, .t 106], none, []⟩,
    ⟨some 108, .load (.st (.cons (.int .i64) (.cons (.int .i64) (.int .i64)))), [.t 107], none, []⟩,
    ⟨some 19, .alloc 42 (.st (.cons (.int .i64) (.cons (.int .i64) (.int .i64)))), [], none, []⟩,
    ⟨none, .store (.st (.cons (.int .i64) (.cons (.int .i64) (.int .i64)))), [.t 19, .t 108], none, []⟩])
  (.clean (.seq (.seq (.reg false [
    ⟨some 109, .mv, [.t 1], none, []⟩,
    ⟨some 110, .mv, [.t 10], none, []⟩,
    ⟨some 111, .mv, [.t 14], none, []⟩,
    ⟨some 112, .mv, [.t 18], none, []⟩,
    ⟨some 113, .iaddr (.int .i64), [.t 111, .t 112], none, []⟩,
    ⟨some 114, .load (.int .i64), [.t 113], none, []⟩,
    ⟨some 115, .call 24, [.t 109, .t 110, .t 114], none, []⟩])
  (.cond (.t 115)
   (.seq (.reg true [
     ⟨some 116, .faddr 0 (.int .i64), [.t 19], none, []⟩,
     ⟨some 117, .load (.int .i64), [.t 116], none, [0]⟩,
     ⟨some 118, .mv, [.t 2], none, []⟩,
     ⟨some 119, .mv, [.t 10], none, []⟩,
     ⟨some 120, .iaddr (.st (.cons (.int .i64) (.cons (.int .i64) (.cons (.int .i64) (.cons (.int .i64) (.cons (.int .i64) (.cons (.int .i64) (.cons (.int .i64) (.cons (.int .i64) (.cons (.int .i64) (.int .i64))))))))))), [.t 118, .t 119], none, [2, 3]⟩,
     ⟨some 121, .faddr 7 (.int .i64), [.t 120], none, [4, 2, 3]⟩,
     ⟨some 122, .load (.int .i64), [.t 121], none, [5, 4, 2, 3]⟩,
     ⟨some 123, .bin .sub, [.t 117, .t 122], none, [1, 0, 6, 5, 4, 2, 3]⟩,
     ⟨some 124, .faddr 0 (.int .i64), [.t 19], none, [0, 1, 2, 3, 4, 5, 6, 7]⟩,
     ⟨none, .store (.int .i64), [.t 124, .t 123], none, [8, 0, 1, 2, 3, 4, 5, 6, 7]⟩])
   (.clean (.seq (.reg true [
     ⟨some 125, .faddr 1 (.int .i64), [.t 19], none, []⟩,
     ⟨some 126, .load (.int .i64), [.t 125], none, [0]⟩,
     ⟨some 127, .mv, [.t 2], none, []⟩,
     ⟨some 128, .mv, [.t 10], none, []⟩,
     ⟨some 129, .iaddr (.st (.cons (.int .i64) (.cons (.int .i64) (.cons (.int .i64) (.cons (.int .i64) (.cons (.int .i64) (.cons (.int .i64) (.cons (.int .i64) (.cons (.int .i64) (.cons (.int .i64) (.int .i64))))))))))), [.t 127, .t 128], none, [2, 3]⟩,
     ⟨some 130, .faddr 8 (.int .i64), [.t 129], none, [4, 2, 3]⟩,
     ⟨some 131, .load (.int .i64), [.t 130], none, [5, 4, 2, 3]⟩,
     ⟨some 132, .bin .sub, [.t 126, .t 131], none, [1, 0, 6, 5, 4, 2, 3]⟩,
     ⟨some 133, .faddr 1 (.int .i64), [.t 19], none, [0, 1, 2, 3, 4, 5, 6, 7]⟩,
     ⟨none, .store (.int .i64), [.t 133, .t 132], none, [8, 0, 1, 2, 3, 4, 5, 6, 7]⟩])
   (.clean (.reg true [
     ⟨some 134, .faddr 2 (.int .i64), [.t 19], none, []⟩,
     ⟨some 135, .load (.int .i64), [.t 134], none, [0]⟩,
     ⟨some 136, .mv, [.t 2], none, []⟩,
     ⟨some 137, .mv, [.t 10], none, []⟩,
     ⟨some 138, .iaddr (.st (.cons (.int .i64) (.cons (.int .i64) (.cons (.int .i64) (.cons (.int .i64) (.cons (.int .i64) (.cons (.int .i64) (.cons (.int .i64) (.cons (.int .i64) (.cons (.int .i64) (.int .i64))))))))))), [.t 136, .t 137], none, [2, 3]⟩,
     ⟨some 139, .faddr 9 (.int .i64), [.t 138], none, [4, 2, 3]⟩,
     ⟨some 140, .load (.int .i64), [.t 139], none, [5, 4, 2, 3]⟩,
     ⟨some 141, .bin .sub, [.t 135, .t 140], none, [1, 0, 6, 5, 4, 2, 3]⟩,
     ⟨some 142, .faddr 2 (.int .i64), [.t 19], none, [0, 1, 2, 3, 4, 5, 6, 7]⟩,
     ⟨none, .store (.int .i64), [.t 142, .t 141], none, [8, 0, 1, 2, 3, 4, 5, 6, 7]⟩])))))
   .skip))
  (.clean (.seq (.reg true [
    ⟨some 143, .mv, [.t 16], none, []⟩,
    ⟨some 144, .mv, [.t 18], none, []⟩,
    ⟨some 145, .iaddr (.st (.cons (.int .i64) (.cons (.int .i64) (.int .i64)))), [.t 143, .t 144], none, [0, 1]⟩,
    ⟨some 146, .load (.st (.cons (.int .i64) (.cons (.int .i64) (.int .i64)))), [.t 145], none, [2, 0, 1]⟩,
    ⟨some 147, .load (.st (.cons (.int .i64) (.cons (.int .i64) (.int .i64)))), [.t 19], none, []⟩,
    ⟨some 148, .steq true (.st (.cons (.int .i64) (.cons (.int .i64) (.int .i64)))), [.t 146, .t 147], none, [3, 2, 0, 1, 4]⟩])
  (.cond (.t 148)
   (.seq (.reg false [
     ⟨some 8, .mv, [.bool false], none, []⟩])
   .ret)
   .skip)))))))
 (.clean (.reg false [
   ⟨some 100, .mv, [.t 18], none, []⟩,
   ⟨some 101, .bin .add, [.t 100, .int .i64 1], none, []⟩,
   ⟨some 18, .mv, [.t 101], none, []⟩]))))
def z7_1d : List Nat := [8, 18, 19]
def z7 : XF := ⟨172, [.tmp 8], [0, 1, 2, 3, 4, 8, 9, 10, 11, 12, 13, 14, 15, 16, 17, 18, 19, 21, 23],
 (.seq (.reg false [
   ⟨some 4, .box 23, [.t 0], none, []⟩,
   ⟨some 8, .mv, [.bool false], none, []⟩])
 (.seq (.reg false [
   ⟨some 24, .call 8, [], none, []⟩,
   ⟨some 9, .mv, [.t 24], none, []⟩])
 (.seq (.seq (.reg false [
   ⟨some 25, .mv, [.t 1], none, []⟩,
   ⟨some 26, .mv, [.t 2], none, []⟩,
   ⟨some 27, .call 9, [.nil, .t 25, .t 26], none, []⟩,
   ⟨some 28, .not, [.t 27], none, []⟩,
   ⟨some 29, .mv, [.t 28], none, []⟩,
   ⟨some 30, .mv, [.t 2], some (4, 29, false), []⟩,
   ⟨some 31, .len false, [.t 30], some (4, 29, false), []⟩,
   ⟨some 32, .bin .eql, [.t 31, .int .i64 0], some (4, 29, false), []⟩,
   ⟨some 33, .pick, [.t 29, .bool true, .t 32], none, []⟩])
 (.cond (.t 33)
  (.seq (.reg false [
    ⟨some 34, .mv, [.t 9], none, []⟩,
    ⟨some 8, .mv, [.t 34], none, []⟩])
  .ret)
  .skip))
 (.clean (.seq (.reg false [
   ⟨some 35, .mv, [.t 3], none, []⟩,
   ⟨some 36, .conv .i64, [.t 35], none, []⟩,
   ⟨some 37, .mv, [.t 2], none, []⟩,
   ⟨some 38, .len false, [.t 37], none, []⟩,
   ⟨some 39, .bin .rem, [.t 36, .t 38], none, []⟩,
   ⟨some 10, .mv, [.t 39], none, []⟩])
 (.clean (.seq (.reg false [
   ⟨some 41, .mv, [.t 1], none, []⟩,
   ⟨some 42, .mv, [.t 2], none, []⟩,
   ⟨some 43, .call 10, [.t 41, .t 42], none, []⟩,
   ⟨some 40, .mv, [.t 43], none, []⟩,
   ⟨some 44, .extract 0, [.t 40], none, []⟩,
   ⟨some 45, .extract 1, [.t 40], none, []⟩,
   ⟨some 11, .mv, [.t 44], none, []⟩,
   ⟨some 12, .mv, [.t 45], none, []⟩])
 (.clean (.seq (.seq (.reg false [
   ⟨some 46, .mv, [.t 12], none, []⟩,
   ⟨some 47, .bin .neq, [.t 46, .int .i64 0], none, []⟩])
 (.cond (.t 47)
  (.seq (.reg false [
    ⟨some 48, .mv, [.t 9], none, []⟩,
    ⟨some 8, .mv, [.t 48], none, []⟩])
  .ret)
  .skip))
 (.seq (.seq (.reg false [
   ⟨some 49, .mv, [.t 11], none, []⟩,
   ⟨some 50, .len false, [.t 49], none, []⟩,
   ⟨some 51, .mv, [.t 1], none, []⟩,
   ⟨some 52, .len false, [.t 51], none, []⟩,
   ⟨some 53, .bin .add, [.t 52, .int .i64 1], none, []⟩,
   ⟨some 54, .bin .neq, [.t 50, .t 53], none, []⟩])
 (.cond (.t 54)
  (.seq (.reg false [
    ⟨some 8, .mv, [.bool false], none, []⟩])
  .ret)
  .skip))
 (.clean (.seq (.reg false [
   ⟨some 13, .nilrow 44 (.st (.cons (.int .i64) .bool)), [], none, []⟩])
 (.seq (.reg false [
   ⟨some 55, .bslice 3 (.int .i64) 1 [0], [.int .i64 0], none, []⟩,
   ⟨some 14, .mv, [.t 55], none, []⟩])
 (.seq (.seq (.reg false [
   ⟨some 15, .mv, [.int .i64 0], none, []⟩])
 (.block 0 (.loop z7_0)))
 (.top (.clean (.seq (.reg false [
   ⟨some 82, .mv, [.t 13], none, []⟩,
   ⟨some 83, .mv, [.t 2], none, []⟩,
   ⟨some 84, .call 10, [.t 82, .t 83], none, []⟩,
   ⟨some 81, .mv, [.t 84], none, []⟩,
   ⟨some 85, .extract 0, [.t 81], none, []⟩,
   ⟨some 86, .extract 1, [.t 81], none, []⟩,
   ⟨some 16, .mv, [.t 85], none, []⟩,
   ⟨some 17, .mv, [.t 86], none, []⟩])
 (.clean (.seq (.seq (.reg false [
   ⟨some 87, .mv, [.t 17], none, []⟩,
   ⟨some 88, .bin .neq, [.t 87, .int .i64 0], none, []⟩,
   ⟨some 89, .mv, [.t 88], none, []⟩,
   ⟨some 90, .mv, [.t 16], some (2, 89, false), []⟩,
   ⟨some 91, .len false, [.t 90], some (2, 89, false), []⟩,
   ⟨some 92, .mv, [.t 14], some (2, 89, false), []⟩,
   ⟨some 93, .len false, [.t 92], some (2, 89, false), []⟩,
   ⟨some 94, .bin .neq, [.t 91, .t 93], some (2, 89, false), []⟩,
   ⟨some 95, .pick, [.t 89, .bool true, .t 94], none, []⟩])
 (.cond (.t 95)
  (.seq (.reg false [
    ⟨some 8, .mv, [.bool false], none, []⟩])
  .ret)
  .skip))
 (.clean (.seq (.seq (.reg false [
   ⟨some 18, .mv, [.int .i64 0], none, []⟩])
 (.block 2 (.loop z7_1)))
 (.clean (.seq (.reg false [
   ⟨some 150, .load (.st (.cons (.int .i64) (.cons (.int .i64) (.cons (.int .i64) (.cons (.int .i64) (.cons (.int .i64) (.cons (.int .i64) (.cons (.int .i64) (.cons (.int .i64) (.int .i64)))))))))), [.t 4], none, []⟩,
   ⟨some 151, .mv, [.t 1], none, []⟩,
   ⟨some 152, .mv, [.t 2], none, []⟩,
   ⟨some 153, .call 12, [.t 150, .t 151, .t 152], none, []⟩,
   ⟨some 149, .mv, [.t 153], none, []⟩,
   ⟨some 154, .extract 0, [.t 149], none, []⟩,
   ⟨some 155, .extract 1, [.t 149], none, []⟩,
   ⟨some 20, .mv, [.t 154], none, []⟩,
   ⟨some 21, .mv, [.t 155], none, []⟩])
 (.clean (.seq (.reg false [
   ⟨some 157, .load (.st (.cons (.int .i64) (.cons (.int .i64) (.cons (.int .i64) (.cons (.int .i64) (.cons (.int .i64) (.cons (.int .i64) (.cons (.int .i64) (.cons (.int .i64) (.int .i64)))))))))), [.t 4], none, []⟩,
   ⟨some 158, .mv, [.t 13], none, []⟩,
   ⟨some 159, .mv, [.t 2], none, []⟩,
   ⟨some 160, .call 12, [.t 157, .t 158, .t 159], none, []⟩,
   ⟨some 156, .mv, [.t 160], none, []⟩,
   ⟨some 161, .extract 0, [.t 156], none, []⟩,
   ⟨some 162, .extract 1, [.t 156], none, []⟩,
   ⟨some 22, .mv, [.t 161], none, []⟩,
   ⟨some 23, .mv, [.t 162], none, []⟩])
 (.clean (.seq (.reg false [
   ⟨some 163, .mv, [.t 9], none, []⟩,
   ⟨some 164, .mv, [.t 163], none, []⟩,
   ⟨some 165, .mv, [.t 21], some (1, 164, true), []⟩,
   ⟨some 166, .bin .neq, [.t 165, .int .i64 0], some (1, 164, true), []⟩,
   ⟨some 167, .mv, [.t 166], some (1, 164, true), []⟩,
   ⟨some 168, .mv, [.t 23], some (4, 167, false), []⟩,
   ⟨some 169, .bin .eql, [.t 168, .int .i64 0], some (4, 167, false), []⟩,
   ⟨some 170, .pick, [.t 167, .bool true, .t 169], some (1, 164, true), []⟩,
   ⟨some 171, .pick, [.t 164, .t 170, .bool false], none, []⟩,
   ⟨some 8, .mv, [.t 171], none, []⟩])
 .ret)))))))))))))))))))))))))))⟩
/- 0=car 1=stops 2=requests 3=which 4=car 8= 9=head 10=k 11=old 12=e 13=less 14=at 15=i 16=l 17=f 18=i 19=x 21=g 23=h -/
end T
end Go.Proofs.Ytehdnoajohlkgaa
