/- The program's functions as code of the typed abstract walk (printed by a program). -/
import Derived.Test.YtaffcpdkmhpckaaT18
namespace Go.Proofs.Ytaffcpdkmhpckaa
namespace T
/-! gosem.cut.init -/
def x2 : XF := ⟨1, [], [],
 (.reg false [
   ⟨some 0, .call 1, [], none, []⟩])⟩
/-  -/
/-! tonneau/tonneaulaw14.GaugeTells -/
def x3 : XF := ⟨55, [.tmp 4], [0, 1, 2, 4, 5, 6, 7, 8, 9, 10, 11],
 (.seq (.reg false [
   ⟨some 2, .box 24, [.t 0], none, []⟩,
   ⟨some 4, .mv, [.bool false], none, []⟩])
 (.seq (.reg false [
   ⟨some 12, .call 8, [], none, []⟩,
   ⟨some 5, .mv, [.t 12], none, []⟩])
 (.seq (.seq (.reg false [
   ⟨some 13, .load (.st (.cons (.int .i64) (.cons (.int .i64) (.cons (.sl (.int .i64)) (.sl (.int .i64)))))), [.t 2], none, []⟩,
   ⟨some 14, .mv, [.t 1], none, []⟩,
   ⟨some 15, .call 9, [.t 13, .t 14], none, []⟩,
   ⟨some 16, .not, [.t 15], none, []⟩])
 (.cond (.t 16)
  (.seq (.reg false [
    ⟨some 17, .mv, [.t 5], none, []⟩,
    ⟨some 4, .mv, [.t 17], none, []⟩])
  .ret)
  .skip))
 (.clean (.seq (.reg false [
   ⟨some 19, .load (.st (.cons (.int .i64) (.cons (.int .i64) (.cons (.sl (.int .i64)) (.sl (.int .i64)))))), [.t 2], none, []⟩,
   ⟨some 20, .mv, [.t 1], none, []⟩,
   ⟨some 21, .call 10, [.t 19, .t 20], none, []⟩,
   ⟨some 18, .mv, [.t 21], none, []⟩,
   ⟨some 22, .extract 0, [.t 18], none, []⟩,
   ⟨some 23, .extract 1, [.t 18], none, []⟩,
   ⟨some 24, .extract 2, [.t 18], none, []⟩,
   ⟨some 6, .alloc 24 (.st (.cons (.int .i64) (.cons (.int .i64) (.cons (.sl (.int .i64)) (.sl (.int .i64)))))), [], none, []⟩,
   ⟨none, .store (.st (.cons (.int .i64) (.cons (.int .i64) (.cons (.sl (.int .i64)) (.sl (.int .i64)))))), [.t 6, .t 22], none, []⟩,
   ⟨some 7, .mv, [.t 23], none, []⟩,
   ⟨some 8, .mv, [.t 24], none, []⟩])
 (.clean (.seq (.reg false [
   ⟨some 26, .load (.st (.cons (.int .i64) (.cons (.int .i64) (.cons (.sl (.int .i64)) (.sl (.int .i64)))))), [.t 2], none, []⟩,
   ⟨some 27, .mv, [.t 1], none, []⟩,
   ⟨some 28, .call 11, [.t 26, .t 27], none, []⟩,
   ⟨some 25, .mv, [.t 28], none, []⟩,
   ⟨some 29, .extract 0, [.t 25], none, []⟩,
   ⟨some 30, .extract 1, [.t 25], none, []⟩,
   ⟨some 31, .extract 2, [.t 25], none, []⟩,
   ⟨some 9, .alloc 24 (.st (.cons (.int .i64) (.cons (.int .i64) (.cons (.sl (.int .i64)) (.sl (.int .i64)))))), [], none, []⟩,
   ⟨none, .store (.st (.cons (.int .i64) (.cons (.int .i64) (.cons (.sl (.int .i64)) (.sl (.int .i64)))))), [.t 9, .t 29], none, []⟩,
   ⟨some 10, .mv, [.t 30], none, []⟩,
   ⟨some 11, .mv, [.t 31], none, []⟩])
 (.clean (.seq (.reg false [
   ⟨some 32, .mv, [.t 5], none, []⟩,
   ⟨some 33, .mv, [.t 32], none, []⟩,
   ⟨some 34, .load (.st (.cons (.int .i64) (.cons (.int .i64) (.cons (.sl (.int .i64)) (.sl (.int .i64)))))), [.t 6], some (1, 33, true), []⟩,
   ⟨some 35, .load (.st (.cons (.int .i64) (.cons (.int .i64) (.cons (.sl (.int .i64)) (.sl (.int .i64)))))), [.t 9], some (1, 33, true), []⟩,
   ⟨some 36, .call 12, [.t 34, .t 35], some (1, 33, true), []⟩,
   ⟨some 37, .pick, [.t 33, .t 36, .bool false], none, []⟩,
   ⟨some 38, .mv, [.t 37], none, []⟩,
   ⟨some 39, .mv, [.t 7], some (6, 38, true), []⟩,
   ⟨some 40, .mv, [.t 10], some (6, 38, true), []⟩,
   ⟨some 41, .call 13, [.t 39, .t 40], some (6, 38, true), []⟩,
   ⟨some 42, .pick, [.t 38, .t 41, .bool false], none, []⟩,
   ⟨some 43, .mv, [.t 42], none, []⟩,
   ⟨some 44, .mv, [.t 8], some (11, 43, true), []⟩,
   ⟨some 45, .mv, [.t 11], some (11, 43, true), []⟩,
   ⟨some 46, .bin .eql, [.t 44, .t 45], some (11, 43, true), []⟩,
   ⟨some 47, .pick, [.t 43, .t 46, .bool false], none, []⟩,
   ⟨some 48, .mv, [.t 47], none, []⟩,
   ⟨some 49, .mv, [.t 1], some (16, 48, true), []⟩,
   ⟨some 50, .call 14, [.t 49], some (16, 48, true), []⟩,
   ⟨some 51, .mv, [.t 1], some (16, 48, true), []⟩,
   ⟨some 52, .call 15, [.t 51], some (16, 48, true), []⟩,
   ⟨some 53, .beq false .bool, [.t 50, .t 52], some (16, 48, true), []⟩,
   ⟨some 54, .pick, [.t 48, .t 53, .bool false], none, []⟩,
   ⟨some 4, .mv, [.t 54], none, []⟩])
 .ret)))))))))⟩
/- 0=a 1=l 2=a 4= 5=head 6=b 7=x 8=e 9=c 10=y 11=f -/
/-! tonneau/tonneaulaw14.GaugeKeeps -/
def x4_0 : XC := (.seq (.seq (.reg false [
   ⟨some 89, .mv, [.t 11], none, []⟩,
   ⟨some 90, .mv, [.t 1], none, []⟩,
   ⟨some 91, .len false, [.t 90], none, []⟩,
   ⟨some 92, .bin .lss, [.t 89, .t 91], none, []⟩])
 (.cond (.t 92)
  .skip
  (.exit 0)))
 (.seq (.block 1 (.seq (.reg false [
    ⟨some 95, .mv, [.t 1], none, []⟩,
    ⟨some 96, .mv, [.t 11], none, []⟩,
    ⟨some 97, .iaddr (.st (.cons (.int .i64) (.int .i64))), [.t 95, .t 96], none, []⟩,
    ⟨some 98, .faddr 0 (.int .i64), [.t 97], none, []⟩,
    ⟨some 99, .load (.int .i64), [.t 98], none, []⟩,
    ⟨some 100, .bin .quo, [.t 99, .int .i64 60], none, []⟩,
    ⟨some 101, .bin .rem, [.t 100, .int .i64 24], none, []⟩,
    ⟨some 12, .mv, [.t 101], none, []⟩])
  (.clean (.seq (.reg true [
    ⟨some 102, .mv, [.t 1], none, []⟩,
    ⟨some 103, .mv, [.t 11], none, []⟩,
    ⟨some 104, .iaddr (.st (.cons (.int .i64) (.int .i64))), [.t 102, .t 103], none, [0, 1]⟩,
    ⟨some 105, .faddr 1 (.int .i64), [.t 104], none, [2, 0, 1]⟩,
    ⟨some 106, .load (.int .i64), [.t 105], none, [3, 2, 0, 1]⟩,
    ⟨some 107, .faddr 2 (.sl (.int .i64)), [.t 2], none, []⟩,
    ⟨some 108, .load (.sl (.int .i64)), [.t 107], none, [5]⟩,
    ⟨some 109, .mv, [.t 12], none, []⟩,
    ⟨some 110, .iaddr (.int .i64), [.t 108, .t 109], none, [6, 5, 7]⟩,
    ⟨some 111, .load (.int .i64), [.t 110], none, [8, 6, 5, 7]⟩,
    ⟨some 112, .bin .geq, [.t 106, .t 111], none, [4, 3, 2, 0, 1, 9, 8, 6, 5, 7]⟩,
    ⟨some 113, .mv, [.t 112], none, [10, 4, 3, 2, 0, 1, 9, 8, 6, 5, 7]⟩,
    ⟨some 114, .mv, [.t 1], some (11, 113, true), [11, 10, 4, 3, 2, 0, 1, 9, 8, 6, 5, 7]⟩,
    ⟨some 115, .mv, [.t 11], some (11, 113, true), [11, 10, 4, 3, 2, 0, 1, 9, 8, 6, 5, 7]⟩,
    ⟨some 116, .iaddr (.st (.cons (.int .i64) (.int .i64))), [.t 114, .t 115], some (11, 113, true), [12, 11, 10, 4, 3, 2, 0, 1, 9, 8, 6, 5, 7, 13]⟩,
    ⟨some 117, .faddr 1 (.int .i64), [.t 116], some (11, 113, true), [14, 12, 11, 10, 4, 3, 2, 0, 1, 9, 8, 6, 5, 7, 13]⟩,
    ⟨some 118, .load (.int .i64), [.t 117], some (11, 113, true), [15, 14, 12, 11, 10, 4, 3, 2, 0, 1, 9, 8, 6, 5, 7, 13]⟩,
    ⟨some 119, .faddr 3 (.sl (.int .i64)), [.t 2], some (11, 113, true), [11, 10, 4, 3, 2, 0, 1, 9, 8, 6, 5, 7]⟩,
    ⟨some 120, .load (.sl (.int .i64)), [.t 119], some (11, 113, true), [17, 11, 10, 4, 3, 2, 0, 1, 9, 8, 6, 5, 7]⟩,
    ⟨some 121, .mv, [.t 12], some (11, 113, true), [11, 10, 4, 3, 2, 0, 1, 9, 8, 6, 5, 7]⟩,
    ⟨some 122, .iaddr (.int .i64), [.t 120, .t 121], some (11, 113, true), [18, 17, 11, 10, 4, 3, 2, 0, 1, 9, 8, 6, 5, 7, 19]⟩,
    ⟨some 123, .load (.int .i64), [.t 122], some (11, 113, true), [20, 18, 17, 11, 10, 4, 3, 2, 0, 1, 9, 8, 6, 5, 7, 19]⟩,
    ⟨some 124, .bin .leq, [.t 118, .t 123], some (11, 113, true), [16, 15, 14, 12, 11, 10, 4, 3, 2, 0, 1, 9, 8, 6, 5, 7, 13, 21, 20, 18, 17, 19]⟩,
    ⟨some 125, .pick, [.t 113, .t 124, .bool false], none, [11, 10, 4, 3, 2, 0, 1, 9, 8, 6, 5, 7, 22, 16, 15, 14, 12, 13, 21, 20, 18, 17, 19]⟩,
    ⟨some 13, .mv, [.t 125], none, [23, 11, 10, 4, 3, 2, 0, 1, 9, 8, 6, 5, 7, 22, 16, 15, 14, 12, 13, 21, 20, 18, 17, 19]⟩])
  (.clean (.seq (.seq (.reg true [
    ⟨some 126, .mv, [.t 13], none, []⟩,
    ⟨some 127, .mv, [.t 1], none, []⟩,
    ⟨some 128, .mv, [.t 11], none, []⟩,
    ⟨some 129, .iaddr (.st (.cons (.int .i64) (.int .i64))), [.t 127, .t 128], none, [1, 2]⟩,
    ⟨some 130, .faddr 1 (.int .i64), [.t 129], none, [3, 1, 2]⟩,
    ⟨some 131, .load (.int .i64), [.t 130], none, [4, 3, 1, 2]⟩,
    ⟨some 132, .faddr 2 (.sl (.int .i64)), [.t 6], none, []⟩,
    ⟨some 133, .load (.sl (.int .i64)), [.t 132], none, [6]⟩,
    ⟨some 134, .mv, [.t 12], none, []⟩,
    ⟨some 135, .iaddr (.int .i64), [.t 133, .t 134], none, [7, 6, 8]⟩,
    ⟨some 136, .load (.int .i64), [.t 135], none, [9, 7, 6, 8]⟩,
    ⟨some 137, .bin .geq, [.t 131, .t 136], none, [5, 4, 3, 1, 2, 10, 9, 7, 6, 8]⟩,
    ⟨some 138, .mv, [.t 137], none, [11, 5, 4, 3, 1, 2, 10, 9, 7, 6, 8]⟩,
    ⟨some 139, .mv, [.t 1], some (12, 138, true), [12, 11, 5, 4, 3, 1, 2, 10, 9, 7, 6, 8]⟩,
    ⟨some 140, .mv, [.t 11], some (12, 138, true), [12, 11, 5, 4, 3, 1, 2, 10, 9, 7, 6, 8]⟩,
    ⟨some 141, .iaddr (.st (.cons (.int .i64) (.int .i64))), [.t 139, .t 140], some (12, 138, true), [13, 12, 11, 5, 4, 3, 1, 2, 10, 9, 7, 6, 8, 14]⟩,
    ⟨some 142, .faddr 1 (.int .i64), [.t 141], some (12, 138, true), [15, 13, 12, 11, 5, 4, 3, 1, 2, 10, 9, 7, 6, 8, 14]⟩,
    ⟨some 143, .load (.int .i64), [.t 142], some (12, 138, true), [16, 15, 13, 12, 11, 5, 4, 3, 1, 2, 10, 9, 7, 6, 8, 14]⟩,
    ⟨some 144, .faddr 3 (.sl (.int .i64)), [.t 6], some (12, 138, true), [12, 11, 5, 4, 3, 1, 2, 10, 9, 7, 6, 8]⟩,
    ⟨some 145, .load (.sl (.int .i64)), [.t 144], some (12, 138, true), [18, 12, 11, 5, 4, 3, 1, 2, 10, 9, 7, 6, 8]⟩,
    ⟨some 146, .mv, [.t 12], some (12, 138, true), [12, 11, 5, 4, 3, 1, 2, 10, 9, 7, 6, 8]⟩,
    ⟨some 147, .iaddr (.int .i64), [.t 145, .t 146], some (12, 138, true), [19, 18, 12, 11, 5, 4, 3, 1, 2, 10, 9, 7, 6, 8, 20]⟩,
    ⟨some 148, .load (.int .i64), [.t 147], some (12, 138, true), [21, 19, 18, 12, 11, 5, 4, 3, 1, 2, 10, 9, 7, 6, 8, 20]⟩,
    ⟨some 149, .bin .leq, [.t 143, .t 148], some (12, 138, true), [17, 16, 15, 13, 12, 11, 5, 4, 3, 1, 2, 10, 9, 7, 6, 8, 14, 22, 21, 19, 18, 20]⟩,
    ⟨some 150, .pick, [.t 138, .t 149, .bool false], none, [12, 11, 5, 4, 3, 1, 2, 10, 9, 7, 6, 8, 23, 17, 16, 15, 13, 14, 22, 21, 19, 18, 20]⟩,
    ⟨some 151, .beq true .bool, [.t 126, .t 150], none, [0, 24, 12, 11, 5, 4, 3, 1, 2, 10, 9, 7, 6, 8, 23, 17, 16, 15, 13, 14, 22, 21, 19, 18, 20]⟩])
  (.cond (.t 151)
   (.seq (.reg false [
     ⟨some 4, .mv, [.bool false], none, []⟩])
   .ret)
   .skip))
  (.clean (.seq (.seq (.reg false [
    ⟨some 152, .mv, [.t 13], none, []⟩])
  (.cond (.t 152)
   (.seq (.reg false [
     ⟨some 153, .mv, [.t 9], none, []⟩,
     ⟨some 154, .mv, [.t 12], none, []⟩,
     ⟨some 155, .iaddr (.int .i64), [.t 153, .t 154], none, []⟩,
     ⟨some 156, .load (.int .i64), [.t 155], none, []⟩,
     ⟨some 157, .bin .add, [.t 156, .int .i64 1], none, []⟩,
     ⟨some 158, .iaddr (.int .i64), [.t 153, .t 154], none, []⟩,
     ⟨none, .store (.int .i64), [.t 158, .t 157], none, []⟩])
   (.exit 1))
   .skip))
  (.clean (.seq (.seq (.reg false [
    ⟨some 159, .mv, [.t 10], none, []⟩,
    ⟨some 160, .mv, [.t 7], none, []⟩,
    ⟨some 161, .len false, [.t 160], none, []⟩,
    ⟨some 162, .bin .geq, [.t 159, .t 161], none, []⟩])
  (.cond (.t 162)
   (.seq (.reg false [
     ⟨some 4, .mv, [.bool false], none, []⟩])
   .ret)
   .skip))
  (.clean (.seq (.seq (.reg false [
    ⟨some 163, .mv, [.t 7], none, []⟩,
    ⟨some 164, .mv, [.t 10], none, []⟩,
    ⟨some 165, .iaddr (.int .i64), [.t 163, .t 164], none, []⟩,
    ⟨some 166, .load (.int .i64), [.t 165], none, []⟩,
    ⟨some 167, .mv, [.t 11], none, []⟩,
    ⟨some 168, .bin .neq, [.t 166, .t 167], none, []⟩])
  (.cond (.t 168)
   (.seq (.reg false [
     ⟨some 4, .mv, [.bool false], none, []⟩])
   .ret)
   .skip))
  (.clean (.reg false [
    ⟨some 169, .mv, [.t 10], none, []⟩,
    ⟨some 170, .bin .add, [.t 169, .int .i64 1], none, []⟩,
    ⟨some 10, .mv, [.t 170], none, []⟩]))))))))))))))
 (.clean (.reg false [
   ⟨some 93, .mv, [.t 11], none, []⟩,
   ⟨some 94, .bin .add, [.t 93, .int .i64 1], none, []⟩,
   ⟨some 11, .mv, [.t 94], none, []⟩]))))
def x4_0d : List Nat := [4, 10, 11, 12, 13]
def x4_1 : XC := (.seq (.seq (.reg false [
   ⟨some 171, .mv, [.t 14], none, []⟩,
   ⟨some 172, .bin .lss, [.t 171, .int .i64 24], none, []⟩])
 (.cond (.t 172)
  .skip
  (.exit 2)))
 (.seq (.block 3 (.seq (.reg true [
    ⟨some 175, .faddr 2 (.sl (.int .i64)), [.t 6], none, []⟩,
    ⟨some 176, .load (.sl (.int .i64)), [.t 175], none, [0]⟩,
    ⟨some 177, .mv, [.t 14], none, []⟩,
    ⟨some 178, .iaddr (.int .i64), [.t 176, .t 177], none, [1, 0, 2]⟩,
    ⟨some 179, .load (.int .i64), [.t 178], none, [3, 1, 0, 2]⟩,
    ⟨some 180, .faddr 2 (.sl (.int .i64)), [.t 2], none, []⟩,
    ⟨some 181, .load (.sl (.int .i64)), [.t 180], none, [5]⟩,
    ⟨some 182, .mv, [.t 14], none, []⟩,
    ⟨some 183, .iaddr (.int .i64), [.t 181, .t 182], none, [6, 5, 7]⟩,
    ⟨some 184, .load (.int .i64), [.t 183], none, [8, 6, 5, 7]⟩,
    ⟨some 185, .bin .neq, [.t 179, .t 184], none, [4, 3, 1, 0, 2, 9, 8, 6, 5, 7]⟩,
    ⟨some 186, .mv, [.t 185], none, [10, 4, 3, 1, 0, 2, 9, 8, 6, 5, 7]⟩,
    ⟨some 187, .faddr 3 (.sl (.int .i64)), [.t 6], some (11, 186, false), [11, 10, 4, 3, 1, 0, 2, 9, 8, 6, 5, 7]⟩,
    ⟨some 188, .load (.sl (.int .i64)), [.t 187], some (11, 186, false), [12, 11, 10, 4, 3, 1, 0, 2, 9, 8, 6, 5, 7]⟩,
    ⟨some 189, .mv, [.t 14], some (11, 186, false), [11, 10, 4, 3, 1, 0, 2, 9, 8, 6, 5, 7]⟩,
    ⟨some 190, .iaddr (.int .i64), [.t 188, .t 189], some (11, 186, false), [13, 12, 11, 10, 4, 3, 1, 0, 2, 9, 8, 6, 5, 7, 14]⟩,
    ⟨some 191, .load (.int .i64), [.t 190], some (11, 186, false), [15, 13, 12, 11, 10, 4, 3, 1, 0, 2, 9, 8, 6, 5, 7, 14]⟩,
    ⟨some 192, .faddr 3 (.sl (.int .i64)), [.t 2], some (11, 186, false), [11, 10, 4, 3, 1, 0, 2, 9, 8, 6, 5, 7]⟩,
    ⟨some 193, .load (.sl (.int .i64)), [.t 192], some (11, 186, false), [17, 11, 10, 4, 3, 1, 0, 2, 9, 8, 6, 5, 7]⟩,
    ⟨some 194, .mv, [.t 14], some (11, 186, false), [11, 10, 4, 3, 1, 0, 2, 9, 8, 6, 5, 7]⟩,
    ⟨some 195, .iaddr (.int .i64), [.t 193, .t 194], some (11, 186, false), [18, 17, 11, 10, 4, 3, 1, 0, 2, 9, 8, 6, 5, 7, 19]⟩,
    ⟨some 196, .load (.int .i64), [.t 195], some (11, 186, false), [20, 18, 17, 11, 10, 4, 3, 1, 0, 2, 9, 8, 6, 5, 7, 19]⟩,
    ⟨some 197, .bin .neq, [.t 191, .t 196], some (11, 186, false), [16, 15, 13, 12, 11, 10, 4, 3, 1, 0, 2, 9, 8, 6, 5, 7, 14, 21, 20, 18, 17, 19]⟩,
    ⟨some 198, .pick, [.t 186, .bool true, .t 197], none, [11, 10, 4, 3, 1, 0, 2, 9, 8, 6, 5, 7, 22, 16, 15, 13, 12, 14, 21, 20, 18, 17, 19]⟩,
    ⟨some 15, .mv, [.t 198], none, [23, 11, 10, 4, 3, 1, 0, 2, 9, 8, 6, 5, 7, 22, 16, 15, 13, 12, 14, 21, 20, 18, 17, 19]⟩])
  (.clean (.seq (.reg true [
    ⟨some 199, .faddr 2 (.sl (.int .i64)), [.t 6], none, []⟩,
    ⟨some 200, .load (.sl (.int .i64)), [.t 199], none, [0]⟩,
    ⟨some 201, .mv, [.t 14], none, []⟩,
    ⟨some 202, .iaddr (.int .i64), [.t 200, .t 201], none, [1, 0, 2]⟩,
    ⟨some 203, .load (.int .i64), [.t 202], none, [3, 1, 0, 2]⟩,
    ⟨some 204, .faddr 2 (.sl (.int .i64)), [.t 2], none, []⟩,
    ⟨some 205, .load (.sl (.int .i64)), [.t 204], none, [5]⟩,
    ⟨some 206, .mv, [.t 14], none, []⟩,
    ⟨some 207, .iaddr (.int .i64), [.t 205, .t 206], none, [6, 5, 7]⟩,
    ⟨some 208, .load (.int .i64), [.t 207], none, [8, 6, 5, 7]⟩,
    ⟨some 209, .bin .lss, [.t 203, .t 208], none, [4, 3, 1, 0, 2, 9, 8, 6, 5, 7]⟩,
    ⟨some 210, .mv, [.t 209], none, [10, 4, 3, 1, 0, 2, 9, 8, 6, 5, 7]⟩,
    ⟨some 211, .faddr 3 (.sl (.int .i64)), [.t 6], some (11, 210, false), [11, 10, 4, 3, 1, 0, 2, 9, 8, 6, 5, 7]⟩,
    ⟨some 212, .load (.sl (.int .i64)), [.t 211], some (11, 210, false), [12, 11, 10, 4, 3, 1, 0, 2, 9, 8, 6, 5, 7]⟩,
    ⟨some 213, .mv, [.t 14], some (11, 210, false), [11, 10, 4, 3, 1, 0, 2, 9, 8, 6, 5, 7]⟩,
    ⟨some 214, .iaddr (.int .i64), [.t 212, .t 213], some (11, 210, false), [13, 12, 11, 10, 4, 3, 1, 0, 2, 9, 8, 6, 5, 7, 14]⟩,
    ⟨some 215, .load (.int .i64), [.t 214], some (11, 210, false), [15, 13, 12, 11, 10, 4, 3, 1, 0, 2, 9, 8, 6, 5, 7, 14]⟩,
    ⟨some 216, .faddr 3 (.sl (.int .i64)), [.t 2], some (11, 210, false), [11, 10, 4, 3, 1, 0, 2, 9, 8, 6, 5, 7]⟩,
    ⟨some 217, .load (.sl (.int .i64)), [.t 216], some (11, 210, false), [17, 11, 10, 4, 3, 1, 0, 2, 9, 8, 6, 5, 7]⟩,
    ⟨some 218, .mv, [.t 14], some (11, 210, false), [11, 10, 4, 3, 1, 0, 2, 9, 8, 6, 5, 7]⟩,
    ⟨some 219, .iaddr (.int .i64), [.t 217, .t 218], some (11, 210, false), [18, 17, 11, 10, 4, 3, 1, 0, 2, 9, 8, 6, 5, 7, 19]⟩,
    ⟨some 220, .load (.int .i64), [.t 219], some (11, 210, false), [20, 18, 17, 11, 10, 4, 3, 1, 0, 2, 9, 8, 6, 5, 7, 19]⟩,
    ⟨some 221, .bin .gtr, [.t 215, .t 220], some (11, 210, false), [16, 15, 13, 12, 11, 10, 4, 3, 1, 0, 2, 9, 8, 6, 5, 7, 14, 21, 20, 18, 17, 19]⟩,
    ⟨some 222, .pick, [.t 210, .bool true, .t 221], none, [11, 10, 4, 3, 1, 0, 2, 9, 8, 6, 5, 7, 22, 16, 15, 13, 12, 14, 21, 20, 18, 17, 19]⟩,
    ⟨some 223, .mv, [.t 222], none, [23, 11, 10, 4, 3, 1, 0, 2, 9, 8, 6, 5, 7, 22, 16, 15, 13, 12, 14, 21, 20, 18, 17, 19]⟩,
    ⟨some 224, .mv, [.t 15], some (24, 223, false), [24, 23, 11, 10, 4, 3, 1, 0, 2, 9, 8, 6, 5, 7, 22, 16, 15, 13, 12, 14, 21, 20, 18, 17, 19]⟩,
    ⟨some 225, .mv, [.t 224], some (24, 223, false), [25, 24, 23, 11, 10, 4, 3, 1, 0, 2, 9, 8, 6, 5, 7, 22, 16, 15, 13, 12, 14, 21, 20, 18, 17, 19]⟩,
    ⟨some 226, .mv, [.t 9], some (26, 225, true), [26, 25, 24, 23, 11, 10, 4, 3, 1, 0, 2, 9, 8, 6, 5, 7, 22, 16, 15, 13, 12, 14, 21, 20, 18, 17, 19]⟩,
    ⟨some 227, .mv, [.t 14], some (26, 225, true), [26, 25, 24, 23, 11, 10, 4, 3, 1, 0, 2, 9, 8, 6, 5, 7, 22, 16, 15, 13, 12, 14, 21, 20, 18, 17, 19]⟩,
    ⟨some 228, .iaddr (.int .i64), [.t 226, .t 227], some (26, 225, true), [27, 26, 25, 24, 23, 11, 10, 4, 3, 1, 0, 2, 9, 8, 6, 5, 7, 22, 16, 15, 13, 12, 14, 21, 20, 18, 17, 19, 28]⟩,
    ⟨some 229, .load (.int .i64), [.t 228], some (26, 225, true), [29, 27, 26, 25, 24, 23, 11, 10, 4, 3, 1, 0, 2, 9, 8, 6, 5, 7, 22, 16, 15, 13, 12, 14, 21, 20, 18, 17, 19, 28]⟩,
    ⟨some 230, .bin .lss, [.t 229, .int .i64 5], some (26, 225, true), [30, 29, 27, 26, 25, 24, 23, 11, 10, 4, 3, 1, 0, 2, 9, 8, 6, 5, 7, 22, 16, 15, 13, 12, 14, 21, 20, 18, 17, 19, 28]⟩,
    ⟨some 231, .pick, [.t 225, .t 230, .bool false], some (24, 223, false), [26, 25, 24, 23, 11, 10, 4, 3, 1, 0, 2, 9, 8, 6, 5, 7, 22, 16, 15, 13, 12, 14, 21, 20, 18, 17, 19, 31, 30, 29, 27, 28]⟩,
    ⟨some 232, .pick, [.t 223, .bool true, .t 231], none, [24, 23, 11, 10, 4, 3, 1, 0, 2, 9, 8, 6, 5, 7, 22, 16, 15, 13, 12, 14, 21, 20, 18, 17, 19, 32, 26, 25, 31, 30, 29, 27, 28]⟩])
  (.cond (.t 232)
   (.seq (.reg false [
     ⟨some 4, .mv, [.bool false], none, []⟩])
   .ret)
   .skip)))))
 (.clean (.reg false [
   ⟨some 173, .mv, [.t 14], none, []⟩,
   ⟨some 174, .bin .add, [.t 173, .int .i64 1], none, []⟩,
   ⟨some 14, .mv, [.t 174], none, []⟩]))))
def x4_1d : List Nat := [4, 14, 15]
def x4 : XF := ⟨240, [.tmp 4], [0, 1, 2, 4, 5, 6, 7, 8, 9, 10, 11, 12, 13, 14, 15],
 (.seq (.reg false [
   ⟨some 2, .box 24, [.t 0], none, []⟩,
   ⟨some 4, .mv, [.bool false], none, []⟩])
 (.seq (.reg false [
   ⟨some 16, .call 8, [], none, []⟩,
   ⟨some 5, .mv, [.t 16], none, []⟩])
 (.seq (.seq (.reg false [
   ⟨some 17, .load (.st (.cons (.int .i64) (.cons (.int .i64) (.cons (.sl (.int .i64)) (.sl (.int .i64)))))), [.t 2], none, []⟩,
   ⟨some 18, .mv, [.t 1], none, []⟩,
   ⟨some 19, .call 9, [.t 17, .t 18], none, []⟩,
   ⟨some 20, .not, [.t 19], none, []⟩])
 (.cond (.t 20)
  (.seq (.reg false [
    ⟨some 21, .mv, [.t 5], none, []⟩,
    ⟨some 4, .mv, [.t 21], none, []⟩])
  .ret)
  .skip))
 (.clean (.seq (.reg false [
   ⟨some 23, .load (.st (.cons (.int .i64) (.cons (.int .i64) (.cons (.sl (.int .i64)) (.sl (.int .i64)))))), [.t 2], none, []⟩,
   ⟨some 24, .mv, [.t 1], none, []⟩,
   ⟨some 25, .call 10, [.t 23, .t 24], none, []⟩,
   ⟨some 22, .mv, [.t 25], none, []⟩,
   ⟨some 26, .extract 0, [.t 22], none, []⟩,
   ⟨some 27, .extract 1, [.t 22], none, []⟩,
   ⟨some 28, .extract 2, [.t 22], none, []⟩,
   ⟨some 6, .alloc 24 (.st (.cons (.int .i64) (.cons (.int .i64) (.cons (.sl (.int .i64)) (.sl (.int .i64)))))), [], none, []⟩,
   ⟨none, .store (.st (.cons (.int .i64) (.cons (.int .i64) (.cons (.sl (.int .i64)) (.sl (.int .i64)))))), [.t 6, .t 26], none, []⟩,
   ⟨some 7, .mv, [.t 27], none, []⟩,
   ⟨some 8, .mv, [.t 28], none, []⟩])
 (.clean (.seq (.seq (.reg false [
   ⟨some 29, .mv, [.t 8], none, []⟩,
   ⟨some 30, .bin .neq, [.t 29, .int .i64 0], none, []⟩])
 (.cond (.t 30)
  (.seq (.reg false [
    ⟨some 31, .mv, [.t 5], none, []⟩,
    ⟨some 32, .mv, [.t 31], none, []⟩,
    ⟨some 33, .mv, [.t 8], some (1, 32, true), []⟩,
    ⟨some 34, .bin .eql, [.t 33, .int .i64 1], some (1, 32, true), []⟩,
    ⟨some 35, .pick, [.t 32, .t 34, .bool false], none, []⟩,
    ⟨some 36, .mv, [.t 35], none, []⟩,
    ⟨some 37, .load (.st (.cons (.int .i64) (.cons (.int .i64) (.cons (.sl (.int .i64)) (.sl (.int .i64)))))), [.t 2], some (5, 36, true), []⟩,
    ⟨some 38, .call 16, [.t 37], some (5, 36, true), []⟩,
    ⟨some 39, .not, [.t 38], some (5, 36, true), []⟩,
    ⟨some 40, .mv, [.t 39], some (5, 36, true), []⟩,
    ⟨some 41, .mv, [.t 1], some (9, 40, false), []⟩,
    ⟨some 42, .call 14, [.t 41], some (9, 40, false), []⟩,
    ⟨some 43, .not, [.t 42], some (9, 40, false), []⟩,
    ⟨some 44, .pick, [.t 40, .bool true, .t 43], some (5, 36, true), []⟩,
    ⟨some 45, .pick, [.t 36, .t 44, .bool false], none, []⟩,
    ⟨some 46, .mv, [.t 45], none, []⟩,
    ⟨some 47, .mv, [.t 7], some (15, 46, true), []⟩,
    ⟨some 48, .len false, [.t 47], some (15, 46, true), []⟩,
    ⟨some 49, .bin .eql, [.t 48, .int .i64 0], some (15, 46, true), []⟩,
    ⟨some 50, .pick, [.t 46, .t 49, .bool false], none, []⟩,
    ⟨some 51, .mv, [.t 50], none, []⟩,
    ⟨some 52, .faddr 2 (.sl (.int .i64)), [.t 6], some (20, 51, true), []⟩,
    ⟨some 53, .load (.sl (.int .i64)), [.t 52], some (20, 51, true), []⟩,
    ⟨some 54, .len false, [.t 53], some (20, 51, true), []⟩,
    ⟨some 55, .faddr 3 (.sl (.int .i64)), [.t 6], some (20, 51, true), []⟩,
    ⟨some 56, .load (.sl (.int .i64)), [.t 55], some (20, 51, true), []⟩,
    ⟨some 57, .len false, [.t 56], some (20, 51, true), []⟩,
    ⟨some 58, .bin .add, [.t 54, .t 57], some (20, 51, true), []⟩,
    ⟨some 59, .bin .eql, [.t 58, .int .i64 0], some (20, 51, true), []⟩,
    ⟨some 60, .pick, [.t 51, .t 59, .bool false], none, []⟩,
    ⟨some 4, .mv, [.t 60], none, []⟩])
  .ret)
  .skip))
 (.clean (.seq (.seq (.reg false [
   ⟨some 61, .load (.st (.cons (.int .i64) (.cons (.int .i64) (.cons (.sl (.int .i64)) (.sl (.int .i64)))))), [.t 6], none, []⟩,
   ⟨some 62, .call 16, [.t 61], none, []⟩,
   ⟨some 63, .not, [.t 62], none, []⟩,
   ⟨some 64, .mv, [.t 63], none, []⟩,
   ⟨some 65, .faddr 0 (.int .i64), [.t 6], some (3, 64, false), []⟩,
   ⟨some 66, .load (.int .i64), [.t 65], some (3, 64, false), []⟩,
   ⟨some 67, .faddr 0 (.int .i64), [.t 2], some (3, 64, false), []⟩,
   ⟨some 68, .load (.int .i64), [.t 67], some (3, 64, false), []⟩,
   ⟨some 69, .bin .neq, [.t 66, .t 68], some (3, 64, false), []⟩,
   ⟨some 70, .pick, [.t 64, .bool true, .t 69], none, []⟩,
   ⟨some 71, .mv, [.t 70], none, []⟩,
   ⟨some 72, .faddr 1 (.int .i64), [.t 6], some (10, 71, false), []⟩,
   ⟨some 73, .load (.int .i64), [.t 72], some (10, 71, false), []⟩,
   ⟨some 74, .faddr 1 (.int .i64), [.t 2], some (10, 71, false), []⟩,
   ⟨some 75, .load (.int .i64), [.t 74], some (10, 71, false), []⟩,
   ⟨some 76, .bin .neq, [.t 73, .t 75], some (10, 71, false), []⟩,
   ⟨some 77, .pick, [.t 71, .bool true, .t 76], none, []⟩,
   ⟨some 78, .mv, [.t 77], none, []⟩,
   ⟨some 79, .load (.st (.cons (.int .i64) (.cons (.int .i64) (.cons (.sl (.int .i64)) (.sl (.int .i64)))))), [.t 2], some (17, 78, false), []⟩,
   ⟨some 80, .call 16, [.t 79], some (17, 78, false), []⟩,
   ⟨some 81, .not, [.t 80], some (17, 78, false), []⟩,
   ⟨some 82, .pick, [.t 78, .bool true, .t 81], none, []⟩,
   ⟨some 83, .mv, [.t 82], none, []⟩,
   ⟨some 84, .mv, [.t 1], some (22, 83, false), []⟩,
   ⟨some 85, .call 14, [.t 84], some (22, 83, false), []⟩,
   ⟨some 86, .not, [.t 85], some (22, 83, false), []⟩,
   ⟨some 87, .pick, [.t 83, .bool true, .t 86], none, []⟩])
 (.cond (.t 87)
  (.seq (.reg false [
    ⟨some 4, .mv, [.bool false], none, []⟩])
  .ret)
  .skip))
 (.clean (.seq (.reg false [
   ⟨some 88, .mkslice 3 (.int .i64) 8, [.int .i64 24, .int .i64 24], none, []⟩,
   ⟨some 9, .mv, [.t 88], none, []⟩])
 (.seq (.reg false [
   ⟨some 10, .mv, [.int .i64 0], none, []⟩])
 (.seq (.seq (.reg false [
   ⟨some 11, .mv, [.int .i64 0], none, []⟩])
 (.block 0 (.loop x4_0)))
 (.clean (.seq (.seq (.reg false [
   ⟨some 14, .mv, [.int .i64 0], none, []⟩])
 (.block 2 (.loop x4_1)))
 (.clean (.seq (.reg false [
   ⟨some 233, .mv, [.t 5], none, []⟩,
   ⟨some 234, .mv, [.t 233], none, []⟩,
   ⟨some 235, .mv, [.t 10], some (1, 234, true), []⟩,
   ⟨some 236, .mv, [.t 7], some (1, 234, true), []⟩,
   ⟨some 237, .len false, [.t 236], some (1, 234, true), []⟩,
   ⟨some 238, .bin .eql, [.t 235, .t 237], some (1, 234, true), []⟩,
   ⟨some 239, .pick, [.t 234, .t 238, .bool false], none, []⟩,
   ⟨some 4, .mv, [.t 239], none, []⟩])
 .ret)))))))))))))))))⟩
/- 0=a 1=l 2=a 4= 5=head 6=b 7=strays 8=e 9=many 10=at 11=i 12=h 13=inside 14=h 15=changed -/
/-! tonneau/tonneaulaw14.GaugeOrder -/
def x5 : XF := ⟨95, [.tmp 6], [0, 1, 2, 3, 6, 7, 8, 9, 10, 11, 12, 14, 15, 16, 17],
 (.seq (.reg false [
   ⟨some 3, .box 24, [.t 0], none, []⟩,
   ⟨some 6, .mv, [.bool false], none, []⟩])
 (.seq (.reg false [
   ⟨some 18, .call 8, [], none, []⟩,
   ⟨some 7, .mv, [.t 18], none, []⟩])
 (.seq (.seq (.reg false [
   ⟨some 19, .load (.st (.cons (.int .i64) (.cons (.int .i64) (.cons (.sl (.int .i64)) (.sl (.int .i64)))))), [.t 3], none, []⟩,
   ⟨some 20, .mv, [.t 1], none, []⟩,
   ⟨some 21, .call 9, [.t 19, .t 20], none, []⟩,
   ⟨some 22, .not, [.t 21], none, []⟩,
   ⟨some 23, .mv, [.t 22], none, []⟩,
   ⟨some 24, .mv, [.t 1], some (4, 23, false), []⟩,
   ⟨some 25, .len false, [.t 24], some (4, 23, false), []⟩,
   ⟨some 26, .bin .gtr, [.t 25, .int .i64 30], some (4, 23, false), []⟩,
   ⟨some 27, .pick, [.t 23, .bool true, .t 26], none, []⟩,
   ⟨some 28, .mv, [.t 27], none, []⟩,
   ⟨some 29, .mv, [.t 1], some (9, 28, false), []⟩,
   ⟨some 30, .len false, [.t 29], some (9, 28, false), []⟩,
   ⟨some 31, .bin .eql, [.t 30, .int .i64 0], some (9, 28, false), []⟩,
   ⟨some 32, .pick, [.t 28, .bool true, .t 31], none, []⟩])
 (.cond (.t 32)
  (.seq (.reg false [
    ⟨some 33, .mv, [.t 7], none, []⟩,
    ⟨some 6, .mv, [.t 33], none, []⟩])
  .ret)
  .skip))
 (.clean (.seq (.reg false [
   ⟨some 35, .load (.st (.cons (.int .i64) (.cons (.int .i64) (.cons (.sl (.int .i64)) (.sl (.int .i64)))))), [.t 3], none, []⟩,
   ⟨some 36, .mv, [.t 1], none, []⟩,
   ⟨some 37, .call 10, [.t 35, .t 36], none, []⟩,
   ⟨some 34, .mv, [.t 37], none, []⟩,
   ⟨some 38, .extract 0, [.t 34], none, []⟩,
   ⟨some 39, .extract 1, [.t 34], none, []⟩,
   ⟨some 40, .extract 2, [.t 34], none, []⟩,
   ⟨some 8, .alloc 24 (.st (.cons (.int .i64) (.cons (.int .i64) (.cons (.sl (.int .i64)) (.sl (.int .i64)))))), [], none, []⟩,
   ⟨none, .store (.st (.cons (.int .i64) (.cons (.int .i64) (.cons (.sl (.int .i64)) (.sl (.int .i64)))))), [.t 8, .t 38], none, []⟩,
   ⟨some 9, .mv, [.t 39], none, []⟩,
   ⟨some 10, .mv, [.t 40], none, []⟩])
 (.clean (.seq (.seq (.reg false [
   ⟨some 41, .mv, [.t 10], none, []⟩,
   ⟨some 42, .bin .neq, [.t 41, .int .i64 0], none, []⟩])
 (.cond (.t 42)
  (.seq (.reg false [
    ⟨some 43, .mv, [.t 7], none, []⟩,
    ⟨some 6, .mv, [.t 43], none, []⟩])
  .ret)
  .skip))
 (.seq (.reg false [
   ⟨some 44, .mv, [.t 2], none, []⟩,
   ⟨some 45, .conv .i64, [.t 44], none, []⟩,
   ⟨some 46, .mv, [.t 1], none, []⟩,
   ⟨some 47, .len false, [.t 46], none, []⟩,
   ⟨some 48, .bin .rem, [.t 45, .t 47], none, []⟩,
   ⟨some 11, .mv, [.t 48], none, []⟩])
 (.clean (.seq (.reg true [
   ⟨some 50, .load (.st (.cons (.int .i64) (.cons (.int .i64) (.cons (.sl (.int .i64)) (.sl (.int .i64)))))), [.t 3], none, []⟩,
   ⟨some 51, .bslice 36 (.st (.cons (.int .i64) (.int .i64))) 0 [], [], none, []⟩,
   ⟨some 52, .mv, [.t 1], none, []⟩,
   ⟨some 53, .mv, [.t 11], none, []⟩,
   ⟨some 54, .slice (.st (.cons (.int .i64) (.int .i64))) true false, [.t 52, .t 53], none, [2, 3]⟩,
   ⟨some 55, .append 36 (.st (.cons (.int .i64) (.int .i64))) 16, [.t 51, .t 54], none, [1, 4, 2, 3]⟩,
   ⟨some 56, .mv, [.t 1], none, []⟩,
   ⟨some 57, .mv, [.t 11], none, []⟩,
   ⟨some 58, .slice (.st (.cons (.int .i64) (.int .i64))) false true, [.t 56, .t 57], none, [6, 7]⟩,
   ⟨some 59, .append 36 (.st (.cons (.int .i64) (.int .i64))) 16, [.t 55, .t 58], none, [5, 1, 4, 2, 3, 8, 6, 7]⟩,
   ⟨some 60, .call 10, [.t 50, .t 59], none, [0, 9, 5, 1, 4, 2, 3, 8, 6, 7]⟩,
   ⟨some 49, .mv, [.t 60], none, [10, 0, 9, 5, 1, 4, 2, 3, 8, 6, 7]⟩,
   ⟨some 61, .extract 0, [.t 49], none, [11, 10, 0, 9, 5, 1, 4, 2, 3, 8, 6, 7]⟩,
   ⟨some 62, .extract 1, [.t 49], none, [11, 10, 0, 9, 5, 1, 4, 2, 3, 8, 6, 7]⟩,
   ⟨some 63, .extract 2, [.t 49], none, [11, 10, 0, 9, 5, 1, 4, 2, 3, 8, 6, 7]⟩,
   ⟨some 12, .alloc 24 (.st (.cons (.int .i64) (.cons (.int .i64) (.cons (.sl (.int .i64)) (.sl (.int .i64)))))), [], none, []⟩,
   ⟨none, .store (.st (.cons (.int .i64) (.cons (.int .i64) (.cons (.sl (.int .i64)) (.sl (.int .i64)))))), [.t 12, .t 61], none, [15, 12, 11, 10, 0, 9, 5, 1, 4, 2, 3, 8, 6, 7]⟩,
   ⟨some 13, .mv, [.t 62], none, [13, 11, 10, 0, 9, 5, 1, 4, 2, 3, 8, 6, 7, 16, 15, 12]⟩,
   ⟨some 14, .mv, [.t 63], none, [14, 11, 10, 0, 9, 5, 1, 4, 2, 3, 8, 6, 7, 17, 13, 16, 15, 12]⟩])
 (.clean (.seq (.reg false [
   ⟨some 65, .load (.st (.cons (.int .i64) (.cons (.int .i64) (.cons (.sl (.int .i64)) (.sl (.int .i64)))))), [.t 8], none, []⟩,
   ⟨some 66, .mv, [.t 1], none, []⟩,
   ⟨some 67, .call 10, [.t 65, .t 66], none, []⟩,
   ⟨some 64, .mv, [.t 67], none, []⟩,
   ⟨some 68, .extract 0, [.t 64], none, []⟩,
   ⟨some 69, .extract 1, [.t 64], none, []⟩,
   ⟨some 70, .extract 2, [.t 64], none, []⟩,
   ⟨some 15, .alloc 24 (.st (.cons (.int .i64) (.cons (.int .i64) (.cons (.sl (.int .i64)) (.sl (.int .i64)))))), [], none, []⟩,
   ⟨none, .store (.st (.cons (.int .i64) (.cons (.int .i64) (.cons (.sl (.int .i64)) (.sl (.int .i64)))))), [.t 15, .t 68], none, []⟩,
   ⟨some 16, .mv, [.t 69], none, []⟩,
   ⟨some 17, .mv, [.t 70], none, []⟩])
 (.clean (.seq (.reg false [
   ⟨some 71, .mv, [.t 7], none, []⟩,
   ⟨some 72, .mv, [.t 71], none, []⟩,
   ⟨some 73, .mv, [.t 14], some (1, 72, true), []⟩,
   ⟨some 74, .bin .eql, [.t 73, .int .i64 0], some (1, 72, true), []⟩,
   ⟨some 75, .pick, [.t 72, .t 74, .bool false], none, []⟩,
   ⟨some 76, .mv, [.t 75], none, []⟩,
   ⟨some 77, .mv, [.t 17], some (5, 76, true), []⟩,
   ⟨some 78, .bin .eql, [.t 77, .int .i64 0], some (5, 76, true), []⟩,
   ⟨some 79, .pick, [.t 76, .t 78, .bool false], none, []⟩,
   ⟨some 80, .mv, [.t 79], none, []⟩,
   ⟨some 81, .load (.st (.cons (.int .i64) (.cons (.int .i64) (.cons (.sl (.int .i64)) (.sl (.int .i64)))))), [.t 8], some (9, 80, true), []⟩,
   ⟨some 82, .load (.st (.cons (.int .i64) (.cons (.int .i64) (.cons (.sl (.int .i64)) (.sl (.int .i64)))))), [.t 12], some (9, 80, true), []⟩,
   ⟨some 83, .call 12, [.t 81, .t 82], some (9, 80, true), []⟩,
   ⟨some 84, .pick, [.t 80, .t 83, .bool false], none, []⟩,
   ⟨some 85, .mv, [.t 84], none, []⟩,
   ⟨some 86, .load (.st (.cons (.int .i64) (.cons (.int .i64) (.cons (.sl (.int .i64)) (.sl (.int .i64)))))), [.t 8], some (14, 85, true), []⟩,
   ⟨some 87, .load (.st (.cons (.int .i64) (.cons (.int .i64) (.cons (.sl (.int .i64)) (.sl (.int .i64)))))), [.t 15], some (14, 85, true), []⟩,
   ⟨some 88, .call 12, [.t 86, .t 87], some (14, 85, true), []⟩,
   ⟨some 89, .pick, [.t 85, .t 88, .bool false], none, []⟩,
   ⟨some 90, .mv, [.t 89], none, []⟩,
   ⟨some 91, .mv, [.t 9], some (19, 90, true), []⟩,
   ⟨some 92, .mv, [.t 16], some (19, 90, true), []⟩,
   ⟨some 93, .call 13, [.t 91, .t 92], some (19, 90, true), []⟩,
   ⟨some 94, .pick, [.t 90, .t 93, .bool false], none, []⟩,
   ⟨some 6, .mv, [.t 94], none, []⟩])
 .ret))))))))))))))⟩
/- 0=a 1=l 2=by 3=a 6= 7=head 8=b 9=strays 10=e 11=k 12=c 14=f 15=d 16=again 17=g -/
/-! tonneau/tonneaulaw14.GaugeMore -/
def x6_0 : XC := (.seq (.seq (.reg false [
   ⟨some 92, .mv, [.t 18], none, []⟩,
   ⟨some 93, .mv, [.t 1], none, []⟩,
   ⟨some 94, .len false, [.t 93], none, []⟩,
   ⟨some 95, .bin .lss, [.t 92, .t 94], none, []⟩])
 (.cond (.t 95)
  .skip
  (.exit 0)))
 (.seq (.block 1 (.seq (.reg false [
    ⟨some 98, .mv, [.t 1], none, []⟩,
    ⟨some 99, .mv, [.t 18], none, []⟩,
    ⟨some 100, .iaddr (.st (.cons (.int .i64) (.int .i64))), [.t 98, .t 99], none, []⟩,
    ⟨some 101, .faddr 0 (.int .i64), [.t 100], none, []⟩,
    ⟨some 102, .load (.int .i64), [.t 101], none, []⟩,
    ⟨some 103, .bin .quo, [.t 102, .int .i64 60], none, []⟩,
    ⟨some 104, .bin .rem, [.t 103, .int .i64 24], none, []⟩,
    ⟨some 19, .mv, [.t 104], none, []⟩])
  (.clean (.seq (.reg true [
    ⟨some 105, .mv, [.t 1], none, []⟩,
    ⟨some 106, .mv, [.t 18], none, []⟩,
    ⟨some 107, .iaddr (.st (.cons (.int .i64) (.int .i64))), [.t 105, .t 106], none, [0, 1]⟩,
    ⟨some 108, .faddr 1 (.int .i64), [.t 107], none, [2, 0, 1]⟩,
    ⟨some 109, .load (.int .i64), [.t 108], none, [3, 2, 0, 1]⟩,
    ⟨some 110, .faddr 2 (.sl (.int .i64)), [.t 3], none, []⟩,
    ⟨some 111, .load (.sl (.int .i64)), [.t 110], none, [5]⟩,
    ⟨some 112, .mv, [.t 19], none, []⟩,
    ⟨some 113, .iaddr (.int .i64), [.t 111, .t 112], none, [6, 5, 7]⟩,
    ⟨some 114, .load (.int .i64), [.t 113], none, [8, 6, 5, 7]⟩,
    ⟨some 115, .bin .geq, [.t 109, .t 114], none, [4, 3, 2, 0, 1, 9, 8, 6, 5, 7]⟩,
    ⟨some 116, .mv, [.t 115], none, [10, 4, 3, 2, 0, 1, 9, 8, 6, 5, 7]⟩,
    ⟨some 117, .mv, [.t 1], some (11, 116, true), [11, 10, 4, 3, 2, 0, 1, 9, 8, 6, 5, 7]⟩,
    ⟨some 118, .mv, [.t 18], some (11, 116, true), [11, 10, 4, 3, 2, 0, 1, 9, 8, 6, 5, 7]⟩,
    ⟨some 119, .iaddr (.st (.cons (.int .i64) (.int .i64))), [.t 117, .t 118], some (11, 116, true), [12, 11, 10, 4, 3, 2, 0, 1, 9, 8, 6, 5, 7, 13]⟩,
    ⟨some 120, .faddr 1 (.int .i64), [.t 119], some (11, 116, true), [14, 12, 11, 10, 4, 3, 2, 0, 1, 9, 8, 6, 5, 7, 13]⟩,
    ⟨some 121, .load (.int .i64), [.t 120], some (11, 116, true), [15, 14, 12, 11, 10, 4, 3, 2, 0, 1, 9, 8, 6, 5, 7, 13]⟩,
    ⟨some 122, .faddr 3 (.sl (.int .i64)), [.t 3], some (11, 116, true), [11, 10, 4, 3, 2, 0, 1, 9, 8, 6, 5, 7]⟩,
    ⟨some 123, .load (.sl (.int .i64)), [.t 122], some (11, 116, true), [17, 11, 10, 4, 3, 2, 0, 1, 9, 8, 6, 5, 7]⟩,
    ⟨some 124, .mv, [.t 19], some (11, 116, true), [11, 10, 4, 3, 2, 0, 1, 9, 8, 6, 5, 7]⟩,
    ⟨some 125, .iaddr (.int .i64), [.t 123, .t 124], some (11, 116, true), [18, 17, 11, 10, 4, 3, 2, 0, 1, 9, 8, 6, 5, 7, 19]⟩,
    ⟨some 126, .load (.int .i64), [.t 125], some (11, 116, true), [20, 18, 17, 11, 10, 4, 3, 2, 0, 1, 9, 8, 6, 5, 7, 19]⟩,
    ⟨some 127, .bin .leq, [.t 121, .t 126], some (11, 116, true), [16, 15, 14, 12, 11, 10, 4, 3, 2, 0, 1, 9, 8, 6, 5, 7, 13, 21, 20, 18, 17, 19]⟩,
    ⟨some 128, .pick, [.t 116, .t 127, .bool false], none, [11, 10, 4, 3, 2, 0, 1, 9, 8, 6, 5, 7, 22, 16, 15, 14, 12, 13, 21, 20, 18, 17, 19]⟩])
  (.cond (.t 128)
   (.reg false [
     ⟨some 129, .mv, [.t 17], none, []⟩,
     ⟨some 130, .mv, [.t 19], none, []⟩,
     ⟨some 131, .iaddr (.int .i64), [.t 129, .t 130], none, []⟩,
     ⟨some 132, .load (.int .i64), [.t 131], none, []⟩,
     ⟨some 133, .bin .add, [.t 132, .int .i64 1], none, []⟩,
     ⟨some 134, .iaddr (.int .i64), [.t 129, .t 130], none, []⟩,
     ⟨none, .store (.int .i64), [.t 134, .t 133], none, []⟩])
   .skip)))))
 (.clean (.reg false [
   ⟨some 96, .mv, [.t 18], none, []⟩,
   ⟨some 97, .bin .add, [.t 96, .int .i64 1], none, []⟩,
   ⟨some 18, .mv, [.t 97], none, []⟩]))))
def x6_0d : List Nat := [18, 19]
def x6_1 : XC := (.seq (.seq (.reg false [
   ⟨some 135, .mv, [.t 20], none, []⟩,
   ⟨some 136, .bin .lss, [.t 135, .int .i64 24], none, []⟩])
 (.cond (.t 136)
  .skip
  (.exit 2)))
 (.seq (.block 3 (.seq (.reg true [
    ⟨some 139, .mv, [.t 17], none, []⟩,
    ⟨some 140, .mv, [.t 20], none, []⟩,
    ⟨some 141, .iaddr (.int .i64), [.t 139, .t 140], none, [0, 1]⟩,
    ⟨some 142, .load (.int .i64), [.t 141], none, [2, 0, 1]⟩,
    ⟨some 143, .bin .geq, [.t 142, .int .i64 5], none, [3, 2, 0, 1]⟩,
    ⟨some 144, .mv, [.t 143], none, [4, 3, 2, 0, 1]⟩,
    ⟨some 145, .faddr 2 (.sl (.int .i64)), [.t 11], some (5, 144, true), [5, 4, 3, 2, 0, 1]⟩,
    ⟨some 146, .load (.sl (.int .i64)), [.t 145], some (5, 144, true), [6, 5, 4, 3, 2, 0, 1]⟩,
    ⟨some 147, .mv, [.t 20], some (5, 144, true), [5, 4, 3, 2, 0, 1]⟩,
    ⟨some 148, .iaddr (.int .i64), [.t 146, .t 147], some (5, 144, true), [7, 6, 5, 4, 3, 2, 0, 1, 8]⟩,
    ⟨some 149, .load (.int .i64), [.t 148], some (5, 144, true), [9, 7, 6, 5, 4, 3, 2, 0, 1, 8]⟩,
    ⟨some 150, .faddr 2 (.sl (.int .i64)), [.t 8], some (5, 144, true), [5, 4, 3, 2, 0, 1]⟩,
    ⟨some 151, .load (.sl (.int .i64)), [.t 150], some (5, 144, true), [11, 5, 4, 3, 2, 0, 1]⟩,
    ⟨some 152, .mv, [.t 20], some (5, 144, true), [5, 4, 3, 2, 0, 1]⟩,
    ⟨some 153, .iaddr (.int .i64), [.t 151, .t 152], some (5, 144, true), [12, 11, 5, 4, 3, 2, 0, 1, 13]⟩,
    ⟨some 154, .load (.int .i64), [.t 153], some (5, 144, true), [14, 12, 11, 5, 4, 3, 2, 0, 1, 13]⟩,
    ⟨some 155, .bin .gtr, [.t 149, .t 154], some (5, 144, true), [10, 9, 7, 6, 5, 4, 3, 2, 0, 1, 8, 15, 14, 12, 11, 13]⟩,
    ⟨some 156, .mv, [.t 155], some (5, 144, true), [16, 10, 9, 7, 6, 5, 4, 3, 2, 0, 1, 8, 15, 14, 12, 11, 13]⟩,
    ⟨some 157, .faddr 3 (.sl (.int .i64)), [.t 11], some (17, 156, false), [17, 16, 10, 9, 7, 6, 5, 4, 3, 2, 0, 1, 8, 15, 14, 12, 11, 13]⟩,
    ⟨some 158, .load (.sl (.int .i64)), [.t 157], some (17, 156, false), [18, 17, 16, 10, 9, 7, 6, 5, 4, 3, 2, 0, 1, 8, 15, 14, 12, 11, 13]⟩,
    ⟨some 159, .mv, [.t 20], some (17, 156, false), [17, 16, 10, 9, 7, 6, 5, 4, 3, 2, 0, 1, 8, 15, 14, 12, 11, 13]⟩,
    ⟨some 160, .iaddr (.int .i64), [.t 158, .t 159], some (17, 156, false), [19, 18, 17, 16, 10, 9, 7, 6, 5, 4, 3, 2, 0, 1, 8, 15, 14, 12, 11, 13, 20]⟩,
    ⟨some 161, .load (.int .i64), [.t 160], some (17, 156, false), [21, 19, 18, 17, 16, 10, 9, 7, 6, 5, 4, 3, 2, 0, 1, 8, 15, 14, 12, 11, 13, 20]⟩,
    ⟨some 162, .faddr 3 (.sl (.int .i64)), [.t 8], some (17, 156, false), [17, 16, 10, 9, 7, 6, 5, 4, 3, 2, 0, 1, 8, 15, 14, 12, 11, 13]⟩,
    ⟨some 163, .load (.sl (.int .i64)), [.t 162], some (17, 156, false), [23, 17, 16, 10, 9, 7, 6, 5, 4, 3, 2, 0, 1, 8, 15, 14, 12, 11, 13]⟩,
    ⟨some 164, .mv, [.t 20], some (17, 156, false), [17, 16, 10, 9, 7, 6, 5, 4, 3, 2, 0, 1, 8, 15, 14, 12, 11, 13]⟩,
    ⟨some 165, .iaddr (.int .i64), [.t 163, .t 164], some (17, 156, false), [24, 23, 17, 16, 10, 9, 7, 6, 5, 4, 3, 2, 0, 1, 8, 15, 14, 12, 11, 13, 25]⟩,
    ⟨some 166, .load (.int .i64), [.t 165], some (17, 156, false), [26, 24, 23, 17, 16, 10, 9, 7, 6, 5, 4, 3, 2, 0, 1, 8, 15, 14, 12, 11, 13, 25]⟩,
    ⟨some 167, .bin .lss, [.t 161, .t 166], some (17, 156, false), [22, 21, 19, 18, 17, 16, 10, 9, 7, 6, 5, 4, 3, 2, 0, 1, 8, 15, 14, 12, 11, 13, 20, 27, 26, 24, 23, 25]⟩,
    ⟨some 168, .pick, [.t 156, .bool true, .t 167], some (5, 144, true), [17, 16, 10, 9, 7, 6, 5, 4, 3, 2, 0, 1, 8, 15, 14, 12, 11, 13, 28, 22, 21, 19, 18, 20, 27, 26, 24, 23, 25]⟩,
    ⟨some 169, .pick, [.t 144, .t 168, .bool false], none, [5, 4, 3, 2, 0, 1, 29, 17, 16, 10, 9, 7, 6, 8, 15, 14, 12, 11, 13, 28, 22, 21, 19, 18, 20, 27, 26, 24, 23, 25]⟩,
    ⟨some 170, .mv, [.t 169], none, [30, 5, 4, 3, 2, 0, 1, 29, 17, 16, 10, 9, 7, 6, 8, 15, 14, 12, 11, 13, 28, 22, 21, 19, 18, 20, 27, 26, 24, 23, 25]⟩,
    ⟨some 171, .faddr 2 (.sl (.int .i64)), [.t 14], some (31, 170, false), [31, 30, 5, 4, 3, 2, 0, 1, 29, 17, 16, 10, 9, 7, 6, 8, 15, 14, 12, 11, 13, 28, 22, 21, 19, 18, 20, 27, 26, 24, 23, 25]⟩,
    ⟨some 172, .load (.sl (.int .i64)), [.t 171], some (31, 170, false), [32, 31, 30, 5, 4, 3, 2, 0, 1, 29, 17, 16, 10, 9, 7, 6, 8, 15, 14, 12, 11, 13, 28, 22, 21, 19, 18, 20, 27, 26, 24, 23, 25]⟩,
    ⟨some 173, .mv, [.t 20], some (31, 170, false), [31, 30, 5, 4, 3, 2, 0, 1, 29, 17, 16, 10, 9, 7, 6, 8, 15, 14, 12, 11, 13, 28, 22, 21, 19, 18, 20, 27, 26, 24, 23, 25]⟩,
    ⟨some 174, .iaddr (.int .i64), [.t 172, .t 173], some (31, 170, false), [33, 32, 31, 30, 5, 4, 3, 2, 0, 1, 29, 17, 16, 10, 9, 7, 6, 8, 15, 14, 12, 11, 13, 28, 22, 21, 19, 18, 20, 27, 26, 24, 23, 25, 34]⟩,
    ⟨some 175, .load (.int .i64), [.t 174], some (31, 170, false), [35, 33, 32, 31, 30, 5, 4, 3, 2, 0, 1, 29, 17, 16, 10, 9, 7, 6, 8, 15, 14, 12, 11, 13, 28, 22, 21, 19, 18, 20, 27, 26, 24, 23, 25, 34]⟩,
    ⟨some 176, .faddr 2 (.sl (.int .i64)), [.t 8], some (31, 170, false), [31, 30, 5, 4, 3, 2, 0, 1, 29, 17, 16, 10, 9, 7, 6, 8, 15, 14, 12, 11, 13, 28, 22, 21, 19, 18, 20, 27, 26, 24, 23, 25]⟩,
    ⟨some 177, .load (.sl (.int .i64)), [.t 176], some (31, 170, false), [37, 31, 30, 5, 4, 3, 2, 0, 1, 29, 17, 16, 10, 9, 7, 6, 8, 15, 14, 12, 11, 13, 28, 22, 21, 19, 18, 20, 27, 26, 24, 23, 25]⟩,
    ⟨some 178, .mv, [.t 20], some (31, 170, false), [31, 30, 5, 4, 3, 2, 0, 1, 29, 17, 16, 10, 9, 7, 6, 8, 15, 14, 12, 11, 13, 28, 22, 21, 19, 18, 20, 27, 26, 24, 23, 25]⟩,
    ⟨some 179, .iaddr (.int .i64), [.t 177, .t 178], some (31, 170, false), [38, 37, 31, 30, 5, 4, 3, 2, 0, 1, 29, 17, 16, 10, 9, 7, 6, 8, 15, 14, 12, 11, 13, 28, 22, 21, 19, 18, 20, 27, 26, 24, 23, 25, 39]⟩,
    ⟨some 180, .load (.int .i64), [.t 179], some (31, 170, false), [40, 38, 37, 31, 30, 5, 4, 3, 2, 0, 1, 29, 17, 16, 10, 9, 7, 6, 8, 15, 14, 12, 11, 13, 28, 22, 21, 19, 18, 20, 27, 26, 24, 23, 25, 39]⟩,
    ⟨some 181, .bin .lss, [.t 175, .t 180], some (31, 170, false), [36, 35, 33, 32, 31, 30, 5, 4, 3, 2, 0, 1, 29, 17, 16, 10, 9, 7, 6, 8, 15, 14, 12, 11, 13, 28, 22, 21, 19, 18, 20, 27, 26, 24, 23, 25, 34, 41, 40, 38, 37, 39]⟩,
    ⟨some 182, .pick, [.t 170, .bool true, .t 181], none, [31, 30, 5, 4, 3, 2, 0, 1, 29, 17, 16, 10, 9, 7, 6, 8, 15, 14, 12, 11, 13, 28, 22, 21, 19, 18, 20, 27, 26, 24, 23, 25, 42, 36, 35, 33, 32, 34, 41, 40, 38, 37, 39]⟩,
    ⟨some 183, .mv, [.t 182], none, [43, 31, 30, 5, 4, 3, 2, 0, 1, 29, 17, 16, 10, 9, 7, 6, 8, 15, 14, 12, 11, 13, 28, 22, 21, 19, 18, 20, 27, 26, 24, 23, 25, 42, 36, 35, 33, 32, 34, 41, 40, 38, 37, 39]⟩,
    ⟨some 184, .faddr 3 (.sl (.int .i64)), [.t 14], some (44, 183, false), [44, 43, 31, 30, 5, 4, 3, 2, 0, 1, 29, 17, 16, 10, 9, 7, 6, 8, 15, 14, 12, 11, 13, 28, 22, 21, 19, 18, 20, 27, 26, 24, 23, 25, 42, 36, 35, 33, 32, 34, 41, 40, 38, 37, 39]⟩,
    ⟨some 185, .load (.sl (.int .i64)), [.t 184], some (44, 183, false), [45, 44, 43, 31, 30, 5, 4, 3, 2, 0, 1, 29, 17, 16, 10, 9, 7, 6, 8, 15, 14, 12, 11, 13, 28, 22, 21, 19, 18, 20, 27, 26, 24, 23, 25, 42, 36, 35, 33, 32, 34, 41, 40, 38, 37, 39]⟩,
    ⟨some 186, .mv, [.t 20], some (44, 183, false), [44, 43, 31, 30, 5, 4, 3, 2, 0, 1, 29, 17, 16, 10, 9, 7, 6, 8, 15, 14, 12, 11, 13, 28, 22, 21, 19, 18, 20, 27, 26, 24, 23, 25, 42, 36, 35, 33, 32, 34, 41, 40, 38, 37, 39]⟩,
    ⟨some 187, .iaddr (.int .i64), [.t 185, .t 186], some (44, 183, false), [46, 45, 44, 43, 31, 30, 5, 4, 3, 2, 0, 1, 29, 17, 16, 10, 9, 7, 6, 8, 15, 14, 12, 11, 13, 28, 22, 21, 19, 18, 20, 27, 26, 24, 23, 25, 42, 36, 35, 33, 32, 34, 41, 40, 38, 37, 39, 47]⟩,
    ⟨some 188, .load (.int .i64), [.t 187], some (44, 183, false), [48, 46, 45, 44, 43, 31, 30, 5, 4, 3, 2, 0, 1, 29, 17, 16, 10, 9, 7, 6, 8, 15, 14, 12, 11, 13, 28, 22, 21, 19, 18, 20, 27, 26, 24, 23, 25, 42, 36, 35, 33, 32, 34, 41, 40, 38, 37, 39, 47]⟩,
    ⟨some 189, .faddr 3 (.sl (.int .i64)), [.t 8], some (44, 183, false), [44, 43, 31, 30, 5, 4, 3, 2, 0, 1, 29, 17, 16, 10, 9, 7, 6, 8, 15, 14, 12, 11, 13, 28, 22, 21, 19, 18, 20, 27, 26, 24, 23, 25, 42, 36, 35, 33, 32, 34, 41, 40, 38, 37, 39]⟩,
    ⟨some 190, .load (.sl (.int .i64)), [.t 189], some (44, 183, false), [50, 44, 43, 31, 30, 5, 4, 3, 2, 0, 1, 29, 17, 16, 10, 9, 7, 6, 8, 15, 14, 12, 11, 13, 28, 22, 21, 19, 18, 20, 27, 26, 24, 23, 25, 42, 36, 35, 33, 32, 34, 41, 40, 38, 37, 39]⟩,
    ⟨some 191, .mv, [.t 20], some (44, 183, false), [44, 43, 31, 30, 5, 4, 3, 2, 0, 1, 29, 17, 16, 10, 9, 7, 6, 8, 15, 14, 12, 11, 13, 28, 22, 21, 19, 18, 20, 27, 26, 24, 23, 25, 42, 36, 35, 33, 32, 34, 41, 40, 38, 37, 39]⟩,
    ⟨some 192, .iaddr (.int .i64), [.t 190, .t 191], some (44, 183, false), [51, 50, 44, 43, 31, 30, 5, 4, 3, 2, 0, 1, 29, 17, 16, 10, 9, 7, 6, 8, 15, 14, 12, 11, 13, 28, 22, 21, 19, 18, 20, 27, 26, 24, 23, 25, 42, 36, 35, 33, 32, 34, 41, 40, 38, 37, 39, 52]⟩,
    ⟨some 193, .load (.int .i64), [.t 192], some (44, 183, false), [53, 51, 50, 44, 43, 31, 30, 5, 4, 3, 2, 0, 1, 29, 17, 16, 10, 9, 7, 6, 8, 15, 14, 12, 11, 13, 28, 22, 21, 19, 18, 20, 27, 26, 24, 23, 25, 42, 36, 35, 33, 32, 34, 41, 40, 38, 37, 39, 52]⟩,
    ⟨some 194, .bin .gtr, [.t 188, .t 193], some (44, 183, false), [49, 48, 46, 45, 44, 43, 31, 30, 5, 4, 3, 2, 0, 1, 29, 17, 16, 10, 9, 7, 6, 8, 15, 14, 12, 11, 13, 28, 22, 21, 19, 18, 20, 27, 26, 24, 23, 25, 42, 36, 35, 33, 32, 34, 41, 40, 38, 37, 39, 47, 54, 53, 51, 50, 52]⟩,
    ⟨some 195, .pick, [.t 183, .bool true, .t 194], none, [44, 43, 31, 30, 5, 4, 3, 2, 0, 1, 29, 17, 16, 10, 9, 7, 6, 8, 15, 14, 12, 11, 13, 28, 22, 21, 19, 18, 20, 27, 26, 24, 23, 25, 42, 36, 35, 33, 32, 34, 41, 40, 38, 37, 39, 55, 49, 48, 46, 45, 47, 54, 53, 51, 50, 52]⟩])
  (.cond (.t 195)
   (.seq (.reg false [
     ⟨some 6, .mv, [.bool false], none, []⟩])
   .ret)
   .skip)))
 (.clean (.reg false [
   ⟨some 137, .mv, [.t 20], none, []⟩,
   ⟨some 138, .bin .add, [.t 137, .int .i64 1], none, []⟩,
   ⟨some 20, .mv, [.t 138], none, []⟩]))))
def x6_1d : List Nat := [6, 20]
def x6 : XF := ⟨197, [.tmp 6], [0, 1, 2, 3, 6, 7, 8, 10, 11, 13, 14, 16, 17, 18, 19, 20],
 (.seq (.reg false [
   ⟨some 3, .box 24, [.t 0], none, []⟩,
   ⟨some 6, .mv, [.bool false], none, []⟩])
 (.seq (.reg false [
   ⟨some 21, .call 8, [], none, []⟩,
   ⟨some 7, .mv, [.t 21], none, []⟩])
 (.seq (.seq (.reg false [
   ⟨some 22, .load (.st (.cons (.int .i64) (.cons (.int .i64) (.cons (.sl (.int .i64)) (.sl (.int .i64)))))), [.t 3], none, []⟩,
   ⟨some 23, .mv, [.t 1], none, []⟩,
   ⟨some 24, .call 9, [.t 22, .t 23], none, []⟩,
   ⟨some 25, .not, [.t 24], none, []⟩,
   ⟨some 26, .mv, [.t 25], none, []⟩,
   ⟨some 27, .mv, [.t 1], some (4, 26, false), []⟩,
   ⟨some 28, .len false, [.t 27], some (4, 26, false), []⟩,
   ⟨some 29, .bin .gtr, [.t 28, .int .i64 30], some (4, 26, false), []⟩,
   ⟨some 30, .pick, [.t 26, .bool true, .t 29], none, []⟩,
   ⟨some 31, .mv, [.t 30], none, []⟩,
   ⟨some 32, .mv, [.t 2], some (9, 31, false), []⟩,
   ⟨some 33, .len false, [.t 32], some (9, 31, false), []⟩,
   ⟨some 34, .bin .gtr, [.t 33, .int .i64 30], some (9, 31, false), []⟩,
   ⟨some 35, .pick, [.t 31, .bool true, .t 34], none, []⟩])
 (.cond (.t 35)
  (.seq (.reg false [
    ⟨some 36, .mv, [.t 7], none, []⟩,
    ⟨some 6, .mv, [.t 36], none, []⟩])
  .ret)
  .skip))
 (.clean (.seq (.reg false [
   ⟨some 38, .load (.st (.cons (.int .i64) (.cons (.int .i64) (.cons (.sl (.int .i64)) (.sl (.int .i64)))))), [.t 3], none, []⟩,
   ⟨some 39, .mv, [.t 1], none, []⟩,
   ⟨some 40, .call 10, [.t 38, .t 39], none, []⟩,
   ⟨some 37, .mv, [.t 40], none, []⟩,
   ⟨some 41, .extract 0, [.t 37], none, []⟩,
   ⟨some 42, .extract 1, [.t 37], none, []⟩,
   ⟨some 43, .extract 2, [.t 37], none, []⟩,
   ⟨some 8, .alloc 24 (.st (.cons (.int .i64) (.cons (.int .i64) (.cons (.sl (.int .i64)) (.sl (.int .i64)))))), [], none, []⟩,
   ⟨none, .store (.st (.cons (.int .i64) (.cons (.int .i64) (.cons (.sl (.int .i64)) (.sl (.int .i64)))))), [.t 8, .t 41], none, []⟩,
   ⟨some 9, .mv, [.t 42], none, []⟩,
   ⟨some 10, .mv, [.t 43], none, []⟩])
 (.clean (.seq (.reg true [
   ⟨some 45, .load (.st (.cons (.int .i64) (.cons (.int .i64) (.cons (.sl (.int .i64)) (.sl (.int .i64)))))), [.t 3], none, []⟩,
   ⟨some 46, .bslice 36 (.st (.cons (.int .i64) (.int .i64))) 0 [], [], none, []⟩,
   ⟨some 47, .mv, [.t 1], none, []⟩,
   ⟨some 48, .append 36 (.st (.cons (.int .i64) (.int .i64))) 16, [.t 46, .t 47], none, [1, 2]⟩,
   ⟨some 49, .mv, [.t 2], none, []⟩,
   ⟨some 50, .append 36 (.st (.cons (.int .i64) (.int .i64))) 16, [.t 48, .t 49], none, [3, 1, 2, 4]⟩,
   ⟨some 51, .call 10, [.t 45, .t 50], none, [0, 5, 3, 1, 2, 4]⟩,
   ⟨some 44, .mv, [.t 51], none, [6, 0, 5, 3, 1, 2, 4]⟩,
   ⟨some 52, .extract 0, [.t 44], none, [7, 6, 0, 5, 3, 1, 2, 4]⟩,
   ⟨some 53, .extract 1, [.t 44], none, [7, 6, 0, 5, 3, 1, 2, 4]⟩,
   ⟨some 54, .extract 2, [.t 44], none, [7, 6, 0, 5, 3, 1, 2, 4]⟩,
   ⟨some 11, .alloc 24 (.st (.cons (.int .i64) (.cons (.int .i64) (.cons (.sl (.int .i64)) (.sl (.int .i64)))))), [], none, []⟩,
   ⟨none, .store (.st (.cons (.int .i64) (.cons (.int .i64) (.cons (.sl (.int .i64)) (.sl (.int .i64)))))), [.t 11, .t 52], none, [11, 8, 7, 6, 0, 5, 3, 1, 2, 4]⟩,
   ⟨some 12, .mv, [.t 53], none, [9, 7, 6, 0, 5, 3, 1, 2, 4, 12, 11, 8]⟩,
   ⟨some 13, .mv, [.t 54], none, [10, 7, 6, 0, 5, 3, 1, 2, 4, 13, 9, 12, 11, 8]⟩])
 (.clean (.seq (.seq (.reg false [
   ⟨some 55, .mv, [.t 10], none, []⟩,
   ⟨some 56, .bin .neq, [.t 55, .int .i64 0], none, []⟩,
   ⟨some 57, .mv, [.t 56], none, []⟩,
   ⟨some 58, .mv, [.t 13], some (2, 57, false), []⟩,
   ⟨some 59, .bin .neq, [.t 58, .int .i64 0], some (2, 57, false), []⟩,
   ⟨some 60, .pick, [.t 57, .bool true, .t 59], none, []⟩])
 (.cond (.t 60)
  (.seq (.reg false [
    ⟨some 61, .mv, [.t 7], none, []⟩,
    ⟨some 6, .mv, [.t 61], none, []⟩])
  .ret)
  .skip))
 (.clean (.seq (.reg false [
   ⟨some 63, .load (.st (.cons (.int .i64) (.cons (.int .i64) (.cons (.sl (.int .i64)) (.sl (.int .i64)))))), [.t 8], none, []⟩,
   ⟨some 64, .mv, [.t 2], none, []⟩,
   ⟨some 65, .call 10, [.t 63, .t 64], none, []⟩,
   ⟨some 62, .mv, [.t 65], none, []⟩,
   ⟨some 66, .extract 0, [.t 62], none, []⟩,
   ⟨some 67, .extract 1, [.t 62], none, []⟩,
   ⟨some 68, .extract 2, [.t 62], none, []⟩,
   ⟨some 14, .alloc 24 (.st (.cons (.int .i64) (.cons (.int .i64) (.cons (.sl (.int .i64)) (.sl (.int .i64)))))), [], none, []⟩,
   ⟨none, .store (.st (.cons (.int .i64) (.cons (.int .i64) (.cons (.sl (.int .i64)) (.sl (.int .i64)))))), [.t 14, .t 66], none, []⟩,
   ⟨some 15, .mv, [.t 67], none, []⟩,
   ⟨some 16, .mv, [.t 68], none, []⟩])
 (.clean (.seq (.seq (.reg false [
   ⟨some 69, .mv, [.t 16], none, []⟩,
   ⟨some 70, .bin .neq, [.t 69, .int .i64 0], none, []⟩,
   ⟨some 71, .mv, [.t 70], none, []⟩,
   ⟨some 72, .load (.st (.cons (.int .i64) (.cons (.int .i64) (.cons (.sl (.int .i64)) (.sl (.int .i64)))))), [.t 3], some (2, 71, false), []⟩,
   ⟨some 73, .call 17, [.t 72], some (2, 71, false), []⟩,
   ⟨some 74, .not, [.t 73], some (2, 71, false), []⟩,
   ⟨some 75, .pick, [.t 71, .bool true, .t 74], none, []⟩,
   ⟨some 76, .mv, [.t 75], none, []⟩,
   ⟨some 77, .load (.st (.cons (.int .i64) (.cons (.int .i64) (.cons (.sl (.int .i64)) (.sl (.int .i64)))))), [.t 8], some (7, 76, false), []⟩,
   ⟨some 78, .call 17, [.t 77], some (7, 76, false), []⟩,
   ⟨some 79, .not, [.t 78], some (7, 76, false), []⟩,
   ⟨some 80, .pick, [.t 76, .bool true, .t 79], none, []⟩,
   ⟨some 81, .mv, [.t 80], none, []⟩,
   ⟨some 82, .load (.st (.cons (.int .i64) (.cons (.int .i64) (.cons (.sl (.int .i64)) (.sl (.int .i64)))))), [.t 11], some (12, 81, false), []⟩,
   ⟨some 83, .call 17, [.t 82], some (12, 81, false), []⟩,
   ⟨some 84, .not, [.t 83], some (12, 81, false), []⟩,
   ⟨some 85, .pick, [.t 81, .bool true, .t 84], none, []⟩,
   ⟨some 86, .mv, [.t 85], none, []⟩,
   ⟨some 87, .load (.st (.cons (.int .i64) (.cons (.int .i64) (.cons (.sl (.int .i64)) (.sl (.int .i64)))))), [.t 14], some (17, 86, false), []⟩,
   ⟨some 88, .call 17, [.t 87], some (17, 86, false), []⟩,
   ⟨some 89, .not, [.t 88], some (17, 86, false), []⟩,
   ⟨some 90, .pick, [.t 86, .bool true, .t 89], none, []⟩])
 (.cond (.t 90)
  (.seq (.reg false [
    ⟨some 6, .mv, [.bool false], none, []⟩])
  .ret)
  .skip))
 (.clean (.seq (.reg false [
   ⟨some 91, .mkslice 3 (.int .i64) 8, [.int .i64 24, .int .i64 24], none, []⟩,
   ⟨some 17, .mv, [.t 91], none, []⟩])
 (.seq (.seq (.reg false [
   ⟨some 18, .mv, [.int .i64 0], none, []⟩])
 (.block 0 (.loop x6_0)))
 (.clean (.seq (.seq (.reg false [
   ⟨some 20, .mv, [.int .i64 0], none, []⟩])
 (.block 2 (.loop x6_1)))
 (.seq (.reg false [
   ⟨some 196, .mv, [.t 7], none, []⟩,
   ⟨some 6, .mv, [.t 196], none, []⟩])
 .ret)))))))))))))))))))⟩
/- 0=a 1=l 2=more 3=a 6= 7=head 8=b 10=e 11=c 13=f 14=d 16=g 17=many 18=i 19=h 20=h -/
/-! tonneau/tonneaulaw14.GaugeRides -/
def x7 : XF := ⟨85, [.tmp 8], [0, 1, 2, 3, 4, 8, 9, 10, 12, 13],
 (.seq (.reg false [
   ⟨some 4, .box 24, [.t 0], none, []⟩,
   ⟨some 8, .mv, [.bool false], none, []⟩])
 (.seq (.reg false [
   ⟨some 14, .call 8, [], none, []⟩,
   ⟨some 9, .mv, [.t 14], none, []⟩])
 (.seq (.seq (.reg false [
   ⟨some 15, .load (.st (.cons (.int .i64) (.cons (.int .i64) (.cons (.sl (.int .i64)) (.sl (.int .i64)))))), [.t 4], none, []⟩,
   ⟨some 16, .mv, [.t 1], none, []⟩,
   ⟨some 17, .call 9, [.t 15, .t 16], none, []⟩,
   ⟨some 18, .not, [.t 17], none, []⟩])
 (.cond (.t 18)
  (.seq (.reg false [
    ⟨some 19, .mv, [.t 9], none, []⟩,
    ⟨some 8, .mv, [.t 19], none, []⟩])
  .ret)
  .skip))
 (.clean (.seq (.reg false [
   ⟨some 21, .load (.st (.cons (.int .i64) (.cons (.int .i64) (.cons (.sl (.int .i64)) (.sl (.int .i64)))))), [.t 4], none, []⟩,
   ⟨some 22, .mv, [.t 1], none, []⟩,
   ⟨some 23, .call 10, [.t 21, .t 22], none, []⟩,
   ⟨some 20, .mv, [.t 23], none, []⟩,
   ⟨some 24, .extract 0, [.t 20], none, []⟩,
   ⟨some 25, .extract 1, [.t 20], none, []⟩,
   ⟨some 26, .extract 2, [.t 20], none, []⟩,
   ⟨some 10, .alloc 24 (.st (.cons (.int .i64) (.cons (.int .i64) (.cons (.sl (.int .i64)) (.sl (.int .i64)))))), [], none, []⟩,
   ⟨none, .store (.st (.cons (.int .i64) (.cons (.int .i64) (.cons (.sl (.int .i64)) (.sl (.int .i64)))))), [.t 10, .t 24], none, []⟩,
   ⟨some 11, .mv, [.t 25], none, []⟩,
   ⟨some 12, .mv, [.t 26], none, []⟩])
 (.clean (.seq (.seq (.reg false [
   ⟨some 27, .mv, [.t 12], none, []⟩,
   ⟨some 28, .bin .neq, [.t 27, .int .i64 0], none, []⟩,
   ⟨some 29, .mv, [.t 28], none, []⟩,
   ⟨some 30, .mv, [.t 2], some (2, 29, false), []⟩,
   ⟨some 31, .bin .lss, [.t 30, .int .i64 0], some (2, 29, false), []⟩,
   ⟨some 32, .pick, [.t 29, .bool true, .t 31], none, []⟩,
   ⟨some 33, .mv, [.t 32], none, []⟩,
   ⟨some 34, .mv, [.t 2], some (6, 33, false), []⟩,
   ⟨some 35, .bin .gtr, [.t 34, .int .i64 1048576], some (6, 33, false), []⟩,
   ⟨some 36, .pick, [.t 33, .bool true, .t 35], none, []⟩])
 (.cond (.t 36)
  (.seq (.reg false [
    ⟨some 37, .mv, [.t 9], none, []⟩,
    ⟨some 8, .mv, [.t 37], none, []⟩])
  .ret)
  .skip))
 (.clean (.seq (.reg true [
   ⟨some 38, .load (.st (.cons (.int .i64) (.cons (.int .i64) (.cons (.sl (.int .i64)) (.sl (.int .i64)))))), [.t 10], none, []⟩,
   ⟨some 39, .mv, [.t 2], none, []⟩,
   ⟨some 40, .call 18, [.t 38, .t 39, .bool true], none, [0, 1]⟩,
   ⟨some 41, .load (.st (.cons (.int .i64) (.cons (.int .i64) (.cons (.sl (.int .i64)) (.sl (.int .i64)))))), [.t 4], none, []⟩,
   ⟨some 42, .mv, [.t 2], none, []⟩,
   ⟨some 43, .call 18, [.t 41, .t 42, .bool true], none, [3, 4, 2, 0, 1]⟩,
   ⟨some 44, .bin .leq, [.t 40, .t 43], none, [2, 0, 1, 5, 3, 4]⟩,
   ⟨some 45, .mv, [.t 44], none, [6, 2, 0, 1, 5, 3, 4]⟩,
   ⟨some 46, .load (.st (.cons (.int .i64) (.cons (.int .i64) (.cons (.sl (.int .i64)) (.sl (.int .i64)))))), [.t 10], some (7, 45, true), [7, 6, 2, 0, 1, 5, 3, 4]⟩,
   ⟨some 47, .mv, [.t 2], some (7, 45, true), [7, 6, 2, 0, 1, 5, 3, 4]⟩,
   ⟨some 48, .call 18, [.t 46, .t 47, .bool false], some (7, 45, true), [8, 7, 6, 2, 0, 1, 5, 3, 4, 9]⟩,
   ⟨some 49, .load (.st (.cons (.int .i64) (.cons (.int .i64) (.cons (.sl (.int .i64)) (.sl (.int .i64)))))), [.t 4], some (7, 45, true), [7, 6, 2, 0, 1, 5, 3, 4]⟩,
   ⟨some 50, .mv, [.t 2], some (7, 45, true), [7, 6, 2, 0, 1, 5, 3, 4]⟩,
   ⟨some 51, .call 18, [.t 49, .t 50, .bool false], some (7, 45, true), [11, 7, 6, 2, 0, 1, 5, 3, 4, 12, 10, 8, 9]⟩,
   ⟨some 52, .bin .geq, [.t 48, .t 51], some (7, 45, true), [10, 8, 7, 6, 2, 0, 1, 5, 3, 4, 9, 13, 11, 12]⟩,
   ⟨some 53, .pick, [.t 45, .t 52, .bool false], none, [7, 6, 2, 0, 1, 5, 3, 4, 14, 10, 8, 9, 13, 11, 12]⟩,
   ⟨some 13, .mv, [.t 53], none, [15, 7, 6, 2, 0, 1, 5, 3, 4, 14, 10, 8, 9, 13, 11, 12]⟩])
 (.clean (.seq (.reg true [
   ⟨some 54, .mv, [.t 9], none, []⟩,
   ⟨some 55, .mv, [.t 54], none, [0]⟩,
   ⟨some 56, .mv, [.t 13], some (1, 55, true), [1, 0]⟩,
   ⟨some 57, .pick, [.t 55, .t 56, .bool false], none, [1, 0, 2]⟩,
   ⟨some 58, .mv, [.t 57], none, [3, 1, 0, 2]⟩,
   ⟨some 59, .load (.st (.cons (.int .i64) (.cons (.int .i64) (.cons (.sl (.int .i64)) (.sl (.int .i64)))))), [.t 10], some (4, 58, true), [4, 3, 1, 0, 2]⟩,
   ⟨some 60, .mv, [.t 2], some (4, 58, true), [4, 3, 1, 0, 2]⟩,
   ⟨some 61, .call 18, [.t 59, .t 60, .bool false], some (4, 58, true), [5, 4, 3, 1, 0, 2, 6]⟩,
   ⟨some 62, .load (.st (.cons (.int .i64) (.cons (.int .i64) (.cons (.sl (.int .i64)) (.sl (.int .i64)))))), [.t 10], some (4, 58, true), [4, 3, 1, 0, 2]⟩,
   ⟨some 63, .mv, [.t 2], some (4, 58, true), [4, 3, 1, 0, 2]⟩,
   ⟨some 64, .call 18, [.t 62, .t 63, .bool true], some (4, 58, true), [8, 4, 3, 1, 0, 2, 9, 7, 5, 6]⟩,
   ⟨some 65, .bin .leq, [.t 61, .t 64], some (4, 58, true), [7, 5, 4, 3, 1, 0, 2, 6, 10, 8, 9]⟩,
   ⟨some 66, .pick, [.t 58, .t 65, .bool false], none, [4, 3, 1, 0, 2, 11, 7, 5, 6, 10, 8, 9]⟩,
   ⟨some 67, .mv, [.t 66], none, [12, 4, 3, 1, 0, 2, 11, 7, 5, 6, 10, 8, 9]⟩,
   ⟨some 68, .load (.st (.cons (.int .i64) (.cons (.int .i64) (.cons (.sl (.int .i64)) (.sl (.int .i64)))))), [.t 10], some (13, 67, true), [13, 12, 4, 3, 1, 0, 2, 11, 7, 5, 6, 10, 8, 9]⟩,
   ⟨some 69, .mv, [.t 3], some (13, 67, true), [13, 12, 4, 3, 1, 0, 2, 11, 7, 5, 6, 10, 8, 9]⟩,
   ⟨some 70, .call 19, [.t 68, .t 69, .bool true], some (13, 67, true), [14, 13, 12, 4, 3, 1, 0, 2, 11, 7, 5, 6, 10, 8, 9, 15]⟩,
   ⟨some 71, .load (.st (.cons (.int .i64) (.cons (.int .i64) (.cons (.sl (.int .i64)) (.sl (.int .i64)))))), [.t 4], some (13, 67, true), [13, 12, 4, 3, 1, 0, 2, 11, 7, 5, 6, 10, 8, 9]⟩,
   ⟨some 72, .mv, [.t 3], some (13, 67, true), [13, 12, 4, 3, 1, 0, 2, 11, 7, 5, 6, 10, 8, 9]⟩,
   ⟨some 73, .call 19, [.t 71, .t 72, .bool true], some (13, 67, true), [17, 13, 12, 4, 3, 1, 0, 2, 11, 7, 5, 6, 10, 8, 9, 18, 16, 14, 15]⟩,
   ⟨some 74, .bin .geq, [.t 70, .t 73], some (13, 67, true), [16, 14, 13, 12, 4, 3, 1, 0, 2, 11, 7, 5, 6, 10, 8, 9, 15, 19, 17, 18]⟩,
   ⟨some 75, .pick, [.t 67, .t 74, .bool false], none, [13, 12, 4, 3, 1, 0, 2, 11, 7, 5, 6, 10, 8, 9, 20, 16, 14, 15, 19, 17, 18]⟩,
   ⟨some 76, .mv, [.t 75], none, [21, 13, 12, 4, 3, 1, 0, 2, 11, 7, 5, 6, 10, 8, 9, 20, 16, 14, 15, 19, 17, 18]⟩,
   ⟨some 77, .load (.st (.cons (.int .i64) (.cons (.int .i64) (.cons (.sl (.int .i64)) (.sl (.int .i64)))))), [.t 10], some (22, 76, true), [22, 21, 13, 12, 4, 3, 1, 0, 2, 11, 7, 5, 6, 10, 8, 9, 20, 16, 14, 15, 19, 17, 18]⟩,
   ⟨some 78, .mv, [.t 3], some (22, 76, true), [22, 21, 13, 12, 4, 3, 1, 0, 2, 11, 7, 5, 6, 10, 8, 9, 20, 16, 14, 15, 19, 17, 18]⟩,
   ⟨some 79, .call 19, [.t 77, .t 78, .bool false], some (22, 76, true), [23, 22, 21, 13, 12, 4, 3, 1, 0, 2, 11, 7, 5, 6, 10, 8, 9, 20, 16, 14, 15, 19, 17, 18, 24]⟩,
   ⟨some 80, .load (.st (.cons (.int .i64) (.cons (.int .i64) (.cons (.sl (.int .i64)) (.sl (.int .i64)))))), [.t 4], some (22, 76, true), [22, 21, 13, 12, 4, 3, 1, 0, 2, 11, 7, 5, 6, 10, 8, 9, 20, 16, 14, 15, 19, 17, 18]⟩,
   ⟨some 81, .mv, [.t 3], some (22, 76, true), [22, 21, 13, 12, 4, 3, 1, 0, 2, 11, 7, 5, 6, 10, 8, 9, 20, 16, 14, 15, 19, 17, 18]⟩,
   ⟨some 82, .call 19, [.t 80, .t 81, .bool false], some (22, 76, true), [26, 22, 21, 13, 12, 4, 3, 1, 0, 2, 11, 7, 5, 6, 10, 8, 9, 20, 16, 14, 15, 19, 17, 18, 27, 25, 23, 24]⟩,
   ⟨some 83, .bin .leq, [.t 79, .t 82], some (22, 76, true), [25, 23, 22, 21, 13, 12, 4, 3, 1, 0, 2, 11, 7, 5, 6, 10, 8, 9, 20, 16, 14, 15, 19, 17, 18, 24, 28, 26, 27]⟩,
   ⟨some 84, .pick, [.t 76, .t 83, .bool false], none, [22, 21, 13, 12, 4, 3, 1, 0, 2, 11, 7, 5, 6, 10, 8, 9, 20, 16, 14, 15, 19, 17, 18, 29, 25, 23, 24, 28, 26, 27]⟩,
   ⟨some 8, .mv, [.t 84], none, [30, 22, 21, 13, 12, 4, 3, 1, 0, 2, 11, 7, 5, 6, 10, 8, 9, 20, 16, 14, 15, 19, 17, 18, 29, 25, 23, 24, 28, 26, 27]⟩])
 .ret)))))))))))⟩
/- 0=a 1=l 2=t 3=by 4=a 8= 9=head 10=b 12=e 13=one -/
/-! tonneau/tonneaulaw14.small -/
def x8 : XF := ⟨133, [.tmp 0], [0, 1, 2, 3, 4, 5, 6, 7, 8, 9, 10],
 (.seq (.reg false [
   ⟨some 0, .mv, [.bool false], none, []⟩])
 (.seq (.reg false [
   ⟨some 12, .call 20, [], none, []⟩,
   ⟨some 13, .bslice 3 (.int .i64) 5 [0, 1, 2, 3, 4], [.int .i64 20, .int .i64 22, .int .i64 25, .int .i64 21, .int .i64 24], none, []⟩,
   ⟨some 14, .call 21, [.t 13], none, []⟩,
   ⟨some 15, .call 10, [.t 12, .t 14], none, []⟩,
   ⟨some 11, .mv, [.t 15], none, []⟩,
   ⟨some 16, .extract 0, [.t 11], none, []⟩,
   ⟨some 17, .extract 1, [.t 11], none, []⟩,
   ⟨some 18, .extract 2, [.t 11], none, []⟩,
   ⟨some 1, .alloc 24 (.st (.cons (.int .i64) (.cons (.int .i64) (.cons (.sl (.int .i64)) (.sl (.int .i64)))))), [], none, []⟩,
   ⟨none, .store (.st (.cons (.int .i64) (.cons (.int .i64) (.cons (.sl (.int .i64)) (.sl (.int .i64)))))), [.t 1, .t 16], none, []⟩,
   ⟨some 2, .mv, [.t 17], none, []⟩,
   ⟨some 3, .mv, [.t 18], none, []⟩])
 (.clean (.seq (.reg false [
   ⟨some 20, .call 20, [], none, []⟩,
   ⟨some 21, .bslice 3 (.int .i64) 4 [0, 1, 2, 3], [.int .i64 20, .int .i64 22, .int .i64 25, .int .i64 21], none, []⟩,
   ⟨some 22, .call 21, [.t 21], none, []⟩,
   ⟨some 23, .call 10, [.t 20, .t 22], none, []⟩,
   ⟨some 19, .mv, [.t 23], none, []⟩,
   ⟨some 24, .extract 0, [.t 19], none, []⟩,
   ⟨some 25, .extract 1, [.t 19], none, []⟩,
   ⟨some 26, .extract 2, [.t 19], none, []⟩,
   ⟨some 4, .alloc 24 (.st (.cons (.int .i64) (.cons (.int .i64) (.cons (.sl (.int .i64)) (.sl (.int .i64)))))), [], none, []⟩,
   ⟨none, .store (.st (.cons (.int .i64) (.cons (.int .i64) (.cons (.sl (.int .i64)) (.sl (.int .i64)))))), [.t 4, .t 24], none, []⟩,
   ⟨some 5, .mv, [.t 25], none, []⟩,
   ⟨some 6, .mv, [.t 26], none, []⟩])
 (.clean (.seq (.reg false [
   ⟨some 28, .call 20, [], none, []⟩,
   ⟨some 29, .bslice 3 (.int .i64) 8 [0, 1, 2, 3, 4, 5, 6, 7], [.int .i64 20, .int .i64 22, .int .i64 25, .int .i64 21, .int .i64 24, .int .i64 60, .int .i64 9, .int .i64 12], none, []⟩,
   ⟨some 30, .call 21, [.t 29], none, []⟩,
   ⟨some 31, .call 10, [.t 28, .t 30], none, []⟩,
   ⟨some 27, .mv, [.t 31], none, []⟩,
   ⟨some 32, .extract 0, [.t 27], none, []⟩,
   ⟨some 33, .extract 1, [.t 27], none, []⟩,
   ⟨some 34, .extract 2, [.t 27], none, []⟩,
   ⟨some 7, .alloc 24 (.st (.cons (.int .i64) (.cons (.int .i64) (.cons (.sl (.int .i64)) (.sl (.int .i64)))))), [], none, []⟩,
   ⟨none, .store (.st (.cons (.int .i64) (.cons (.int .i64) (.cons (.sl (.int .i64)) (.sl (.int .i64)))))), [.t 7, .t 32], none, []⟩,
   ⟨some 8, .mv, [.t 33], none, []⟩,
   ⟨some 9, .mv, [.t 34], none, []⟩])
 (.clean (.seq (.seq (.reg false [
   ⟨some 35, .faddr 2 (.sl (.int .i64)), [.t 1], none, []⟩,
   ⟨some 36, .load (.sl (.int .i64)), [.t 35], none, []⟩,
   ⟨some 37, .len false, [.t 36], none, []⟩,
   ⟨some 38, .bin .neq, [.t 37, .int .i64 24], none, []⟩,
   ⟨some 39, .mv, [.t 38], none, []⟩,
   ⟨some 40, .faddr 3 (.sl (.int .i64)), [.t 1], some (4, 39, false), []⟩,
   ⟨some 41, .load (.sl (.int .i64)), [.t 40], some (4, 39, false), []⟩,
   ⟨some 42, .len false, [.t 41], some (4, 39, false), []⟩,
   ⟨some 43, .bin .neq, [.t 42, .int .i64 24], some (4, 39, false), []⟩,
   ⟨some 44, .pick, [.t 39, .bool true, .t 43], none, []⟩,
   ⟨some 45, .mv, [.t 44], none, []⟩,
   ⟨some 46, .faddr 2 (.sl (.int .i64)), [.t 7], some (10, 45, false), []⟩,
   ⟨some 47, .load (.sl (.int .i64)), [.t 46], some (10, 45, false), []⟩,
   ⟨some 48, .len false, [.t 47], some (10, 45, false), []⟩,
   ⟨some 49, .bin .neq, [.t 48, .int .i64 24], some (10, 45, false), []⟩,
   ⟨some 50, .pick, [.t 45, .bool true, .t 49], none, []⟩,
   ⟨some 51, .mv, [.t 50], none, []⟩,
   ⟨some 52, .faddr 3 (.sl (.int .i64)), [.t 7], some (16, 51, false), []⟩,
   ⟨some 53, .load (.sl (.int .i64)), [.t 52], some (16, 51, false), []⟩,
   ⟨some 54, .len false, [.t 53], some (16, 51, false), []⟩,
   ⟨some 55, .bin .neq, [.t 54, .int .i64 24], some (16, 51, false), []⟩,
   ⟨some 56, .pick, [.t 51, .bool true, .t 55], none, []⟩])
 (.cond (.t 56)
  (.seq (.reg false [
    ⟨some 0, .mv, [.bool false], none, []⟩])
  .ret)
  .skip))
 (.clean (.seq (.reg false [
   ⟨some 57, .mv, [.t 3], none, []⟩,
   ⟨some 58, .bin .eql, [.t 57, .int .i64 0], none, []⟩,
   ⟨some 59, .mv, [.t 58], none, []⟩,
   ⟨some 60, .faddr 2 (.sl (.int .i64)), [.t 1], some (2, 59, true), []⟩,
   ⟨some 61, .load (.sl (.int .i64)), [.t 60], some (2, 59, true), []⟩,
   ⟨some 62, .iaddr (.int .i64), [.t 61, .int .i64 8], some (2, 59, true), []⟩,
   ⟨some 63, .load (.int .i64), [.t 62], some (2, 59, true), []⟩,
   ⟨some 64, .bin .eql, [.t 63, .int .i64 17], some (2, 59, true), []⟩,
   ⟨some 65, .pick, [.t 59, .t 64, .bool false], none, []⟩,
   ⟨some 66, .mv, [.t 65], none, []⟩,
   ⟨some 67, .faddr 3 (.sl (.int .i64)), [.t 1], some (9, 66, true), []⟩,
   ⟨some 68, .load (.sl (.int .i64)), [.t 67], some (9, 66, true), []⟩,
   ⟨some 69, .iaddr (.int .i64), [.t 68, .int .i64 8], some (9, 66, true), []⟩,
   ⟨some 70, .load (.int .i64), [.t 69], some (9, 66, true), []⟩,
   ⟨some 71, .bin .eql, [.t 70, .int .i64 28], some (9, 66, true), []⟩,
   ⟨some 72, .pick, [.t 66, .t 71, .bool false], none, []⟩,
   ⟨some 73, .mv, [.t 72], none, []⟩,
   ⟨some 74, .faddr 2 (.sl (.int .i64)), [.t 1], some (16, 73, true), []⟩,
   ⟨some 75, .load (.sl (.int .i64)), [.t 74], some (16, 73, true), []⟩,
   ⟨some 76, .iaddr (.int .i64), [.t 75, .int .i64 9], some (16, 73, true), []⟩,
   ⟨some 77, .load (.int .i64), [.t 76], some (16, 73, true), []⟩,
   ⟨some 78, .bin .eql, [.t 77, .int .i64 10], some (16, 73, true), []⟩,
   ⟨some 79, .pick, [.t 73, .t 78, .bool false], none, []⟩,
   ⟨some 80, .mv, [.t 79], none, []⟩,
   ⟨some 81, .faddr 3 (.sl (.int .i64)), [.t 1], some (23, 80, true), []⟩,
   ⟨some 82, .load (.sl (.int .i64)), [.t 81], some (23, 80, true), []⟩,
   ⟨some 83, .iaddr (.int .i64), [.t 82, .int .i64 7], some (23, 80, true), []⟩,
   ⟨some 84, .load (.int .i64), [.t 83], some (23, 80, true), []⟩,
   ⟨some 85, .bin .eql, [.t 84, .int .i64 50], some (23, 80, true), []⟩,
   ⟨some 86, .pick, [.t 80, .t 85, .bool false], none, []⟩,
   ⟨some 87, .mv, [.t 86], none, []⟩,
   ⟨some 88, .mv, [.t 2], some (30, 87, true), []⟩,
   ⟨some 89, .len false, [.t 88], some (30, 87, true), []⟩,
   ⟨some 90, .bin .eql, [.t 89, .int .i64 0], some (30, 87, true), []⟩,
   ⟨some 91, .pick, [.t 87, .t 90, .bool false], none, []⟩,
   ⟨some 10, .mv, [.t 91], none, []⟩])
 (.clean (.seq (.reg true [
   ⟨some 92, .mv, [.t 10], none, []⟩,
   ⟨some 93, .mv, [.t 92], none, [0]⟩,
   ⟨some 94, .mv, [.t 6], some (1, 93, true), [1, 0]⟩,
   ⟨some 95, .bin .eql, [.t 94, .int .i64 0], some (1, 93, true), [2, 1, 0]⟩,
   ⟨some 96, .pick, [.t 93, .t 95, .bool false], none, [1, 0, 3, 2]⟩,
   ⟨some 97, .mv, [.t 96], none, [4, 1, 0, 3, 2]⟩,
   ⟨some 98, .load (.st (.cons (.int .i64) (.cons (.int .i64) (.cons (.sl (.int .i64)) (.sl (.int .i64)))))), [.t 4], some (5, 97, true), [5, 4, 1, 0, 3, 2]⟩,
   ⟨some 99, .call 20, [], some (5, 97, true), [5, 4, 1, 0, 3, 2]⟩,
   ⟨some 100, .call 12, [.t 98, .t 99], some (5, 97, true), [6, 5, 4, 1, 0, 3, 2, 7]⟩,
   ⟨some 101, .pick, [.t 97, .t 100, .bool false], none, [5, 4, 1, 0, 3, 2, 8, 6, 7]⟩,
   ⟨some 102, .mv, [.t 101], none, [9, 5, 4, 1, 0, 3, 2, 8, 6, 7]⟩,
   ⟨some 103, .mv, [.t 5], some (10, 102, true), [10, 9, 5, 4, 1, 0, 3, 2, 8, 6, 7]⟩,
   ⟨some 104, .len false, [.t 103], some (10, 102, true), [11, 10, 9, 5, 4, 1, 0, 3, 2, 8, 6, 7]⟩,
   ⟨some 105, .bin .eql, [.t 104, .int .i64 0], some (10, 102, true), [12, 11, 10, 9, 5, 4, 1, 0, 3, 2, 8, 6, 7]⟩,
   ⟨some 106, .pick, [.t 102, .t 105, .bool false], none, [10, 9, 5, 4, 1, 0, 3, 2, 8, 6, 7, 13, 12, 11]⟩,
   ⟨some 107, .mv, [.t 106], none, [14, 10, 9, 5, 4, 1, 0, 3, 2, 8, 6, 7, 13, 12, 11]⟩,
   ⟨some 108, .mv, [.t 9], some (15, 107, true), [15, 14, 10, 9, 5, 4, 1, 0, 3, 2, 8, 6, 7, 13, 12, 11]⟩,
   ⟨some 109, .bin .eql, [.t 108, .int .i64 0], some (15, 107, true), [16, 15, 14, 10, 9, 5, 4, 1, 0, 3, 2, 8, 6, 7, 13, 12, 11]⟩,
   ⟨some 110, .pick, [.t 107, .t 109, .bool false], none, [15, 14, 10, 9, 5, 4, 1, 0, 3, 2, 8, 6, 7, 13, 12, 11, 17, 16]⟩,
   ⟨some 111, .mv, [.t 110], none, [18, 15, 14, 10, 9, 5, 4, 1, 0, 3, 2, 8, 6, 7, 13, 12, 11, 17, 16]⟩,
   ⟨some 112, .faddr 2 (.sl (.int .i64)), [.t 7], some (19, 111, true), [19, 18, 15, 14, 10, 9, 5, 4, 1, 0, 3, 2, 8, 6, 7, 13, 12, 11, 17, 16]⟩,
   ⟨some 113, .load (.sl (.int .i64)), [.t 112], some (19, 111, true), [20, 19, 18, 15, 14, 10, 9, 5, 4, 1, 0, 3, 2, 8, 6, 7, 13, 12, 11, 17, 16]⟩,
   ⟨some 114, .iaddr (.int .i64), [.t 113, .int .i64 8], some (19, 111, true), [21, 20, 19, 18, 15, 14, 10, 9, 5, 4, 1, 0, 3, 2, 8, 6, 7, 13, 12, 11, 17, 16]⟩,
   ⟨some 115, .load (.int .i64), [.t 114], some (19, 111, true), [22, 21, 20, 19, 18, 15, 14, 10, 9, 5, 4, 1, 0, 3, 2, 8, 6, 7, 13, 12, 11, 17, 16]⟩,
   ⟨some 116, .bin .eql, [.t 115, .int .i64 10], some (19, 111, true), [23, 22, 21, 20, 19, 18, 15, 14, 10, 9, 5, 4, 1, 0, 3, 2, 8, 6, 7, 13, 12, 11, 17, 16]⟩,
   ⟨some 117, .pick, [.t 111, .t 116, .bool false], none, [19, 18, 15, 14, 10, 9, 5, 4, 1, 0, 3, 2, 8, 6, 7, 13, 12, 11, 17, 16, 24, 23, 22, 21, 20]⟩,
   ⟨some 118, .mv, [.t 117], none, [25, 19, 18, 15, 14, 10, 9, 5, 4, 1, 0, 3, 2, 8, 6, 7, 13, 12, 11, 17, 16, 24, 23, 22, 21, 20]⟩,
   ⟨some 119, .faddr 3 (.sl (.int .i64)), [.t 7], some (26, 118, true), [26, 25, 19, 18, 15, 14, 10, 9, 5, 4, 1, 0, 3, 2, 8, 6, 7, 13, 12, 11, 17, 16, 24, 23, 22, 21, 20]⟩,
   ⟨some 120, .load (.sl (.int .i64)), [.t 119], some (26, 118, true), [27, 26, 25, 19, 18, 15, 14, 10, 9, 5, 4, 1, 0, 3, 2, 8, 6, 7, 13, 12, 11, 17, 16, 24, 23, 22, 21, 20]⟩,
   ⟨some 121, .iaddr (.int .i64), [.t 120, .int .i64 8], some (26, 118, true), [28, 27, 26, 25, 19, 18, 15, 14, 10, 9, 5, 4, 1, 0, 3, 2, 8, 6, 7, 13, 12, 11, 17, 16, 24, 23, 22, 21, 20]⟩,
   ⟨some 122, .load (.int .i64), [.t 121], some (26, 118, true), [29, 28, 27, 26, 25, 19, 18, 15, 14, 10, 9, 5, 4, 1, 0, 3, 2, 8, 6, 7, 13, 12, 11, 17, 16, 24, 23, 22, 21, 20]⟩,
   ⟨some 123, .bin .eql, [.t 122, .int .i64 28], some (26, 118, true), [30, 29, 28, 27, 26, 25, 19, 18, 15, 14, 10, 9, 5, 4, 1, 0, 3, 2, 8, 6, 7, 13, 12, 11, 17, 16, 24, 23, 22, 21, 20]⟩,
   ⟨some 124, .pick, [.t 118, .t 123, .bool false], none, [26, 25, 19, 18, 15, 14, 10, 9, 5, 4, 1, 0, 3, 2, 8, 6, 7, 13, 12, 11, 17, 16, 24, 23, 22, 21, 20, 31, 30, 29, 28, 27]⟩,
   ⟨some 125, .mv, [.t 124], none, [32, 26, 25, 19, 18, 15, 14, 10, 9, 5, 4, 1, 0, 3, 2, 8, 6, 7, 13, 12, 11, 17, 16, 24, 23, 22, 21, 20, 31, 30, 29, 28, 27]⟩,
   ⟨some 126, .mv, [.t 8], some (33, 125, true), [33, 32, 26, 25, 19, 18, 15, 14, 10, 9, 5, 4, 1, 0, 3, 2, 8, 6, 7, 13, 12, 11, 17, 16, 24, 23, 22, 21, 20, 31, 30, 29, 28, 27]⟩,
   ⟨some 127, .bslice 3 (.int .i64) 2 [0, 1], [.int .i64 5, .int .i64 6], some (33, 125, true), [33, 32, 26, 25, 19, 18, 15, 14, 10, 9, 5, 4, 1, 0, 3, 2, 8, 6, 7, 13, 12, 11, 17, 16, 24, 23, 22, 21, 20, 31, 30, 29, 28, 27]⟩,
   ⟨some 128, .call 13, [.t 126, .t 127], some (33, 125, true), [34, 33, 32, 26, 25, 19, 18, 15, 14, 10, 9, 5, 4, 1, 0, 3, 2, 8, 6, 7, 13, 12, 11, 17, 16, 24, 23, 22, 21, 20, 31, 30, 29, 28, 27, 35]⟩,
   ⟨some 129, .pick, [.t 125, .t 128, .bool false], none, [33, 32, 26, 25, 19, 18, 15, 14, 10, 9, 5, 4, 1, 0, 3, 2, 8, 6, 7, 13, 12, 11, 17, 16, 24, 23, 22, 21, 20, 31, 30, 29, 28, 27, 36, 34, 35]⟩,
   ⟨some 130, .mv, [.t 129], none, [37, 33, 32, 26, 25, 19, 18, 15, 14, 10, 9, 5, 4, 1, 0, 3, 2, 8, 6, 7, 13, 12, 11, 17, 16, 24, 23, 22, 21, 20, 31, 30, 29, 28, 27, 36, 34, 35]⟩,
   ⟨some 131, .call 14, [.nil], some (38, 130, true), [38, 37, 33, 32, 26, 25, 19, 18, 15, 14, 10, 9, 5, 4, 1, 0, 3, 2, 8, 6, 7, 13, 12, 11, 17, 16, 24, 23, 22, 21, 20, 31, 30, 29, 28, 27, 36, 34, 35]⟩,
   ⟨some 132, .pick, [.t 130, .t 131, .bool false], none, [38, 37, 33, 32, 26, 25, 19, 18, 15, 14, 10, 9, 5, 4, 1, 0, 3, 2, 8, 6, 7, 13, 12, 11, 17, 16, 24, 23, 22, 21, 20, 31, 30, 29, 28, 27, 36, 34, 35, 39]⟩,
   ⟨some 0, .mv, [.t 132], none, [40, 38, 37, 33, 32, 26, 25, 19, 18, 15, 14, 10, 9, 5, 4, 1, 0, 3, 2, 8, 6, 7, 13, 12, 11, 17, 16, 24, 23, 22, 21, 20, 31, 30, 29, 28, 27, 36, 34, 35, 39]⟩])
 .ret))))))))))))⟩
/- 0= 1=a 2=x 3=e 4=b 5=y 6=f 7=c 8=z 9=g 10=one -/
/-! tonneau/tonneaulaw14.few -/
def x9 : XF := ⟨12, [.tmp 4], [0, 1, 2, 4],
 (.seq (.reg false [
   ⟨some 2, .box 24, [.t 0], none, []⟩,
   ⟨some 4, .mv, [.bool false], none, []⟩])
 (.seq (.reg false [
   ⟨some 5, .load (.st (.cons (.int .i64) (.cons (.int .i64) (.cons (.sl (.int .i64)) (.sl (.int .i64)))))), [.t 2], none, []⟩,
   ⟨some 6, .call 22, [.t 5], none, []⟩,
   ⟨some 7, .mv, [.t 6], none, []⟩,
   ⟨some 8, .mv, [.t 1], some (2, 7, true), []⟩,
   ⟨some 9, .len false, [.t 8], some (2, 7, true), []⟩,
   ⟨some 10, .bin .leq, [.t 9, .int .i64 60], some (2, 7, true), []⟩,
   ⟨some 11, .pick, [.t 7, .t 10, .bool false], none, []⟩,
   ⟨some 4, .mv, [.t 11], none, []⟩])
 .ret))⟩
/- 0=a 1=l 2=a 4= -/
/-! tonneau/tonneauref14.Tighten -/
def x11_1 : XC := (.seq (.seq (.reg false [
   ⟨some 41, .mv, [.t 12], none, []⟩,
   ⟨some 42, .mv, [.t 1], none, []⟩,
   ⟨some 43, .len false, [.t 42], none, []⟩,
   ⟨some 44, .bin .lss, [.t 41, .t 43], none, []⟩])
 (.cond (.t 44)
  .skip
  (.exit 2)))
 (.seq (.block 3 (.seq (.seq (.reg true [
    ⟨some 47, .mv, [.t 1], none, []⟩,
    ⟨some 48, .mv, [.t 12], none, []⟩,
    ⟨some 49, .iaddr (.st (.cons (.int .i64) (.int .i64))), [.t 47, .t 48], none, [0, 1]⟩,
    ⟨some 50, .faddr 0 (.int .i64), [.t 49], none, [2, 0, 1]⟩,
    ⟨some 51, .load (.int .i64), [.t 50], none, [3, 2, 0, 1]⟩,
    ⟨some 52, .call 27, [.t 51], none, [4, 3, 2, 0, 1]⟩,
    ⟨some 53, .mv, [.t 8], none, []⟩,
    ⟨some 54, .bin .neq, [.t 52, .t 53], none, [5, 4, 3, 2, 0, 1, 6]⟩,
    ⟨some 55, .mv, [.t 54], none, [7, 5, 4, 3, 2, 0, 1, 6]⟩,
    ⟨some 56, .load (.st (.cons (.int .i64) (.cons (.int .i64) (.cons (.sl (.int .i64)) (.sl (.int .i64)))))), [.t 2], some (8, 55, false), [8, 7, 5, 4, 3, 2, 0, 1, 6]⟩,
    ⟨some 57, .mv, [.t 1], some (8, 55, false), [8, 7, 5, 4, 3, 2, 0, 1, 6]⟩,
    ⟨some 58, .mv, [.t 12], some (8, 55, false), [8, 7, 5, 4, 3, 2, 0, 1, 6]⟩,
    ⟨some 59, .iaddr (.st (.cons (.int .i64) (.int .i64))), [.t 57, .t 58], some (8, 55, false), [10, 8, 7, 5, 4, 3, 2, 0, 1, 6, 11]⟩,
    ⟨some 60, .load (.st (.cons (.int .i64) (.int .i64))), [.t 59], some (8, 55, false), [12, 10, 8, 7, 5, 4, 3, 2, 0, 1, 6, 11]⟩,
    ⟨some 61, .call 28, [.t 56, .t 60], some (8, 55, false), [9, 8, 7, 5, 4, 3, 2, 0, 1, 6, 13, 12, 10, 11]⟩,
    ⟨some 62, .not, [.t 61], some (8, 55, false), [14, 9, 8, 7, 5, 4, 3, 2, 0, 1, 6, 13, 12, 10, 11]⟩,
    ⟨some 63, .pick, [.t 55, .bool true, .t 62], none, [8, 7, 5, 4, 3, 2, 0, 1, 6, 15, 14, 9, 13, 12, 10, 11]⟩])
  (.cond (.t 63)
   (.exit 3)
   .skip))
  (.clean (.seq (.seq (.reg false [
    ⟨some 64, .mv, [.t 9], none, []⟩,
    ⟨some 65, .bin .eql, [.t 64, .int .i64 0], none, []⟩])
  (.cond (.t 65)
   (.seq (.reg false [
     ⟨some 66, .mv, [.t 1], none, []⟩,
     ⟨some 67, .mv, [.t 12], none, []⟩,
     ⟨some 68, .iaddr (.st (.cons (.int .i64) (.int .i64))), [.t 66, .t 67], none, []⟩,
     ⟨some 69, .faddr 1 (.int .i64), [.t 68], none, []⟩,
     ⟨some 70, .load (.int .i64), [.t 69], none, []⟩,
     ⟨some 10, .mv, [.t 70], none, []⟩])
   (.clean (.reg false [
     ⟨some 71, .mv, [.t 1], none, []⟩,
     ⟨some 72, .mv, [.t 12], none, []⟩,
     ⟨some 73, .iaddr (.st (.cons (.int .i64) (.int .i64))), [.t 71, .t 72], none, []⟩,
     ⟨some 74, .faddr 1 (.int .i64), [.t 73], none, []⟩,
     ⟨some 75, .load (.int .i64), [.t 74], none, []⟩,
     ⟨some 11, .mv, [.t 75], none, []⟩])))
   .skip))
  (.clean (.seq (.reg false [
    ⟨some 76, .mv, [.t 9], none, []⟩,
    ⟨some 77, .bin .add, [.t 76, .int .i64 1], none, []⟩,
    ⟨some 9, .mv, [.t 77], none, []⟩])
  (.seq (.reg false [
    ⟨some 78, .mv, [.t 10], none, []⟩,
    ⟨some 79, .mv, [.t 1], none, []⟩,
    ⟨some 80, .mv, [.t 12], none, []⟩,
    ⟨some 81, .iaddr (.st (.cons (.int .i64) (.int .i64))), [.t 79, .t 80], none, []⟩,
    ⟨some 82, .faddr 1 (.int .i64), [.t 81], none, []⟩,
    ⟨some 83, .load (.int .i64), [.t 82], none, []⟩,
    ⟨some 84, .min, [.t 78, .t 83], none, []⟩,
    ⟨some 10, .mv, [.t 84], none, []⟩])
  (.clean (.reg false [
    ⟨some 85, .mv, [.t 11], none, []⟩,
    ⟨some 86, .mv, [.t 1], none, []⟩,
    ⟨some 87, .mv, [.t 12], none, []⟩,
    ⟨some 88, .iaddr (.st (.cons (.int .i64) (.int .i64))), [.t 86, .t 87], none, []⟩,
    ⟨some 89, .faddr 1 (.int .i64), [.t 88], none, []⟩,
    ⟨some 90, .load (.int .i64), [.t 89], none, []⟩,
    ⟨some 91, .max, [.t 85, .t 90], none, []⟩,
    ⟨some 11, .mv, [.t 91], none, []⟩])))))))))
 (.clean (.reg false [
   ⟨some 45, .mv, [.t 12], none, []⟩,
   ⟨some 46, .bin .add, [.t 45, .int .i64 1], none, []⟩,
   ⟨some 12, .mv, [.t 46], none, []⟩]))))
def x11_1d : List Nat := [9, 10, 11, 12]
def x11_0 : XC := (.seq (.seq (.reg false [
   ⟨some 37, .mv, [.t 8], none, []⟩,
   ⟨some 38, .bin .lss, [.t 37, .int .i64 24], none, []⟩])
 (.cond (.t 38)
  .skip
  (.exit 0)))
 (.seq (.block 1 (.seq (.reg false [
    ⟨some 9, .mv, [.int .i64 0], none, []⟩])
  (.seq (.reg false [
    ⟨some 10, .mv, [.int .i64 0], none, []⟩])
  (.seq (.reg false [
    ⟨some 11, .mv, [.int .i64 0], none, []⟩])
  (.seq (.seq (.reg false [
    ⟨some 12, .mv, [.int .i64 0], none, []⟩])
  (.block 2 (.loop x11_1)))
  (.clean (.seq (.reg false [
    ⟨some 92, .mv, [.t 9], none, []⟩,
    ⟨some 93, .bin .geq, [.t 92, .int .i64 5], none, []⟩])
  (.cond (.t 93)
   (.seq (.reg true [
     ⟨some 94, .faddr 2 (.sl (.int .i64)), [.t 7], none, []⟩,
     ⟨some 95, .load (.sl (.int .i64)), [.t 94], none, [0]⟩,
     ⟨some 96, .mv, [.t 8], none, []⟩,
     ⟨some 97, .faddr 2 (.sl (.int .i64)), [.t 2], none, []⟩,
     ⟨some 98, .load (.sl (.int .i64)), [.t 97], none, [3]⟩,
     ⟨some 99, .mv, [.t 8], none, []⟩,
     ⟨some 100, .iaddr (.int .i64), [.t 98, .t 99], none, [4, 3, 5]⟩,
     ⟨some 101, .load (.int .i64), [.t 100], none, [6, 4, 3, 5]⟩,
     ⟨some 102, .mv, [.t 10], none, []⟩,
     ⟨some 103, .bin .sub, [.t 102, .int .i64 3], none, [8]⟩,
     ⟨some 104, .max, [.t 101, .t 103], none, [7, 6, 4, 3, 5, 9, 8]⟩,
     ⟨some 105, .iaddr (.int .i64), [.t 95, .t 96], none, [1, 0, 2, 3, 4, 5, 6, 7, 8, 9, 10]⟩,
     ⟨none, .store (.int .i64), [.t 105, .t 104], none, [11, 1, 0, 2, 3, 4, 5, 6, 7, 8, 9, 10]⟩])
   (.clean (.reg true [
     ⟨some 106, .faddr 3 (.sl (.int .i64)), [.t 7], none, []⟩,
     ⟨some 107, .load (.sl (.int .i64)), [.t 106], none, [0]⟩,
     ⟨some 108, .mv, [.t 8], none, []⟩,
     ⟨some 109, .faddr 3 (.sl (.int .i64)), [.t 2], none, []⟩,
     ⟨some 110, .load (.sl (.int .i64)), [.t 109], none, [3]⟩,
     ⟨some 111, .mv, [.t 8], none, []⟩,
     ⟨some 112, .iaddr (.int .i64), [.t 110, .t 111], none, [4, 3, 5]⟩,
     ⟨some 113, .load (.int .i64), [.t 112], none, [6, 4, 3, 5]⟩,
     ⟨some 114, .mv, [.t 11], none, []⟩,
     ⟨some 115, .bin .add, [.t 114, .int .i64 3], none, [8]⟩,
     ⟨some 116, .min, [.t 113, .t 115], none, [7, 6, 4, 3, 5, 9, 8]⟩,
     ⟨some 117, .iaddr (.int .i64), [.t 107, .t 108], none, [1, 0, 2, 3, 4, 5, 6, 7, 8, 9, 10]⟩,
     ⟨none, .store (.int .i64), [.t 117, .t 116], none, [11, 1, 0, 2, 3, 4, 5, 6, 7, 8, 9, 10]⟩])))
   .skip))))))))
 (.clean (.reg false [
   ⟨some 39, .mv, [.t 8], none, []⟩,
   ⟨some 40, .bin .add, [.t 39, .int .i64 1], none, []⟩,
   ⟨some 8, .mv, [.t 40], none, []⟩]))))
def x11_0d : List Nat := [8, 9, 10, 11, 12]
def x11_2 : XC := (.seq (.seq (.reg false [
   ⟨some 118, .mv, [.t 14], none, []⟩,
   ⟨some 119, .mv, [.t 1], none, []⟩,
   ⟨some 120, .len false, [.t 119], none, []⟩,
   ⟨some 121, .bin .lss, [.t 118, .t 120], none, []⟩])
 (.cond (.t 121)
  .skip
  (.exit 4)))
 (.seq (.block 5 (.seq (.reg true [
    ⟨some 124, .load (.st (.cons (.int .i64) (.cons (.int .i64) (.cons (.sl (.int .i64)) (.sl (.int .i64)))))), [.t 2], none, []⟩,
    ⟨some 125, .mv, [.t 1], none, []⟩,
    ⟨some 126, .mv, [.t 14], none, []⟩,
    ⟨some 127, .iaddr (.st (.cons (.int .i64) (.int .i64))), [.t 125, .t 126], none, [1, 2]⟩,
    ⟨some 128, .load (.st (.cons (.int .i64) (.int .i64))), [.t 127], none, [3, 1, 2]⟩,
    ⟨some 129, .call 28, [.t 124, .t 128], none, [0, 4, 3, 1, 2]⟩,
    ⟨some 130, .not, [.t 129], none, [5, 0, 4, 3, 1, 2]⟩])
  (.cond (.t 130)
   (.reg false [
     ⟨some 131, .mv, [.t 13], none, []⟩,
     ⟨some 132, .mv, [.t 14], none, []⟩,
     ⟨some 133, .bslice 3 (.int .i64) 1 [0], [.t 132], none, []⟩,
     ⟨some 134, .append 3 (.int .i64) 8, [.t 131, .t 133], none, []⟩,
     ⟨some 13, .mv, [.t 134], none, []⟩])
   .skip)))
 (.clean (.reg false [
   ⟨some 122, .mv, [.t 14], none, []⟩,
   ⟨some 123, .bin .add, [.t 122, .int .i64 1], none, []⟩,
   ⟨some 14, .mv, [.t 123], none, []⟩]))))
def x11_2d : List Nat := [13, 14]
def x11 : XF := ⟨137, [.cell 4 (.st (.cons (.int .i64) (.cons (.int .i64) (.cons (.sl (.int .i64)) (.sl (.int .i64)))))), .tmp 5, .tmp 6], [0, 1, 2, 4, 5, 6, 7, 8, 9, 10, 11, 12, 13, 14],
 (.seq (.reg false [
   ⟨some 2, .box 24, [.t 0], none, []⟩,
   ⟨some 4, .alloc 24 (.st (.cons (.int .i64) (.cons (.int .i64) (.cons (.sl (.int .i64)) (.sl (.int .i64)))))), [], none, []⟩,
   ⟨some 5, .nilrow 3 (.int .i64), [], none, []⟩,
   ⟨some 6, .mv, [.int .i64 0], none, []⟩])
 (.seq (.seq (.reg false [
   ⟨some 15, .load (.st (.cons (.int .i64) (.cons (.int .i64) (.cons (.sl (.int .i64)) (.sl (.int .i64)))))), [.t 2], none, []⟩,
   ⟨some 16, .call 26, [.t 15], none, []⟩,
   ⟨some 17, .not, [.t 16], none, []⟩,
   ⟨some 18, .mv, [.t 17], none, []⟩,
   ⟨some 19, .mv, [.t 1], some (3, 18, false), []⟩,
   ⟨some 20, .call 15, [.t 19], some (3, 18, false), []⟩,
   ⟨some 21, .not, [.t 20], some (3, 18, false), []⟩,
   ⟨some 22, .pick, [.t 18, .bool true, .t 21], none, []⟩])
 (.cond (.t 22)
  (.seq (.reg false [
    ⟨some 23, .build (.st (.cons (.int .i64) (.cons (.int .i64) (.cons (.sl (.int .i64)) (.sl (.int .i64)))))) [], [], none, []⟩,
    ⟨none, .store (.st (.cons (.int .i64) (.cons (.int .i64) (.cons (.sl (.int .i64)) (.sl (.int .i64)))))), [.t 4, .t 23], none, []⟩,
    ⟨some 5, .nilrow 3 (.int .i64), [], none, []⟩,
    ⟨some 6, .mv, [.int .i64 1], none, []⟩])
  .ret)
  .skip))
 (.clean (.seq (.reg true [
   ⟨some 24, .faddr 0 (.int .i64), [.t 2], none, []⟩,
   ⟨some 25, .load (.int .i64), [.t 24], none, [0]⟩,
   ⟨some 26, .faddr 1 (.int .i64), [.t 2], none, []⟩,
   ⟨some 27, .load (.int .i64), [.t 26], none, [2]⟩,
   ⟨some 28, .bslice 3 (.int .i64) 0 [], [], none, []⟩,
   ⟨some 29, .faddr 2 (.sl (.int .i64)), [.t 2], none, []⟩,
   ⟨some 30, .load (.sl (.int .i64)), [.t 29], none, [5]⟩,
   ⟨some 31, .append 3 (.int .i64) 8, [.t 28, .t 30], none, [4, 6, 5]⟩,
   ⟨some 32, .bslice 3 (.int .i64) 0 [], [], none, []⟩,
   ⟨some 33, .faddr 3 (.sl (.int .i64)), [.t 2], none, []⟩,
   ⟨some 34, .load (.sl (.int .i64)), [.t 33], none, [9]⟩,
   ⟨some 35, .append 3 (.int .i64) 8, [.t 32, .t 34], none, [8, 10, 9, 7, 4, 6, 5]⟩,
   ⟨some 36, .build (.st (.cons (.int .i64) (.cons (.int .i64) (.cons (.sl (.int .i64)) (.sl (.int .i64)))))) [(0, (.int .i64)), (1, (.int .i64)), (2, (.sl (.int .i64))), (3, (.sl (.int .i64)))], [.t 25, .t 27, .t 31, .t 35], none, [1, 0, 3, 2, 7, 4, 6, 5, 11, 8, 10, 9]⟩,
   ⟨some 7, .alloc 24 (.st (.cons (.int .i64) (.cons (.int .i64) (.cons (.sl (.int .i64)) (.sl (.int .i64)))))), [], none, []⟩,
   ⟨none, .store (.st (.cons (.int .i64) (.cons (.int .i64) (.cons (.sl (.int .i64)) (.sl (.int .i64)))))), [.t 7, .t 36], none, [13, 12, 1, 0, 3, 2, 7, 4, 6, 5, 11, 8, 10, 9]⟩])
 (.clean (.seq (.seq (.reg false [
   ⟨some 8, .mv, [.int .i64 0], none, []⟩])
 (.block 0 (.loop x11_0)))
 (.clean (.seq (.reg false [
   ⟨some 13, .nilrow 3 (.int .i64), [], none, []⟩])
 (.seq (.seq (.reg false [
   ⟨some 14, .mv, [.int .i64 0], none, []⟩])
 (.block 4 (.loop x11_2)))
 (.clean (.seq (.reg false [
   ⟨some 135, .load (.st (.cons (.int .i64) (.cons (.int .i64) (.cons (.sl (.int .i64)) (.sl (.int .i64)))))), [.t 7], none, []⟩,
   ⟨some 136, .mv, [.t 13], none, []⟩,
   ⟨none, .store (.st (.cons (.int .i64) (.cons (.int .i64) (.cons (.sl (.int .i64)) (.sl (.int .i64)))))), [.t 4, .t 135], none, []⟩,
   ⟨some 5, .mv, [.t 136], none, []⟩,
   ⟨some 6, .mv, [.int .i64 0], none, []⟩])
 .ret)))))))))))⟩
/- 0=a 1=l 2=a 4= 5= 6= 7=out 8=h 9=many 10=least 11=most 12=i 13=strays 14=i -/
/-! tonneau/tonneauref10.Same -/
def x12_0 : XC := (.seq (.seq (.reg false [
   ⟨some 37, .mv, [.t 5], none, []⟩,
   ⟨some 38, .faddr 2 (.sl (.int .i64)), [.t 2], none, []⟩,
   ⟨some 39, .load (.sl (.int .i64)), [.t 38], none, []⟩,
   ⟨some 40, .len false, [.t 39], none, []⟩,
   ⟨some 41, .bin .lss, [.t 37, .t 40], none, []⟩])
 (.cond (.t 41)
  .skip
  (.exit 0)))
 (.clean (.seq (.block 1 (.seq (.reg true [
    ⟨some 44, .faddr 2 (.sl (.int .i64)), [.t 2], none, []⟩,
    ⟨some 45, .load (.sl (.int .i64)), [.t 44], none, [0]⟩,
    ⟨some 46, .mv, [.t 5], none, []⟩,
    ⟨some 47, .iaddr (.int .i64), [.t 45, .t 46], none, [1, 0, 2]⟩,
    ⟨some 48, .load (.int .i64), [.t 47], none, [3, 1, 0, 2]⟩,
    ⟨some 49, .faddr 2 (.sl (.int .i64)), [.t 3], none, []⟩,
    ⟨some 50, .load (.sl (.int .i64)), [.t 49], none, [5]⟩,
    ⟨some 51, .mv, [.t 5], none, []⟩,
    ⟨some 52, .iaddr (.int .i64), [.t 50, .t 51], none, [6, 5, 7]⟩,
    ⟨some 53, .load (.int .i64), [.t 52], none, [8, 6, 5, 7]⟩,
    ⟨some 54, .bin .neq, [.t 48, .t 53], none, [4, 3, 1, 0, 2, 9, 8, 6, 5, 7]⟩])
  (.cond (.t 54)
   (.seq (.reg false [
     ⟨some 4, .mv, [.bool false], none, []⟩])
   .ret)
   .skip)))
 (.clean (.reg false [
   ⟨some 42, .mv, [.t 5], none, []⟩,
   ⟨some 43, .bin .add, [.t 42, .int .i64 1], none, []⟩,
   ⟨some 5, .mv, [.t 43], none, []⟩])))))
def x12_0d : List Nat := [4, 5]
def x12_1 : XC := (.seq (.seq (.reg false [
   ⟨some 55, .mv, [.t 6], none, []⟩,
   ⟨some 56, .faddr 3 (.sl (.int .i64)), [.t 2], none, []⟩,
   ⟨some 57, .load (.sl (.int .i64)), [.t 56], none, []⟩,
   ⟨some 58, .len false, [.t 57], none, []⟩,
   ⟨some 59, .bin .lss, [.t 55, .t 58], none, []⟩])
 (.cond (.t 59)
  .skip
  (.exit 2)))
 (.clean (.seq (.block 3 (.seq (.reg true [
    ⟨some 62, .faddr 3 (.sl (.int .i64)), [.t 2], none, []⟩,
    ⟨some 63, .load (.sl (.int .i64)), [.t 62], none, [0]⟩,
    ⟨some 64, .mv, [.t 6], none, []⟩,
    ⟨some 65, .iaddr (.int .i64), [.t 63, .t 64], none, [1, 0, 2]⟩,
    ⟨some 66, .load (.int .i64), [.t 65], none, [3, 1, 0, 2]⟩,
    ⟨some 67, .faddr 3 (.sl (.int .i64)), [.t 3], none, []⟩,
    ⟨some 68, .load (.sl (.int .i64)), [.t 67], none, [5]⟩,
    ⟨some 69, .mv, [.t 6], none, []⟩,
    ⟨some 70, .iaddr (.int .i64), [.t 68, .t 69], none, [6, 5, 7]⟩,
    ⟨some 71, .load (.int .i64), [.t 70], none, [8, 6, 5, 7]⟩,
    ⟨some 72, .bin .neq, [.t 66, .t 71], none, [4, 3, 1, 0, 2, 9, 8, 6, 5, 7]⟩])
  (.cond (.t 72)
   (.seq (.reg false [
     ⟨some 4, .mv, [.bool false], none, []⟩])
   .ret)
   .skip)))
 (.clean (.reg false [
   ⟨some 60, .mv, [.t 6], none, []⟩,
   ⟨some 61, .bin .add, [.t 60, .int .i64 1], none, []⟩,
   ⟨some 6, .mv, [.t 61], none, []⟩])))))
def x12_1d : List Nat := [4, 6]
def x12 : XF := ⟨73, [.tmp 4], [0, 1, 2, 3, 4, 5, 6],
 (.seq (.reg false [
   ⟨some 2, .box 24, [.t 0], none, []⟩,
   ⟨some 3, .box 24, [.t 1], none, []⟩,
   ⟨some 4, .mv, [.bool false], none, []⟩])
 (.seq (.seq (.reg false [
   ⟨some 7, .faddr 0 (.int .i64), [.t 2], none, []⟩,
   ⟨some 8, .load (.int .i64), [.t 7], none, []⟩,
   ⟨some 9, .faddr 0 (.int .i64), [.t 3], none, []⟩,
   ⟨some 10, .load (.int .i64), [.t 9], none, []⟩,
   ⟨some 11, .bin .neq, [.t 8, .t 10], none, []⟩,
   ⟨some 12, .mv, [.t 11], none, []⟩,
   ⟨some 13, .faddr 1 (.int .i64), [.t 2], some (5, 12, false), []⟩,
   ⟨some 14, .load (.int .i64), [.t 13], some (5, 12, false), []⟩,
   ⟨some 15, .faddr 1 (.int .i64), [.t 3], some (5, 12, false), []⟩,
   ⟨some 16, .load (.int .i64), [.t 15], some (5, 12, false), []⟩,
   ⟨some 17, .bin .neq, [.t 14, .t 16], some (5, 12, false), []⟩,
   ⟨some 18, .pick, [.t 12, .bool true, .t 17], none, []⟩,
   ⟨some 19, .mv, [.t 18], none, []⟩,
   ⟨some 20, .faddr 2 (.sl (.int .i64)), [.t 2], some (12, 19, false), []⟩,
   ⟨some 21, .load (.sl (.int .i64)), [.t 20], some (12, 19, false), []⟩,
   ⟨some 22, .len false, [.t 21], some (12, 19, false), []⟩,
   ⟨some 23, .faddr 2 (.sl (.int .i64)), [.t 3], some (12, 19, false), []⟩,
   ⟨some 24, .load (.sl (.int .i64)), [.t 23], some (12, 19, false), []⟩,
   ⟨some 25, .len false, [.t 24], some (12, 19, false), []⟩,
   ⟨some 26, .bin .neq, [.t 22, .t 25], some (12, 19, false), []⟩,
   ⟨some 27, .pick, [.t 19, .bool true, .t 26], none, []⟩,
   ⟨some 28, .mv, [.t 27], none, []⟩,
   ⟨some 29, .faddr 3 (.sl (.int .i64)), [.t 2], some (21, 28, false), []⟩,
   ⟨some 30, .load (.sl (.int .i64)), [.t 29], some (21, 28, false), []⟩,
   ⟨some 31, .len false, [.t 30], some (21, 28, false), []⟩,
   ⟨some 32, .faddr 3 (.sl (.int .i64)), [.t 3], some (21, 28, false), []⟩,
   ⟨some 33, .load (.sl (.int .i64)), [.t 32], some (21, 28, false), []⟩,
   ⟨some 34, .len false, [.t 33], some (21, 28, false), []⟩,
   ⟨some 35, .bin .neq, [.t 31, .t 34], some (21, 28, false), []⟩,
   ⟨some 36, .pick, [.t 28, .bool true, .t 35], none, []⟩])
 (.cond (.t 36)
  (.seq (.reg false [
    ⟨some 4, .mv, [.bool false], none, []⟩])
  .ret)
  .skip))
 (.clean (.seq (.seq (.reg false [
   ⟨some 5, .mv, [.int .i64 0], none, []⟩])
 (.block 0 (.loop x12_0)))
 (.clean (.seq (.seq (.reg false [
   ⟨some 6, .mv, [.int .i64 0], none, []⟩])
 (.block 2 (.loop x12_1)))
 (.seq (.reg false [
   ⟨some 4, .mv, [.bool true], none, []⟩])
 .ret)))))))⟩
/- 0=a 1=b 2=a 3=b 4= 5=i 6=i -/
/-! tonneau/tonneauref14.Ints -/
def x13_0 : XC := (.seq (.seq (.reg false [
   ⟨some 11, .mv, [.t 5], none, []⟩,
   ⟨some 12, .mv, [.t 0], none, []⟩,
   ⟨some 13, .len false, [.t 12], none, []⟩,
   ⟨some 14, .bin .lss, [.t 11, .t 13], none, []⟩])
 (.cond (.t 14)
  .skip
  (.exit 0)))
 (.seq (.block 1 (.seq (.reg true [
    ⟨some 17, .mv, [.t 0], none, []⟩,
    ⟨some 18, .mv, [.t 5], none, []⟩,
    ⟨some 19, .iaddr (.int .i64), [.t 17, .t 18], none, [0, 1]⟩,
    ⟨some 20, .load (.int .i64), [.t 19], none, [2, 0, 1]⟩,
    ⟨some 21, .mv, [.t 1], none, []⟩,
    ⟨some 22, .mv, [.t 5], none, []⟩,
    ⟨some 23, .iaddr (.int .i64), [.t 21, .t 22], none, [4, 5]⟩,
    ⟨some 24, .load (.int .i64), [.t 23], none, [6, 4, 5]⟩,
    ⟨some 25, .bin .neq, [.t 20, .t 24], none, [3, 2, 0, 1, 7, 6, 4, 5]⟩])
  (.cond (.t 25)
   (.seq (.reg false [
     ⟨some 4, .mv, [.bool false], none, []⟩])
   .ret)
   .skip)))
 (.clean (.reg false [
   ⟨some 15, .mv, [.t 5], none, []⟩,
   ⟨some 16, .bin .add, [.t 15, .int .i64 1], none, []⟩,
   ⟨some 5, .mv, [.t 16], none, []⟩]))))
def x13_0d : List Nat := [4, 5]
def x13 : XF := ⟨26, [.tmp 4], [0, 1, 4, 5],
 (.seq (.reg false [
   ⟨some 4, .mv, [.bool false], none, []⟩])
 (.seq (.seq (.reg false [
   ⟨some 6, .mv, [.t 0], none, []⟩,
   ⟨some 7, .len false, [.t 6], none, []⟩,
   ⟨some 8, .mv, [.t 1], none, []⟩,
   ⟨some 9, .len false, [.t 8], none, []⟩,
   ⟨some 10, .bin .neq, [.t 7, .t 9], none, []⟩])
 (.cond (.t 10)
  (.seq (.reg false [
    ⟨some 4, .mv, [.bool false], none, []⟩])
  .ret)
  .skip))
 (.clean (.seq (.seq (.reg false [
   ⟨some 5, .mv, [.int .i64 0], none, []⟩])
 (.block 0 (.loop x13_0)))
 (.seq (.reg false [
   ⟨some 4, .mv, [.bool true], none, []⟩])
 .ret)))))⟩
/- 0=a 1=b 4= 5=i -/
/-! tonneau/gauge.Right -/
def x14 : XF := ⟨11, [.tmp 2], [0, 2],
 (.seq (.reg false [
   ⟨some 2, .mv, [.bool false], none, []⟩])
 (.seq (.reg false [
   ⟨some 3, .mv, [.t 0], none, []⟩,
   ⟨some 4, .len false, [.t 3], none, []⟩,
   ⟨some 5, .bin .leq, [.t 4, .int .i64 10000], none, []⟩,
   ⟨some 6, .mv, [.t 5], none, []⟩,
   ⟨some 7, .mv, [.t 0], some (3, 6, true), []⟩,
   ⟨some 8, .call 29, [.t 7, .fn 30], some (3, 6, true), []⟩,
   ⟨some 9, .not, [.t 8], some (3, 6, true), []⟩,
   ⟨some 10, .pick, [.t 6, .t 9, .bool false], none, []⟩,
   ⟨some 2, .mv, [.t 10], none, []⟩])
 .ret))⟩
/- 0=l 2= -/
/-! tonneau/tonneauref14.Right -/
def x15_0 : XC := (.seq (.seq (.reg false [
   ⟨some 4, .mv, [.t 3], none, []⟩,
   ⟨some 5, .mv, [.t 0], none, []⟩,
   ⟨some 6, .len false, [.t 5], none, []⟩,
   ⟨some 7, .bin .lss, [.t 4, .t 6], none, []⟩])
 (.cond (.t 7)
  .skip
  (.exit 0)))
 (.seq (.block 1 (.seq (.reg false [
    ⟨some 10, .mv, [.t 0], none, []⟩,
    ⟨some 11, .mv, [.t 3], none, []⟩,
    ⟨some 12, .iaddr (.st (.cons (.int .i64) (.int .i64))), [.t 10, .t 11], none, []⟩,
    ⟨some 13, .faddr 0 (.int .i64), [.t 12], none, []⟩,
    ⟨some 14, .load (.int .i64), [.t 13], none, []⟩,
    ⟨some 15, .call 31, [.t 14], none, []⟩,
    ⟨some 16, .not, [.t 15], none, []⟩,
    ⟨some 17, .mv, [.t 16], none, []⟩,
    ⟨some 18, .mv, [.t 0], some (7, 17, false), []⟩,
    ⟨some 19, .mv, [.t 3], some (7, 17, false), []⟩,
    ⟨some 20, .iaddr (.st (.cons (.int .i64) (.int .i64))), [.t 18, .t 19], some (7, 17, false), []⟩,
    ⟨some 21, .faddr 1 (.int .i64), [.t 20], some (7, 17, false), []⟩,
    ⟨some 22, .load (.int .i64), [.t 21], some (7, 17, false), []⟩,
    ⟨some 23, .bin .lss, [.t 22, .int .i64 0], some (7, 17, false), []⟩,
    ⟨some 24, .pick, [.t 17, .bool true, .t 23], none, []⟩,
    ⟨some 25, .mv, [.t 24], none, []⟩,
    ⟨some 26, .mv, [.t 0], some (15, 25, false), []⟩,
    ⟨some 27, .mv, [.t 3], some (15, 25, false), []⟩,
    ⟨some 28, .iaddr (.st (.cons (.int .i64) (.int .i64))), [.t 26, .t 27], some (15, 25, false), []⟩,
    ⟨some 29, .faddr 1 (.int .i64), [.t 28], some (15, 25, false), []⟩,
    ⟨some 30, .load (.int .i64), [.t 29], some (15, 25, false), []⟩,
    ⟨some 31, .bin .gtr, [.t 30, .int .i64 10000], some (15, 25, false), []⟩,
    ⟨some 32, .pick, [.t 25, .bool true, .t 31], none, []⟩])
  (.cond (.t 32)
   (.seq (.reg false [
     ⟨some 2, .mv, [.bool false], none, []⟩])
   .ret)
   .skip)))
 (.clean (.reg false [
   ⟨some 8, .mv, [.t 3], none, []⟩,
   ⟨some 9, .bin .add, [.t 8, .int .i64 1], none, []⟩,
   ⟨some 3, .mv, [.t 9], none, []⟩]))))
def x15_0d : List Nat := [2, 3]
def x15 : XF := ⟨36, [.tmp 2], [0, 2, 3],
 (.seq (.reg false [
   ⟨some 2, .mv, [.bool false], none, []⟩])
 (.seq (.seq (.reg false [
   ⟨some 3, .mv, [.int .i64 0], none, []⟩])
 (.block 0 (.loop x15_0)))
 (.clean (.seq (.reg false [
   ⟨some 33, .mv, [.t 0], none, []⟩,
   ⟨some 34, .len false, [.t 33], none, []⟩,
   ⟨some 35, .bin .leq, [.t 34, .int .i64 10000], none, []⟩,
   ⟨some 2, .mv, [.t 35], none, []⟩])
 .ret))))⟩
/- 0=l 2= 3=i -/
/-! tonneau/clock.Right -/
def x16_0 : XC := (.seq (.reg false [
   ⟨some 29, .bin .lss, [.t 28, .t 27], none, []⟩])
 (.seq (.cond (.t 29)
  .skip
  (.exit 0))
 (.seq (.block 1 (.seq (.reg false [
    ⟨some 30, .mv, [.t 28], none, []⟩,
    ⟨some 31, .iaddr (.int .i64), [.t 26, .t 28], none, []⟩,
    ⟨some 32, .load (.int .i64), [.t 31], none, []⟩,
    ⟨some 3, .mv, [.t 30], none, []⟩,
    ⟨some 4, .mv, [.t 32], none, []⟩])
  (.seq (.reg false [
    ⟨some 33, .mv, [.t 4], none, []⟩,
    ⟨some 34, .bin .lss, [.t 33, .int .i64 0], none, []⟩,
    ⟨some 35, .mv, [.t 34], none, []⟩,
    ⟨some 36, .mv, [.t 4], some (2, 35, false), []⟩,
    ⟨some 37, .faddr 3 (.sl (.int .i64)), [.t 1], some (2, 35, false), []⟩,
    ⟨some 38, .load (.sl (.int .i64)), [.t 37], some (2, 35, false), []⟩,
    ⟨some 39, .mv, [.t 3], some (2, 35, false), []⟩,
    ⟨some 40, .iaddr (.int .i64), [.t 38, .t 39], some (2, 35, false), []⟩,
    ⟨some 41, .load (.int .i64), [.t 40], some (2, 35, false), []⟩,
    ⟨some 42, .bin .gtr, [.t 36, .t 41], some (2, 35, false), []⟩,
    ⟨some 43, .pick, [.t 35, .bool true, .t 42], none, []⟩,
    ⟨some 44, .mv, [.t 43], none, []⟩,
    ⟨some 45, .faddr 3 (.sl (.int .i64)), [.t 1], some (11, 44, false), []⟩,
    ⟨some 46, .load (.sl (.int .i64)), [.t 45], some (11, 44, false), []⟩,
    ⟨some 47, .mv, [.t 3], some (11, 44, false), []⟩,
    ⟨some 48, .iaddr (.int .i64), [.t 46, .t 47], some (11, 44, false), []⟩,
    ⟨some 49, .load (.int .i64), [.t 48], some (11, 44, false), []⟩,
    ⟨some 50, .bin .gtr, [.t 49, .int .i64 600], some (11, 44, false), []⟩,
    ⟨some 51, .pick, [.t 44, .bool true, .t 50], none, []⟩])
  (.cond (.t 51)
   (.seq (.reg false [
     ⟨some 2, .mv, [.bool false], none, []⟩])
   .ret)
   .skip))))
 (.reg false [
   ⟨some 52, .bin .add, [.t 28, .int .i64 1], none, []⟩,
   ⟨some 28, .mv, [.t 52], none, []⟩]))))
def x16_0d : List Nat := [2, 3, 4, 28]
def x16 : XF := ⟨53, [.tmp 2], [0, 1, 2, 3, 4, 26, 27, 28],
 (.seq (.reg false [
   ⟨some 1, .box 24, [.t 0], none, []⟩,
   ⟨some 2, .mv, [.bool false], none, []⟩])
 (.seq (.seq (.reg false [
   ⟨some 5, .faddr 0 (.int .i64), [.t 1], none, []⟩,
   ⟨some 6, .load (.int .i64), [.t 5], none, []⟩,
   ⟨some 7, .bin .lss, [.t 6, .int .i64 0], none, []⟩,
   ⟨some 8, .mv, [.t 7], none, []⟩,
   ⟨some 9, .faddr 1 (.int .i64), [.t 1], some (3, 8, false), []⟩,
   ⟨some 10, .load (.int .i64), [.t 9], some (3, 8, false), []⟩,
   ⟨some 11, .bin .lss, [.t 10, .int .i64 0], some (3, 8, false), []⟩,
   ⟨some 12, .pick, [.t 8, .bool true, .t 11], none, []⟩,
   ⟨some 13, .mv, [.t 12], none, []⟩,
   ⟨some 14, .faddr 2 (.sl (.int .i64)), [.t 1], some (8, 13, false), []⟩,
   ⟨some 15, .load (.sl (.int .i64)), [.t 14], some (8, 13, false), []⟩,
   ⟨some 16, .len false, [.t 15], some (8, 13, false), []⟩,
   ⟨some 17, .bin .neq, [.t 16, .int .i64 24], some (8, 13, false), []⟩,
   ⟨some 18, .pick, [.t 13, .bool true, .t 17], none, []⟩,
   ⟨some 19, .mv, [.t 18], none, []⟩,
   ⟨some 20, .faddr 3 (.sl (.int .i64)), [.t 1], some (14, 19, false), []⟩,
   ⟨some 21, .load (.sl (.int .i64)), [.t 20], some (14, 19, false), []⟩,
   ⟨some 22, .len false, [.t 21], some (14, 19, false), []⟩,
   ⟨some 23, .bin .neq, [.t 22, .int .i64 24], some (14, 19, false), []⟩,
   ⟨some 24, .pick, [.t 19, .bool true, .t 23], none, []⟩])
 (.cond (.t 24)
  (.seq (.reg false [
    ⟨some 2, .mv, [.bool false], none, []⟩])
  .ret)
  .skip))
 (.clean (.seq (.seq (.reg false [
   ⟨some 25, .faddr 2 (.sl (.int .i64)), [.t 1], none, []⟩,
   ⟨some 26, .load (.sl (.int .i64)), [.t 25], none, []⟩,
   ⟨some 27, .len false, [.t 26], none, []⟩,
   ⟨some 28, .mv, [.int .i64 0], none, []⟩])
 (.block 0 (.loop x16_0)))
 (.seq (.reg false [
   ⟨some 2, .mv, [.bool true], none, []⟩])
 .ret)))))⟩
/- 0=a 1=a 2= 3=h 4=low 26= 27= 28= -/
/-! tonneau/tonneaulaw14.whole -/
def x17 : XF := ⟨13, [.tmp 2], [0, 1, 2],
 (.seq (.reg false [
   ⟨some 1, .box 24, [.t 0], none, []⟩,
   ⟨some 2, .mv, [.bool false], none, []⟩])
 (.seq (.reg false [
   ⟨some 3, .faddr 2 (.sl (.int .i64)), [.t 1], none, []⟩,
   ⟨some 4, .load (.sl (.int .i64)), [.t 3], none, []⟩,
   ⟨some 5, .len false, [.t 4], none, []⟩,
   ⟨some 6, .bin .eql, [.t 5, .int .i64 24], none, []⟩,
   ⟨some 7, .mv, [.t 6], none, []⟩,
   ⟨some 8, .faddr 3 (.sl (.int .i64)), [.t 1], some (4, 7, true), []⟩,
   ⟨some 9, .load (.sl (.int .i64)), [.t 8], some (4, 7, true), []⟩,
   ⟨some 10, .len false, [.t 9], some (4, 7, true), []⟩,
   ⟨some 11, .bin .eql, [.t 10, .int .i64 24], some (4, 7, true), []⟩,
   ⟨some 12, .pick, [.t 7, .t 11, .bool false], none, []⟩,
   ⟨some 2, .mv, [.t 12], none, []⟩])
 .ret))⟩
/- 0=a 1=a 2= -/
/-! tonneau/clock.Pass -/
def x18 : XF := ⟨15, [.tmp 6], [0, 1, 2, 3, 6],
 (.seq (.reg false [
   ⟨some 3, .box 24, [.t 0], none, []⟩,
   ⟨some 6, .mv, [.int .i64 0], none, []⟩])
 (.seq (.seq (.reg false [
   ⟨some 7, .load (.st (.cons (.int .i64) (.cons (.int .i64) (.cons (.sl (.int .i64)) (.sl (.int .i64)))))), [.t 3], none, []⟩,
   ⟨some 8, .mv, [.t 1], none, []⟩,
   ⟨some 9, .call 32, [.t 7, .t 8], none, []⟩,
   ⟨some 10, .not, [.t 9], none, []⟩])
 (.cond (.t 10)
  (.seq (.reg false [
    ⟨some 6, .mv, [.int .i64 (-1)], none, []⟩])
  .ret)
  .skip))
 (.clean (.seq (.reg false [
   ⟨some 11, .load (.st (.cons (.int .i64) (.cons (.int .i64) (.cons (.sl (.int .i64)) (.sl (.int .i64)))))), [.t 3], none, []⟩,
   ⟨some 12, .mv, [.t 1], none, []⟩,
   ⟨some 13, .mv, [.t 2], none, []⟩,
   ⟨some 14, .call 33, [.t 11, .t 12, .t 13], none, []⟩,
   ⟨some 6, .mv, [.t 14], none, []⟩])
 .ret))))⟩
/- 0=a 1=t 2=high 3=a 6= -/
/-! tonneau/clock.Last -/
def x19_0 : XC := (.seq (.seq (.reg false [
   ⟨some 19, .mv, [.t 7], none, []⟩,
   ⟨some 20, .mv, [.t 8], none, []⟩,
   ⟨some 21, .bin .lss, [.t 19, .t 20], none, []⟩])
 (.cond (.t 21)
  .skip
  (.exit 0)))
 (.block 1 (.seq (.reg false [
    ⟨some 22, .mv, [.t 7], none, []⟩,
    ⟨some 23, .mv, [.t 8], none, []⟩,
    ⟨some 24, .bin .add, [.t 22, .t 23], none, []⟩,
    ⟨some 25, .bin .add, [.t 24, .int .i64 1], none, []⟩,
    ⟨some 26, .bin .quo, [.t 25, .int .i64 2], none, []⟩,
    ⟨some 9, .mv, [.t 26], none, []⟩])
  (.clean (.seq (.reg false [
    ⟨some 27, .load (.st (.cons (.int .i64) (.cons (.int .i64) (.cons (.sl (.int .i64)) (.sl (.int .i64)))))), [.t 3], none, []⟩,
    ⟨some 28, .mv, [.t 9], none, []⟩,
    ⟨some 29, .mv, [.t 2], none, []⟩,
    ⟨some 30, .call 33, [.t 27, .t 28, .t 29], none, []⟩,
    ⟨some 31, .mv, [.t 1], none, []⟩,
    ⟨some 32, .bin .leq, [.t 30, .t 31], none, []⟩])
  (.cond (.t 32)
   (.reg false [
     ⟨some 33, .mv, [.t 9], none, []⟩,
     ⟨some 7, .mv, [.t 33], none, []⟩])
   (.reg false [
     ⟨some 34, .mv, [.t 9], none, []⟩,
     ⟨some 35, .bin .sub, [.t 34, .int .i64 1], none, []⟩,
     ⟨some 8, .mv, [.t 35], none, []⟩])))))))
def x19_0d : List Nat := [7, 8, 9]
def x19 : XF := ⟨37, [.tmp 6], [0, 1, 2, 3, 6, 7, 8, 9],
 (.seq (.reg false [
   ⟨some 3, .box 24, [.t 0], none, []⟩,
   ⟨some 6, .mv, [.int .i64 0], none, []⟩])
 (.seq (.seq (.reg false [
   ⟨some 10, .mv, [.t 1], none, []⟩,
   ⟨some 11, .bin .lss, [.t 10, .int .i64 0], none, []⟩,
   ⟨some 12, .mv, [.t 11], none, []⟩,
   ⟨some 13, .load (.st (.cons (.int .i64) (.cons (.int .i64) (.cons (.sl (.int .i64)) (.sl (.int .i64)))))), [.t 3], some (2, 12, false), []⟩,
   ⟨some 14, .call 16, [.t 13], some (2, 12, false), []⟩,
   ⟨some 15, .not, [.t 14], some (2, 12, false), []⟩,
   ⟨some 16, .pick, [.t 12, .bool true, .t 15], none, []⟩])
 (.cond (.t 16)
  (.seq (.reg false [
    ⟨some 6, .mv, [.int .i64 (-1)], none, []⟩])
  .ret)
  .skip))
 (.clean (.seq (.reg false [
   ⟨some 17, .mv, [.t 1], none, []⟩,
   ⟨some 18, .min, [.t 17, .int .i64 1048576], none, []⟩,
   ⟨some 7, .mv, [.int .i64 (-1)], none, []⟩,
   ⟨some 8, .mv, [.t 18], none, []⟩])
 (.seq (.block 0 (.loop x19_0))
 (.seq (.reg false [
   ⟨some 36, .mv, [.t 7], none, []⟩,
   ⟨some 6, .mv, [.t 36], none, []⟩])
 .ret))))))⟩
/- 0=a 1=by 2=high 3=a 6= 7=low 8=up 9=mid -/
/-! tonneau/tonneaulaw14.wide -/
def x20_0 : XC := (.seq (.seq (.reg false [
   ⟨some 3, .mv, [.t 2], none, []⟩,
   ⟨some 4, .bin .lss, [.t 3, .int .i64 24], none, []⟩])
 (.cond (.t 4)
  .skip
  (.exit 0)))
 (.seq (.block 1 (.seq (.reg false [
    ⟨some 7, .faddr 2 (.sl (.int .i64)), [.t 1], none, []⟩,
    ⟨some 8, .load (.sl (.int .i64)), [.t 7], none, []⟩,
    ⟨some 9, .bslice 3 (.int .i64) 1 [0], [.int .i64 10], none, []⟩,
    ⟨some 10, .append 3 (.int .i64) 8, [.t 8, .t 9], none, []⟩,
    ⟨some 11, .faddr 2 (.sl (.int .i64)), [.t 1], none, []⟩,
    ⟨none, .store (.sl (.int .i64)), [.t 11, .t 10], none, []⟩])
  (.reg false [
    ⟨some 12, .faddr 3 (.sl (.int .i64)), [.t 1], none, []⟩,
    ⟨some 13, .load (.sl (.int .i64)), [.t 12], none, []⟩,
    ⟨some 14, .bslice 3 (.int .i64) 1 [0], [.int .i64 50], none, []⟩,
    ⟨some 15, .append 3 (.int .i64) 8, [.t 13, .t 14], none, []⟩,
    ⟨some 16, .faddr 3 (.sl (.int .i64)), [.t 1], none, []⟩,
    ⟨none, .store (.sl (.int .i64)), [.t 16, .t 15], none, []⟩])))
 (.clean (.reg false [
   ⟨some 5, .mv, [.t 2], none, []⟩,
   ⟨some 6, .bin .add, [.t 5, .int .i64 1], none, []⟩,
   ⟨some 2, .mv, [.t 6], none, []⟩]))))
def x20_0d : List Nat := [2]
def x20 : XF := ⟨18, [.cell 0 (.st (.cons (.int .i64) (.cons (.int .i64) (.cons (.sl (.int .i64)) (.sl (.int .i64))))))], [0, 1, 2],
 (.seq (.reg false [
   ⟨some 0, .alloc 24 (.st (.cons (.int .i64) (.cons (.int .i64) (.cons (.sl (.int .i64)) (.sl (.int .i64)))))), [], none, []⟩])
 (.seq (.reg false [
   ⟨some 1, .alloc 24 (.st (.cons (.int .i64) (.cons (.int .i64) (.cons (.sl (.int .i64)) (.sl (.int .i64)))))), [], none, []⟩])
 (.seq (.seq (.reg false [
   ⟨some 2, .mv, [.int .i64 0], none, []⟩])
 (.block 0 (.loop x20_0)))
 (.seq (.reg false [
   ⟨some 17, .load (.st (.cons (.int .i64) (.cons (.int .i64) (.cons (.sl (.int .i64)) (.sl (.int .i64)))))), [.t 1], none, []⟩,
   ⟨none, .store (.st (.cons (.int .i64) (.cons (.int .i64) (.cons (.sl (.int .i64)) (.sl (.int .i64)))))), [.t 0, .t 17], none, []⟩])
 .ret))))⟩
/- 0= 1=a 2=h -/
/-! tonneau/tonneaulaw14.seen -/
def x21_0 : XC := (.seq (.seq (.reg false [
   ⟨some 5, .mv, [.t 4], none, []⟩,
   ⟨some 6, .mv, [.t 0], none, []⟩,
   ⟨some 7, .len false, [.t 6], none, []⟩,
   ⟨some 8, .bin .lss, [.t 5, .t 7], none, []⟩])
 (.cond (.t 8)
  .skip
  (.exit 0)))
 (.seq (.block 1 (.reg false [
    ⟨some 11, .mv, [.t 3], none, []⟩,
    ⟨some 12, .mv, [.t 4], none, []⟩,
    ⟨some 13, .bin .add, [.int .i64 480, .t 12], none, []⟩,
    ⟨some 14, .mv, [.t 0], none, []⟩,
    ⟨some 15, .mv, [.t 4], none, []⟩,
    ⟨some 16, .iaddr (.int .i64), [.t 14, .t 15], none, []⟩,
    ⟨some 17, .load (.int .i64), [.t 16], none, []⟩,
    ⟨some 18, .build (.st (.cons (.int .i64) (.int .i64))) [(0, (.int .i64)), (1, (.int .i64))], [.t 13, .t 17], none, []⟩,
    ⟨some 19, .bslice 36 (.st (.cons (.int .i64) (.int .i64))) 1 [0], [.t 18], none, []⟩,
    ⟨some 20, .append 36 (.st (.cons (.int .i64) (.int .i64))) 16, [.t 11, .t 19], none, []⟩,
    ⟨some 3, .mv, [.t 20], none, []⟩]))
 (.clean (.reg false [
   ⟨some 9, .mv, [.t 4], none, []⟩,
   ⟨some 10, .bin .add, [.t 9, .int .i64 1], none, []⟩,
   ⟨some 4, .mv, [.t 10], none, []⟩]))))
def x21_0d : List Nat := [3, 4]
def x21 : XF := ⟨22, [.tmp 2], [0, 2, 3, 4],
 (.seq (.reg false [
   ⟨some 2, .nilrow 36 (.st (.cons (.int .i64) (.int .i64))), [], none, []⟩])
 (.seq (.reg false [
   ⟨some 3, .nilrow 36 (.st (.cons (.int .i64) (.int .i64))), [], none, []⟩])
 (.seq (.seq (.reg false [
   ⟨some 4, .mv, [.int .i64 0], none, []⟩])
 (.block 0 (.loop x21_0)))
 (.seq (.reg false [
   ⟨some 21, .mv, [.t 3], none, []⟩,
   ⟨some 2, .mv, [.t 21], none, []⟩])
 .ret))))⟩
/- 0=took 2= 3=out 4=i -/
/-! tonneau/tonneauref10.Few -/
def x22 : XF := ⟨13, [.tmp 2], [0, 1, 2],
 (.seq (.reg false [
   ⟨some 1, .box 24, [.t 0], none, []⟩,
   ⟨some 2, .mv, [.bool false], none, []⟩])
 (.seq (.reg false [
   ⟨some 3, .faddr 2 (.sl (.int .i64)), [.t 1], none, []⟩,
   ⟨some 4, .load (.sl (.int .i64)), [.t 3], none, []⟩,
   ⟨some 5, .len false, [.t 4], none, []⟩,
   ⟨some 6, .bin .leq, [.t 5, .int .i64 40], none, []⟩,
   ⟨some 7, .mv, [.t 6], none, []⟩,
   ⟨some 8, .faddr 3 (.sl (.int .i64)), [.t 1], some (4, 7, true), []⟩,
   ⟨some 9, .load (.sl (.int .i64)), [.t 8], some (4, 7, true), []⟩,
   ⟨some 10, .len false, [.t 9], some (4, 7, true), []⟩,
   ⟨some 11, .bin .leq, [.t 10, .int .i64 40], some (4, 7, true), []⟩,
   ⟨some 12, .pick, [.t 7, .t 11, .bool false], none, []⟩,
   ⟨some 2, .mv, [.t 12], none, []⟩])
 .ret))⟩
/- 0=a 1=a 2= -/
/-! tonneau/tonneauref10.Right -/
def x26_0 : XC := (.seq (.seq (.reg false [
   ⟨some 24, .mv, [.t 3], none, []⟩,
   ⟨some 25, .bin .lss, [.t 24, .int .i64 24], none, []⟩])
 (.cond (.t 25)
  .skip
  (.exit 0)))
 (.seq (.block 1 (.seq (.reg true [
    ⟨some 28, .faddr 2 (.sl (.int .i64)), [.t 1], none, []⟩,
    ⟨some 29, .load (.sl (.int .i64)), [.t 28], none, [0]⟩,
    ⟨some 30, .mv, [.t 3], none, []⟩,
    ⟨some 31, .iaddr (.int .i64), [.t 29, .t 30], none, [1, 0, 2]⟩,
    ⟨some 32, .load (.int .i64), [.t 31], none, [3, 1, 0, 2]⟩,
    ⟨some 33, .bin .lss, [.t 32, .int .i64 0], none, [4, 3, 1, 0, 2]⟩,
    ⟨some 34, .mv, [.t 33], none, [5, 4, 3, 1, 0, 2]⟩,
    ⟨some 35, .faddr 2 (.sl (.int .i64)), [.t 1], some (6, 34, false), [6, 5, 4, 3, 1, 0, 2]⟩,
    ⟨some 36, .load (.sl (.int .i64)), [.t 35], some (6, 34, false), [7, 6, 5, 4, 3, 1, 0, 2]⟩,
    ⟨some 37, .mv, [.t 3], some (6, 34, false), [6, 5, 4, 3, 1, 0, 2]⟩,
    ⟨some 38, .iaddr (.int .i64), [.t 36, .t 37], some (6, 34, false), [8, 7, 6, 5, 4, 3, 1, 0, 2, 9]⟩,
    ⟨some 39, .load (.int .i64), [.t 38], some (6, 34, false), [10, 8, 7, 6, 5, 4, 3, 1, 0, 2, 9]⟩,
    ⟨some 40, .faddr 3 (.sl (.int .i64)), [.t 1], some (6, 34, false), [6, 5, 4, 3, 1, 0, 2]⟩,
    ⟨some 41, .load (.sl (.int .i64)), [.t 40], some (6, 34, false), [12, 6, 5, 4, 3, 1, 0, 2]⟩,
    ⟨some 42, .mv, [.t 3], some (6, 34, false), [6, 5, 4, 3, 1, 0, 2]⟩,
    ⟨some 43, .iaddr (.int .i64), [.t 41, .t 42], some (6, 34, false), [13, 12, 6, 5, 4, 3, 1, 0, 2, 14]⟩,
    ⟨some 44, .load (.int .i64), [.t 43], some (6, 34, false), [15, 13, 12, 6, 5, 4, 3, 1, 0, 2, 14]⟩,
    ⟨some 45, .bin .gtr, [.t 39, .t 44], some (6, 34, false), [11, 10, 8, 7, 6, 5, 4, 3, 1, 0, 2, 9, 16, 15, 13, 12, 14]⟩,
    ⟨some 46, .pick, [.t 34, .bool true, .t 45], none, [6, 5, 4, 3, 1, 0, 2, 17, 11, 10, 8, 7, 9, 16, 15, 13, 12, 14]⟩,
    ⟨some 47, .mv, [.t 46], none, [18, 6, 5, 4, 3, 1, 0, 2, 17, 11, 10, 8, 7, 9, 16, 15, 13, 12, 14]⟩,
    ⟨some 48, .faddr 3 (.sl (.int .i64)), [.t 1], some (19, 47, false), [19, 18, 6, 5, 4, 3, 1, 0, 2, 17, 11, 10, 8, 7, 9, 16, 15, 13, 12, 14]⟩,
    ⟨some 49, .load (.sl (.int .i64)), [.t 48], some (19, 47, false), [20, 19, 18, 6, 5, 4, 3, 1, 0, 2, 17, 11, 10, 8, 7, 9, 16, 15, 13, 12, 14]⟩,
    ⟨some 50, .mv, [.t 3], some (19, 47, false), [19, 18, 6, 5, 4, 3, 1, 0, 2, 17, 11, 10, 8, 7, 9, 16, 15, 13, 12, 14]⟩,
    ⟨some 51, .iaddr (.int .i64), [.t 49, .t 50], some (19, 47, false), [21, 20, 19, 18, 6, 5, 4, 3, 1, 0, 2, 17, 11, 10, 8, 7, 9, 16, 15, 13, 12, 14, 22]⟩,
    ⟨some 52, .load (.int .i64), [.t 51], some (19, 47, false), [23, 21, 20, 19, 18, 6, 5, 4, 3, 1, 0, 2, 17, 11, 10, 8, 7, 9, 16, 15, 13, 12, 14, 22]⟩,
    ⟨some 53, .bin .gtr, [.t 52, .int .i64 600], some (19, 47, false), [24, 23, 21, 20, 19, 18, 6, 5, 4, 3, 1, 0, 2, 17, 11, 10, 8, 7, 9, 16, 15, 13, 12, 14, 22]⟩,
    ⟨some 54, .pick, [.t 47, .bool true, .t 53], none, [19, 18, 6, 5, 4, 3, 1, 0, 2, 17, 11, 10, 8, 7, 9, 16, 15, 13, 12, 14, 25, 24, 23, 21, 20, 22]⟩])
  (.cond (.t 54)
   (.seq (.reg false [
     ⟨some 2, .mv, [.bool false], none, []⟩])
   .ret)
   .skip)))
 (.clean (.reg false [
   ⟨some 26, .mv, [.t 3], none, []⟩,
   ⟨some 27, .bin .add, [.t 26, .int .i64 1], none, []⟩,
   ⟨some 3, .mv, [.t 27], none, []⟩]))))
def x26_0d : List Nat := [2, 3]
def x26 : XF := ⟨55, [.tmp 2], [0, 1, 2, 3],
 (.seq (.reg false [
   ⟨some 1, .box 24, [.t 0], none, []⟩,
   ⟨some 2, .mv, [.bool false], none, []⟩])
 (.seq (.seq (.reg false [
   ⟨some 4, .faddr 0 (.int .i64), [.t 1], none, []⟩,
   ⟨some 5, .load (.int .i64), [.t 4], none, []⟩,
   ⟨some 6, .bin .lss, [.t 5, .int .i64 0], none, []⟩,
   ⟨some 7, .mv, [.t 6], none, []⟩,
   ⟨some 8, .faddr 1 (.int .i64), [.t 1], some (3, 7, false), []⟩,
   ⟨some 9, .load (.int .i64), [.t 8], some (3, 7, false), []⟩,
   ⟨some 10, .bin .lss, [.t 9, .int .i64 0], some (3, 7, false), []⟩,
   ⟨some 11, .pick, [.t 7, .bool true, .t 10], none, []⟩,
   ⟨some 12, .mv, [.t 11], none, []⟩,
   ⟨some 13, .faddr 2 (.sl (.int .i64)), [.t 1], some (8, 12, false), []⟩,
   ⟨some 14, .load (.sl (.int .i64)), [.t 13], some (8, 12, false), []⟩,
   ⟨some 15, .len false, [.t 14], some (8, 12, false), []⟩,
   ⟨some 16, .bin .neq, [.t 15, .int .i64 24], some (8, 12, false), []⟩,
   ⟨some 17, .pick, [.t 12, .bool true, .t 16], none, []⟩,
   ⟨some 18, .mv, [.t 17], none, []⟩,
   ⟨some 19, .faddr 3 (.sl (.int .i64)), [.t 1], some (14, 18, false), []⟩,
   ⟨some 20, .load (.sl (.int .i64)), [.t 19], some (14, 18, false), []⟩,
   ⟨some 21, .len false, [.t 20], some (14, 18, false), []⟩,
   ⟨some 22, .bin .neq, [.t 21, .int .i64 24], some (14, 18, false), []⟩,
   ⟨some 23, .pick, [.t 18, .bool true, .t 22], none, []⟩])
 (.cond (.t 23)
  (.seq (.reg false [
    ⟨some 2, .mv, [.bool false], none, []⟩])
  .ret)
  .skip))
 (.clean (.seq (.seq (.reg false [
   ⟨some 3, .mv, [.int .i64 0], none, []⟩])
 (.block 0 (.loop x26_0)))
 (.seq (.reg false [
   ⟨some 2, .mv, [.bool true], none, []⟩])
 .ret)))))⟩
/- 0=a 1=a 2= 3=h -/
/-! tonneau/tonneauref10.Hour -/
def x27 : XF := ⟨6, [.tmp 2], [0, 2],
 (.seq (.reg false [
   ⟨some 2, .mv, [.int .i64 0], none, []⟩])
 (.seq (.reg false [
   ⟨some 3, .mv, [.t 0], none, []⟩,
   ⟨some 4, .bin .quo, [.t 3, .int .i64 60], none, []⟩,
   ⟨some 5, .bin .rem, [.t 4, .int .i64 24], none, []⟩,
   ⟨some 2, .mv, [.t 5], none, []⟩])
 .ret))⟩
/- 0=t 2= -/
/-! tonneau/tonneauref14.Inside -/
def x28 : XF := ⟨27, [.tmp 4], [0, 1, 2, 3, 4, 5],
 (.seq (.reg false [
   ⟨some 2, .box 24, [.t 0], none, []⟩,
   ⟨some 3, .box 36, [.t 1], none, []⟩,
   ⟨some 4, .mv, [.bool false], none, []⟩])
 (.seq (.reg false [
   ⟨some 6, .faddr 0 (.int .i64), [.t 3], none, []⟩,
   ⟨some 7, .load (.int .i64), [.t 6], none, []⟩,
   ⟨some 8, .call 27, [.t 7], none, []⟩,
   ⟨some 5, .mv, [.t 8], none, []⟩])
 (.seq (.reg true [
   ⟨some 9, .faddr 1 (.int .i64), [.t 3], none, []⟩,
   ⟨some 10, .load (.int .i64), [.t 9], none, [0]⟩,
   ⟨some 11, .faddr 2 (.sl (.int .i64)), [.t 2], none, []⟩,
   ⟨some 12, .load (.sl (.int .i64)), [.t 11], none, [2]⟩,
   ⟨some 13, .mv, [.t 5], none, []⟩,
   ⟨some 14, .iaddr (.int .i64), [.t 12, .t 13], none, [3, 2, 4]⟩,
   ⟨some 15, .load (.int .i64), [.t 14], none, [5, 3, 2, 4]⟩,
   ⟨some 16, .bin .geq, [.t 10, .t 15], none, [1, 0, 6, 5, 3, 2, 4]⟩,
   ⟨some 17, .mv, [.t 16], none, [7, 1, 0, 6, 5, 3, 2, 4]⟩,
   ⟨some 18, .faddr 1 (.int .i64), [.t 3], some (8, 17, true), [8, 7, 1, 0, 6, 5, 3, 2, 4]⟩,
   ⟨some 19, .load (.int .i64), [.t 18], some (8, 17, true), [9, 8, 7, 1, 0, 6, 5, 3, 2, 4]⟩,
   ⟨some 20, .faddr 3 (.sl (.int .i64)), [.t 2], some (8, 17, true), [8, 7, 1, 0, 6, 5, 3, 2, 4]⟩,
   ⟨some 21, .load (.sl (.int .i64)), [.t 20], some (8, 17, true), [11, 8, 7, 1, 0, 6, 5, 3, 2, 4]⟩,
   ⟨some 22, .mv, [.t 5], some (8, 17, true), [8, 7, 1, 0, 6, 5, 3, 2, 4]⟩,
   ⟨some 23, .iaddr (.int .i64), [.t 21, .t 22], some (8, 17, true), [12, 11, 8, 7, 1, 0, 6, 5, 3, 2, 4, 13]⟩,
   ⟨some 24, .load (.int .i64), [.t 23], some (8, 17, true), [14, 12, 11, 8, 7, 1, 0, 6, 5, 3, 2, 4, 13]⟩,
   ⟨some 25, .bin .leq, [.t 19, .t 24], some (8, 17, true), [10, 9, 8, 7, 1, 0, 6, 5, 3, 2, 4, 15, 14, 12, 11, 13]⟩,
   ⟨some 26, .pick, [.t 17, .t 25, .bool false], none, [8, 7, 1, 0, 6, 5, 3, 2, 4, 16, 10, 9, 15, 14, 12, 11, 13]⟩,
   ⟨some 4, .mv, [.t 26], none, [17, 8, 7, 1, 0, 6, 5, 3, 2, 4, 16, 10, 9, 15, 14, 12, 11, 13]⟩])
 .ret)))⟩
/- 0=a 1=o 2=a 3=o 4= 5=h -/
/-! slices.ContainsFunc[[]tonneau/api.Obs,tonneau/api.Obs] -/
def x29 : XF := ⟨9, [.tmp 4], [0, 1, 4],
 (.seq (.reg false [
   ⟨some 4, .mv, [.bool false], none, []⟩])
 (.seq (.reg false [
   ⟨some 5, .mv, [.t 0], none, []⟩,
   ⟨some 6, .mv, [.t 1], none, []⟩,
   ⟨some 7, .call 34, [.t 5, .t 6], none, []⟩,
   ⟨some 8, .bin .geq, [.t 7, .int .i64 0], none, []⟩,
   ⟨some 4, .mv, [.t 8], none, []⟩])
 .ret))⟩
/- 0=s 1=f 4= -/
/-! tonneau/gauge.Right$1 -/
def x30 : XF := ⟨21, [.tmp 2], [0, 1, 2],
 (.seq (.reg false [
   ⟨some 1, .box 36, [.t 0], none, []⟩,
   ⟨some 2, .mv, [.bool false], none, []⟩])
 (.seq (.reg false [
   ⟨some 3, .faddr 0 (.int .i64), [.t 1], none, []⟩,
   ⟨some 4, .load (.int .i64), [.t 3], none, []⟩,
   ⟨some 5, .bin .lss, [.t 4, .int .i64 0], none, []⟩,
   ⟨some 6, .mv, [.t 5], none, []⟩,
   ⟨some 7, .faddr 0 (.int .i64), [.t 1], some (3, 6, false), []⟩,
   ⟨some 8, .load (.int .i64), [.t 7], some (3, 6, false), []⟩,
   ⟨some 9, .bin .gtr, [.t 8, .int .i64 1048576], some (3, 6, false), []⟩,
   ⟨some 10, .pick, [.t 6, .bool true, .t 9], none, []⟩,
   ⟨some 11, .mv, [.t 10], none, []⟩,
   ⟨some 12, .faddr 1 (.int .i64), [.t 1], some (8, 11, false), []⟩,
   ⟨some 13, .load (.int .i64), [.t 12], some (8, 11, false), []⟩,
   ⟨some 14, .bin .lss, [.t 13, .int .i64 0], some (8, 11, false), []⟩,
   ⟨some 15, .pick, [.t 11, .bool true, .t 14], none, []⟩,
   ⟨some 16, .mv, [.t 15], none, []⟩,
   ⟨some 17, .faddr 1 (.int .i64), [.t 1], some (13, 16, false), []⟩,
   ⟨some 18, .load (.int .i64), [.t 17], some (13, 16, false), []⟩,
   ⟨some 19, .bin .gtr, [.t 18, .int .i64 10000], some (13, 16, false), []⟩,
   ⟨some 20, .pick, [.t 16, .bool true, .t 19], none, []⟩,
   ⟨some 2, .mv, [.t 20], none, []⟩])
 .ret))⟩
/- 0=o 1=o 2= -/
/-! tonneau/tonneauref10.Time -/
def x31 : XF := ⟨9, [.tmp 2], [0, 2],
 (.seq (.reg false [
   ⟨some 2, .mv, [.bool false], none, []⟩])
 (.seq (.reg false [
   ⟨some 3, .mv, [.t 0], none, []⟩,
   ⟨some 4, .bin .geq, [.t 3, .int .i64 0], none, []⟩,
   ⟨some 5, .mv, [.t 4], none, []⟩,
   ⟨some 6, .mv, [.t 0], some (2, 5, true), []⟩,
   ⟨some 7, .bin .leq, [.t 6, .int .i64 1048576], some (2, 5, true), []⟩,
   ⟨some 8, .pick, [.t 5, .t 7, .bool false], none, []⟩,
   ⟨some 2, .mv, [.t 8], none, []⟩])
 .ret))⟩
/- 0=t 2= -/
/-! tonneau/clock.valid -/
def x32 : XF := ⟨15, [.tmp 4], [0, 1, 2, 4],
 (.seq (.reg false [
   ⟨some 2, .box 24, [.t 0], none, []⟩,
   ⟨some 4, .mv, [.bool false], none, []⟩])
 (.seq (.reg false [
   ⟨some 5, .mv, [.t 1], none, []⟩,
   ⟨some 6, .bin .geq, [.t 5, .int .i64 0], none, []⟩,
   ⟨some 7, .mv, [.t 6], none, []⟩,
   ⟨some 8, .mv, [.t 1], some (2, 7, true), []⟩,
   ⟨some 9, .bin .leq, [.t 8, .int .i64 1048576], some (2, 7, true), []⟩,
   ⟨some 10, .pick, [.t 7, .t 9, .bool false], none, []⟩,
   ⟨some 11, .mv, [.t 10], none, []⟩,
   ⟨some 12, .load (.st (.cons (.int .i64) (.cons (.int .i64) (.cons (.sl (.int .i64)) (.sl (.int .i64)))))), [.t 2], some (6, 11, true), []⟩,
   ⟨some 13, .call 16, [.t 12], some (6, 11, true), []⟩,
   ⟨some 14, .pick, [.t 11, .t 13, .bool false], none, []⟩,
   ⟨some 4, .mv, [.t 14], none, []⟩])
 .ret))⟩
/- 0=a 1=t 2=a 4= -/
/-! tonneau/clock.arrival -/
def x33_0 : XC := (.seq (.seq (.reg false [
   ⟨some 19, .mv, [.t 8], none, []⟩,
   ⟨some 20, .mv, [.t 7], none, []⟩,
   ⟨some 21, .bin .lss, [.t 19, .t 20], none, []⟩,
   ⟨some 22, .mv, [.t 21], none, []⟩,
   ⟨some 23, .mv, [.t 8], some (3, 22, true), []⟩,
   ⟨some 24, .bin .leq, [.t 23, .int .i64 1048576], some (3, 22, true), []⟩,
   ⟨some 25, .pick, [.t 22, .t 24, .bool false], none, []⟩])
 (.cond (.t 25)
  .skip
  (.exit 0)))
 (.clean (.seq (.block 1 (.reg false [
    ⟨some 28, .mv, [.t 7], none, []⟩,
    ⟨some 29, .mv, [.t 8], none, []⟩,
    ⟨some 30, .load (.st (.cons (.int .i64) (.cons (.int .i64) (.cons (.sl (.int .i64)) (.sl (.int .i64)))))), [.t 3], none, []⟩,
    ⟨some 31, .mv, [.t 8], none, []⟩,
    ⟨some 32, .mv, [.t 2], none, []⟩,
    ⟨some 33, .call 35, [.t 30, .t 31, .t 32], none, []⟩,
    ⟨some 34, .bin .add, [.t 29, .t 33], none, []⟩,
    ⟨some 35, .min, [.t 28, .t 34], none, []⟩,
    ⟨some 7, .mv, [.t 35], none, []⟩]))
 (.clean (.reg false [
   ⟨some 26, .mv, [.t 8], none, []⟩,
   ⟨some 27, .bin .add, [.t 26, .int .i64 60], none, []⟩,
   ⟨some 8, .mv, [.t 27], none, []⟩])))))
def x33_0d : List Nat := [7, 8]
def x33 : XF := ⟨37, [.tmp 6], [0, 1, 2, 3, 6, 7, 8],
 (.seq (.reg false [
   ⟨some 3, .box 24, [.t 0], none, []⟩,
   ⟨some 6, .mv, [.int .i64 0], none, []⟩])
 (.seq (.reg false [
   ⟨some 9, .mv, [.t 1], none, []⟩,
   ⟨some 10, .load (.st (.cons (.int .i64) (.cons (.int .i64) (.cons (.sl (.int .i64)) (.sl (.int .i64)))))), [.t 3], none, []⟩,
   ⟨some 11, .mv, [.t 1], none, []⟩,
   ⟨some 12, .mv, [.t 2], none, []⟩,
   ⟨some 13, .call 35, [.t 10, .t 11, .t 12], none, []⟩,
   ⟨some 14, .bin .add, [.t 9, .t 13], none, []⟩,
   ⟨some 7, .mv, [.t 14], none, []⟩])
 (.clean (.seq (.seq (.reg false [
   ⟨some 15, .mv, [.t 1], none, []⟩,
   ⟨some 16, .bin .quo, [.t 15, .int .i64 60], none, []⟩,
   ⟨some 17, .bin .add, [.t 16, .int .i64 1], none, []⟩,
   ⟨some 18, .bin .mul, [.t 17, .int .i64 60], none, []⟩,
   ⟨some 8, .mv, [.t 18], none, []⟩])
 (.block 0 (.loop x33_0)))
 (.seq (.reg false [
   ⟨some 36, .mv, [.t 7], none, []⟩,
   ⟨some 6, .mv, [.t 36], none, []⟩])
 .ret)))))⟩
/- 0=a 1=t 2=high 3=a 6= 7=best 8=u -/
/-! slices.IndexFunc[[]tonneau/api.Obs,tonneau/api.Obs] -/
def x34_0 : XC := (.seq (.reg false [
   ⟨some 9, .bin .lss, [.t 8, .t 7], none, []⟩])
 (.seq (.cond (.t 9)
  .skip
  (.exit 0))
 (.seq (.block 1 (.seq (.reg false [
    ⟨some 10, .mv, [.t 8], none, []⟩,
    ⟨some 5, .mv, [.t 10], none, []⟩])
  (.seq (.reg false [
    ⟨some 11, .mv, [.t 1], none, []⟩,
    ⟨some 12, .mv, [.t 0], none, []⟩,
    ⟨some 13, .mv, [.t 5], none, []⟩,
    ⟨some 14, .iaddr (.st (.cons (.int .i64) (.int .i64))), [.t 12, .t 13], none, []⟩,
    ⟨some 15, .load (.st (.cons (.int .i64) (.int .i64))), [.t 14], none, []⟩,
    ⟨some 16, .callv, [.t 11, .t 15], none, []⟩])
  (.cond (.t 16)
   (.seq (.reg false [
     ⟨some 17, .mv, [.t 5], none, []⟩,
     ⟨some 4, .mv, [.t 17], none, []⟩])
   .ret)
   .skip))))
 (.reg false [
   ⟨some 18, .bin .add, [.t 8, .int .i64 1], none, []⟩,
   ⟨some 8, .mv, [.t 18], none, []⟩]))))
def x34_0d : List Nat := [4, 5, 8]
def x34 : XF := ⟨19, [.tmp 4], [0, 1, 4, 5, 7, 8],
 (.seq (.reg false [
   ⟨some 4, .mv, [.int .i64 0], none, []⟩])
 (.seq (.seq (.reg false [
   ⟨some 6, .mv, [.t 0], none, []⟩,
   ⟨some 7, .len false, [.t 6], none, []⟩,
   ⟨some 8, .mv, [.int .i64 0], none, []⟩])
 (.block 0 (.loop x34_0)))
 (.seq (.reg false [
   ⟨some 4, .mv, [.int .i64 (-1)], none, []⟩])
 .ret)))⟩
/- 0=s 1=f 4= 5=i 7= 8= -/
/-! tonneau/clock.took -/
def x35 : XF := ⟨22, [.tmp 6], [0, 1, 2, 3, 6],
 (.seq (.reg false [
   ⟨some 3, .box 24, [.t 0], none, []⟩,
   ⟨some 6, .mv, [.int .i64 0], none, []⟩])
 (.seq (.seq (.reg false [
   ⟨some 7, .mv, [.t 2], none, []⟩])
 (.cond (.t 7)
  (.seq (.reg false [
    ⟨some 8, .faddr 3 (.sl (.int .i64)), [.t 3], none, []⟩,
    ⟨some 9, .load (.sl (.int .i64)), [.t 8], none, []⟩,
    ⟨some 10, .mv, [.t 1], none, []⟩,
    ⟨some 11, .bin .quo, [.t 10, .int .i64 60], none, []⟩,
    ⟨some 12, .bin .rem, [.t 11, .int .i64 24], none, []⟩,
    ⟨some 13, .iaddr (.int .i64), [.t 9, .t 12], none, []⟩,
    ⟨some 14, .load (.int .i64), [.t 13], none, []⟩,
    ⟨some 6, .mv, [.t 14], none, []⟩])
  .ret)
  .skip))
 (.clean (.seq (.reg false [
   ⟨some 15, .faddr 2 (.sl (.int .i64)), [.t 3], none, []⟩,
   ⟨some 16, .load (.sl (.int .i64)), [.t 15], none, []⟩,
   ⟨some 17, .mv, [.t 1], none, []⟩,
   ⟨some 18, .bin .quo, [.t 17, .int .i64 60], none, []⟩,
   ⟨some 19, .bin .rem, [.t 18, .int .i64 24], none, []⟩,
   ⟨some 20, .iaddr (.int .i64), [.t 16, .t 19], none, []⟩,
   ⟨some 21, .load (.int .i64), [.t 20], none, []⟩,
   ⟨some 6, .mv, [.t 21], none, []⟩])
 .ret))))⟩
/- 0=a 1=t 2=high 3=a 6= -/
end T
end Go.Proofs.Ytaffcpdkmhpckaa
