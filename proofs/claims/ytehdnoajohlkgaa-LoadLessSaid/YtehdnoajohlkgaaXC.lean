/- The program's functions as code of the typed abstract walk (printed by a program). -/
import Derived.Test.YtehdnoajohlkgaaT18
set_option linter.unusedVariables false
namespace Go.Proofs.Ytehdnoajohlkgaa
namespace T
/-! tonneau/load.Profile$1 -/
def x26 : XF := ⟨7, [.cell 3 (.st (.cons (.int .i64) (.cons (.int .i64) (.int .i64))))], [0, 1, 3],
 (.seq (.reg false [
   ⟨some 3, .alloc 42 (.st (.cons (.int .i64) (.cons (.int .i64) (.int .i64)))), [], none, []⟩])
 (.seq (.reg false [
   ⟨some 4, .mv, [.t 0], none, []⟩,
   ⟨some 5, .load (.sl (.st (.cons (.int .i64) (.cons (.int .i64) (.cons (.int .i64) (.cons (.int .i64) (.cons (.int .i64) (.cons (.int .i64) (.cons (.int .i64) (.cons (.int .i64) (.cons (.int .i64) (.int .i64)))))))))))), [.t 1], none, []⟩,
   ⟨some 6, .call 27, [.t 4, .t 5], none, []⟩,
   ⟨none, .store (.st (.cons (.int .i64) (.cons (.int .i64) (.int .i64)))), [.t 3, .t 6], none, []⟩])
 .ret))⟩
/- 0=c 1= 3= -/
/-! tonneau/load.Together$1 -/
def x36 : XF := ⟨34, [.tmp 6], [0, 1, 2, 3, 4, 6, 7, 8],
 (.seq (.reg false [
   ⟨some 6, .mv, [.bool false], none, []⟩])
 (.seq (.reg true [
   ⟨some 9, .mv, [.t 0], none, []⟩,
   ⟨some 10, .faddr 0 (.int .i64), [.t 1], none, []⟩,
   ⟨some 11, .load (.int .i64), [.t 10], none, [1]⟩,
   ⟨some 12, .load (.sl (.st (.cons (.int .i64) (.cons (.int .i64) (.cons (.int .i64) (.cons (.int .i64) (.cons (.int .i64) (.cons (.int .i64) (.cons (.int .i64) (.cons (.int .i64) (.cons (.int .i64) (.int .i64)))))))))))), [.t 2], none, []⟩,
   ⟨some 13, .call 37, [.t 9, .t 11, .t 12], none, [0, 2, 1, 3]⟩,
   ⟨some 14, .mv, [.t 0], none, []⟩,
   ⟨some 15, .faddr 1 (.int .i64), [.t 1], none, []⟩,
   ⟨some 16, .load (.int .i64), [.t 15], none, [6]⟩,
   ⟨some 17, .load (.sl (.st (.cons (.int .i64) (.cons (.int .i64) (.cons (.int .i64) (.cons (.int .i64) (.cons (.int .i64) (.cons (.int .i64) (.cons (.int .i64) (.cons (.int .i64) (.cons (.int .i64) (.int .i64)))))))))))), [.t 2], none, []⟩,
   ⟨some 18, .call 37, [.t 14, .t 16, .t 17], none, [5, 7, 6, 8, 4, 0, 2, 1, 3]⟩,
   ⟨some 7, .mv, [.t 13], none, [4, 0, 2, 1, 3, 9, 5, 7, 6, 8]⟩,
   ⟨some 8, .mv, [.t 18], none, [9, 5, 7, 6, 8, 4, 0, 2, 1, 3, 10]⟩])
 (.clean (.seq (.reg false [
   ⟨some 19, .load .bool, [.t 3], none, []⟩,
   ⟨some 20, .mv, [.t 19], none, []⟩,
   ⟨some 21, .mv, [.t 7], some (1, 20, false), []⟩,
   ⟨some 22, .pick, [.t 20, .bool true, .t 21], none, []⟩,
   ⟨some 23, .mv, [.t 22], none, []⟩,
   ⟨some 24, .mv, [.t 8], some (4, 23, false), []⟩,
   ⟨some 25, .pick, [.t 23, .bool true, .t 24], none, []⟩,
   ⟨some 26, .load .bool, [.t 4], none, []⟩,
   ⟨some 27, .mv, [.t 26], none, []⟩,
   ⟨some 28, .mv, [.t 7], some (8, 27, false), []⟩,
   ⟨some 29, .mv, [.t 28], some (8, 27, false), []⟩,
   ⟨some 30, .mv, [.t 8], some (10, 29, true), []⟩,
   ⟨some 31, .pick, [.t 29, .t 30, .bool false], some (8, 27, false), []⟩,
   ⟨some 32, .pick, [.t 27, .bool true, .t 31], none, []⟩,
   ⟨none, .store .bool, [.t 3, .t 25], none, []⟩,
   ⟨none, .store .bool, [.t 4, .t 32], none, []⟩])
 (.seq (.reg false [
   ⟨some 33, .load .bool, [.t 4], none, []⟩,
   ⟨some 6, .mv, [.t 33], none, []⟩])
 .ret)))))⟩
/- 0=c 1= 2= 3= 4= 6= 7=a 8=b -/
/-! tonneau/load.first -/
def x38_0 : XC := (.seq (.reg false [
   ⟨some 12, .bin .lss, [.t 11, .t 10], none, []⟩])
 (.seq (.cond (.t 12)
  .skip
  (.exit 0))
 (.seq (.block 1 (.seq (.reg false [
    ⟨some 13, .iaddr (.st (.cons (.int .i64) .bool)), [.t 9, .t 11], none, []⟩,
    ⟨some 14, .load (.st (.cons (.int .i64) .bool)), [.t 13], none, []⟩,
    ⟨some 5, .alloc 44 (.st (.cons (.int .i64) .bool)), [], none, []⟩,
    ⟨none, .store (.st (.cons (.int .i64) .bool)), [.t 5, .t 14], none, []⟩])
  (.seq (.reg false [
    ⟨some 15, .faddr 1 .bool, [.t 5], none, []⟩,
    ⟨some 16, .load .bool, [.t 15], none, []⟩,
    ⟨some 17, .not, [.t 16], none, []⟩])
  (.cond (.t 17)
   (.reg false [
     ⟨some 18, .mv, [.t 3], none, []⟩,
     ⟨some 19, .faddr 0 (.int .i64), [.t 5], none, []⟩,
     ⟨some 20, .load (.int .i64), [.t 19], none, []⟩,
     ⟨none, .mapset .i64 .bool, [.t 18, .t 20, .bool true], none, []⟩])
   .skip))))
 (.reg false [
   ⟨some 21, .bin .add, [.t 11, .int .i64 1], none, []⟩,
   ⟨some 11, .mv, [.t 21], none, []⟩]))))
def x38_0d : List Nat := [5, 11]
def x38_1 : XC := (.seq (.reg false [
   ⟨some 25, .bin .lss, [.t 24, .t 23], none, []⟩])
 (.seq (.cond (.t 25)
  .skip
  (.exit 2))
 (.seq (.block 3 (.seq (.reg false [
    ⟨some 26, .iaddr (.st (.cons (.int .i64) .bool)), [.t 22, .t 24], none, []⟩,
    ⟨some 27, .load (.st (.cons (.int .i64) .bool)), [.t 26], none, []⟩,
    ⟨some 7, .alloc 44 (.st (.cons (.int .i64) .bool)), [], none, []⟩,
    ⟨none, .store (.st (.cons (.int .i64) .bool)), [.t 7, .t 27], none, []⟩])
  (.seq (.reg false [
    ⟨some 28, .faddr 1 .bool, [.t 7], none, []⟩,
    ⟨some 29, .load .bool, [.t 28], none, []⟩])
  (.cond (.t 29)
   (.reg false [
     ⟨some 30, .mv, [.t 3], none, []⟩,
     ⟨some 31, .faddr 0 (.int .i64), [.t 7], none, []⟩,
     ⟨some 32, .load (.int .i64), [.t 31], none, []⟩,
     ⟨none, .mapdel .i64 .bool, [.t 30, .t 32], none, []⟩])
   .skip))))
 (.reg false [
   ⟨some 33, .bin .add, [.t 24, .int .i64 1], none, []⟩,
   ⟨some 24, .mv, [.t 33], none, []⟩]))))
def x38_1d : List Nat := [7, 24]
def x38 : XF := ⟨35, [.tmp 2], [0, 2, 3, 5, 7, 9, 10, 11, 22, 23, 24],
 (.seq (.reg false [
   ⟨some 2, .mv, [.nilm], none, []⟩])
 (.seq (.reg false [
   ⟨some 8, .mkmap .i64 .bool, [], none, []⟩,
   ⟨some 3, .mv, [.t 8], none, []⟩])
 (.seq (.seq (.reg false [
   ⟨some 9, .mv, [.t 0], none, []⟩,
   ⟨some 10, .len false, [.t 9], none, []⟩,
   ⟨some 11, .mv, [.int .i64 0], none, []⟩])
 (.block 0 (.loop x38_0)))
 (.clean (.seq (.seq (.reg false [
   ⟨some 22, .mv, [.t 0], none, []⟩,
   ⟨some 23, .len false, [.t 22], none, []⟩,
   ⟨some 24, .mv, [.int .i64 0], none, []⟩])
 (.block 2 (.loop x38_1)))
 (.seq (.reg false [
   ⟨some 34, .mv, [.t 3], none, []⟩,
   ⟨some 2, .mv, [.t 34], none, []⟩])
 .ret))))))⟩
/- 0=stops 2= 3=c 5=s 7=s 9= 10= 11= 22= 23= 24= -/
/-! (tonneau/load.cabin).stop -/
def x39 : XF := ⟨12, [], [0, 1, 3],
 (.seq (.reg false [
   ⟨some 3, .box 44, [.t 1], none, []⟩])
 (.seq (.reg false [
   ⟨some 4, .faddr 1 .bool, [.t 3], none, []⟩,
   ⟨some 5, .load .bool, [.t 4], none, []⟩])
 (.cond (.t 5)
  (.reg false [
    ⟨some 6, .mv, [.t 0], none, []⟩,
    ⟨some 7, .faddr 0 (.int .i64), [.t 3], none, []⟩,
    ⟨some 8, .load (.int .i64), [.t 7], none, []⟩,
    ⟨none, .mapset .i64 .bool, [.t 6, .t 8, .bool true], none, []⟩])
  (.reg false [
    ⟨some 9, .mv, [.t 0], none, []⟩,
    ⟨some 10, .faddr 0 (.int .i64), [.t 3], none, []⟩,
    ⟨some 11, .load (.int .i64), [.t 10], none, []⟩,
    ⟨none, .mapdel .i64 .bool, [.t 9, .t 11], none, []⟩]))))⟩
/- 0=c 1=s 3=s -/
/-! tonneau/load.times[tonneau/load.Load] -/
def x25_0 : XC := (.seq (.reg false [
   ⟨some 18, .bin .lss, [.t 17, .t 16], none, []⟩])
 (.seq (.cond (.t 18)
  .skip
  (.exit 0))
 (.seq (.block 1 (.seq (.reg false [
    ⟨some 19, .iaddr (.st (.cons (.int .i64) .bool)), [.t 15, .t 17], none, []⟩,
    ⟨some 20, .load (.st (.cons (.int .i64) .bool)), [.t 19], none, []⟩,
    ⟨some 8, .alloc 44 (.st (.cons (.int .i64) .bool)), [], none, []⟩,
    ⟨none, .store (.st (.cons (.int .i64) .bool)), [.t 8, .t 20], none, []⟩])
  (.seq (.icall false [
    ⟨some 21, .mv, [.t 5], none, []⟩,
    ⟨some 22, .load (.st (.cons (.int .i64) .bool)), [.t 8], none, []⟩] ⟨some 23, .callv, [.fn 39, .t 21, .t 22], none, []⟩ [] 39 x39.n x39.res x39.kv x39.code)
  (.icall false [
    ⟨some 24, .mv, [.t 6], none, []⟩,
    ⟨some 25, .mv, [.t 1], none, []⟩,
    ⟨some 26, .mv, [.t 5], none, []⟩] ⟨some 27, .callv, [.t 25, .t 26], none, []⟩ [
    ⟨some 28, .bslice 42 (.st (.cons (.int .i64) (.cons (.int .i64) (.int .i64)))) 1 [0], [.t 27], none, []⟩,
    ⟨some 29, .append 42 (.st (.cons (.int .i64) (.cons (.int .i64) (.int .i64)))) 24, [.t 24, .t 28], none, []⟩,
    ⟨some 6, .mv, [.t 29], none, []⟩] 26 x26.n x26.res x26.kv x26.code))))
 (.reg false [
   ⟨some 30, .bin .add, [.t 17, .int .i64 1], none, []⟩,
   ⟨some 17, .mv, [.t 30], none, []⟩]))))
def x25_0d : List Nat := [6, 8, 17]
def x25 : XF := ⟨32, [.tmp 4], [0, 1, 4, 5, 6, 8, 15, 16, 17],
 (.seq (.reg false [
   ⟨some 4, .nilrow 42 (.st (.cons (.int .i64) (.cons (.int .i64) (.int .i64)))), [], none, []⟩])
 (.seq (.icall false [
   ⟨some 9, .mv, [.t 0], none, []⟩] ⟨some 10, .callv, [.fn 38, .t 9], none, []⟩ [
   ⟨some 5, .mv, [.t 10], none, []⟩] 38 x38.n x38.res x38.kv x38.code)
 (.seq (.icall false [
   ⟨some 11, .mv, [.t 1], none, []⟩,
   ⟨some 12, .mv, [.t 5], none, []⟩] ⟨some 13, .callv, [.t 11, .t 12], none, []⟩ [
   ⟨some 14, .bslice 42 (.st (.cons (.int .i64) (.cons (.int .i64) (.int .i64)))) 1 [0], [.t 13], none, []⟩,
   ⟨some 6, .mv, [.t 14], none, []⟩] 26 x26.n x26.res x26.kv x26.code)
 (.seq (.seq (.reg false [
   ⟨some 15, .mv, [.t 0], none, []⟩,
   ⟨some 16, .len false, [.t 15], none, []⟩,
   ⟨some 17, .mv, [.int .i64 0], none, []⟩])
 (.block 0 (.loop x25_0)))
 (.seq (.reg false [
   ⟨some 31, .mv, [.t 6], none, []⟩,
   ⟨some 4, .mv, [.t 31], none, []⟩])
 .ret)))))⟩
/- 0=stops 1=look 4= 5=c 6=out 8=s 15= 16= 17= -/
/-! tonneau/load.times[bool] -/
def x35_0 : XC := (.seq (.reg false [
   ⟨some 18, .bin .lss, [.t 17, .t 16], none, []⟩])
 (.seq (.cond (.t 18)
  .skip
  (.exit 0))
 (.seq (.block 1 (.seq (.reg false [
    ⟨some 19, .iaddr (.st (.cons (.int .i64) .bool)), [.t 15, .t 17], none, []⟩,
    ⟨some 20, .load (.st (.cons (.int .i64) .bool)), [.t 19], none, []⟩,
    ⟨some 8, .alloc 44 (.st (.cons (.int .i64) .bool)), [], none, []⟩,
    ⟨none, .store (.st (.cons (.int .i64) .bool)), [.t 8, .t 20], none, []⟩])
  (.seq (.icall false [
    ⟨some 21, .mv, [.t 5], none, []⟩,
    ⟨some 22, .load (.st (.cons (.int .i64) .bool)), [.t 8], none, []⟩] ⟨some 23, .callv, [.fn 39, .t 21, .t 22], none, []⟩ [] 39 x39.n x39.res x39.kv x39.code)
  (.icall false [
    ⟨some 24, .mv, [.t 6], none, []⟩,
    ⟨some 25, .mv, [.t 1], none, []⟩,
    ⟨some 26, .mv, [.t 5], none, []⟩] ⟨some 27, .callv, [.t 25, .t 26], none, []⟩ [
    ⟨some 28, .bslice 4 .bool 1 [0], [.t 27], none, []⟩,
    ⟨some 29, .append 4 .bool 1, [.t 24, .t 28], none, []⟩,
    ⟨some 6, .mv, [.t 29], none, []⟩] 36 x36.n x36.res x36.kv x36.code))))
 (.reg false [
   ⟨some 30, .bin .add, [.t 17, .int .i64 1], none, []⟩,
   ⟨some 17, .mv, [.t 30], none, []⟩]))))
def x35_0d : List Nat := [6, 8, 17]
def x35 : XF := ⟨32, [.tmp 4], [0, 1, 4, 5, 6, 8, 15, 16, 17],
 (.seq (.reg false [
   ⟨some 4, .nilrow 4 .bool, [], none, []⟩])
 (.seq (.icall false [
   ⟨some 9, .mv, [.t 0], none, []⟩] ⟨some 10, .callv, [.fn 38, .t 9], none, []⟩ [
   ⟨some 5, .mv, [.t 10], none, []⟩] 38 x38.n x38.res x38.kv x38.code)
 (.seq (.icall false [
   ⟨some 11, .mv, [.t 1], none, []⟩,
   ⟨some 12, .mv, [.t 5], none, []⟩] ⟨some 13, .callv, [.t 11, .t 12], none, []⟩ [
   ⟨some 14, .bslice 4 .bool 1 [0], [.t 13], none, []⟩,
   ⟨some 6, .mv, [.t 14], none, []⟩] 36 x36.n x36.res x36.kv x36.code)
 (.seq (.seq (.reg false [
   ⟨some 15, .mv, [.t 0], none, []⟩,
   ⟨some 16, .len false, [.t 15], none, []⟩,
   ⟨some 17, .mv, [.int .i64 0], none, []⟩])
 (.block 0 (.loop x35_0)))
 (.seq (.reg false [
   ⟨some 31, .mv, [.t 6], none, []⟩,
   ⟨some 4, .mv, [.t 31], none, []⟩])
 .ret)))))⟩
/- 0=stops 1=look 4= 5=c 6=out 8=s 15= 16= 17= -/
/-! gosem.cut.init -/
def x2 : XF := ⟨1, [], [],
 (.reg false [
   ⟨some 0, .call 1, [], none, []⟩])⟩
/-  -/
/-! tonneau/tonneaulaw17.LoadTells -/
def x3 : XF := ⟨92, [.tmp 8], [0, 1, 2, 3, 4, 8, 9, 10, 11, 12, 13, 14, 15, 16, 17],
 (.seq (.reg false [
   ⟨some 4, .box 23, [.t 0], none, []⟩,
   ⟨some 8, .mv, [.bool false], none, []⟩])
 (.seq (.reg false [
   ⟨some 18, .call 8, [], none, []⟩,
   ⟨some 9, .mv, [.t 18], none, []⟩])
 (.seq (.seq (.reg false [
   ⟨some 19, .mv, [.t 1], none, []⟩,
   ⟨some 20, .mv, [.t 2], none, []⟩,
   ⟨some 21, .mv, [.t 3], none, []⟩,
   ⟨some 22, .call 9, [.t 19, .t 20, .t 21], none, []⟩,
   ⟨some 23, .not, [.t 22], none, []⟩])
 (.cond (.t 23)
  (.seq (.reg false [
    ⟨some 24, .mv, [.t 9], none, []⟩,
    ⟨some 8, .mv, [.t 24], none, []⟩])
  .ret)
  .skip))
 (.clean (.seq (.reg false [
   ⟨some 26, .mv, [.t 2], none, []⟩,
   ⟨some 27, .mv, [.t 3], none, []⟩,
   ⟨some 28, .call 10, [.t 26, .t 27], none, []⟩,
   ⟨some 25, .mv, [.t 28], none, []⟩,
   ⟨some 29, .extract 0, [.t 25], none, []⟩,
   ⟨some 30, .extract 1, [.t 25], none, []⟩,
   ⟨some 10, .mv, [.t 29], none, []⟩,
   ⟨some 11, .mv, [.t 30], none, []⟩])
 (.clean (.seq (.reg false [
   ⟨some 32, .mv, [.t 2], none, []⟩,
   ⟨some 33, .mv, [.t 3], none, []⟩,
   ⟨some 34, .call 11, [.t 32, .t 33], none, []⟩,
   ⟨some 31, .mv, [.t 34], none, []⟩,
   ⟨some 35, .extract 0, [.t 31], none, []⟩,
   ⟨some 36, .extract 1, [.t 31], none, []⟩,
   ⟨some 12, .mv, [.t 35], none, []⟩,
   ⟨some 13, .mv, [.t 36], none, []⟩])
 (.clean (.seq (.reg false [
   ⟨some 38, .load (.st (.cons (.int .i64) (.cons (.int .i64) (.cons (.int .i64) (.cons (.int .i64) (.cons (.int .i64) (.cons (.int .i64) (.cons (.int .i64) (.cons (.int .i64) (.int .i64)))))))))), [.t 4], none, []⟩,
   ⟨some 39, .mv, [.t 2], none, []⟩,
   ⟨some 40, .mv, [.t 3], none, []⟩,
   ⟨some 41, .call 12, [.t 38, .t 39, .t 40], none, []⟩,
   ⟨some 37, .mv, [.t 41], none, []⟩,
   ⟨some 42, .extract 0, [.t 37], none, []⟩,
   ⟨some 43, .extract 1, [.t 37], none, []⟩,
   ⟨some 14, .mv, [.t 42], none, []⟩,
   ⟨some 15, .mv, [.t 43], none, []⟩])
 (.clean (.seq (.reg false [
   ⟨some 45, .load (.st (.cons (.int .i64) (.cons (.int .i64) (.cons (.int .i64) (.cons (.int .i64) (.cons (.int .i64) (.cons (.int .i64) (.cons (.int .i64) (.cons (.int .i64) (.int .i64)))))))))), [.t 4], none, []⟩,
   ⟨some 46, .mv, [.t 2], none, []⟩,
   ⟨some 47, .mv, [.t 3], none, []⟩,
   ⟨some 48, .call 13, [.t 45, .t 46, .t 47], none, []⟩,
   ⟨some 44, .mv, [.t 48], none, []⟩,
   ⟨some 49, .extract 0, [.t 44], none, []⟩,
   ⟨some 50, .extract 1, [.t 44], none, []⟩,
   ⟨some 16, .mv, [.t 49], none, []⟩,
   ⟨some 17, .mv, [.t 50], none, []⟩])
 (.clean (.seq (.reg false [
   ⟨some 51, .mv, [.t 9], none, []⟩,
   ⟨some 52, .mv, [.t 51], none, []⟩,
   ⟨some 53, .mv, [.t 10], some (1, 52, true), []⟩,
   ⟨some 54, .mv, [.t 12], some (1, 52, true), []⟩,
   ⟨some 55, .call 14, [.t 53, .t 54], some (1, 52, true), []⟩,
   ⟨some 56, .pick, [.t 52, .t 55, .bool false], none, []⟩,
   ⟨some 57, .mv, [.t 56], none, []⟩,
   ⟨some 58, .mv, [.t 11], some (6, 57, true), []⟩,
   ⟨some 59, .mv, [.t 13], some (6, 57, true), []⟩,
   ⟨some 60, .bin .eql, [.t 58, .t 59], some (6, 57, true), []⟩,
   ⟨some 61, .pick, [.t 57, .t 60, .bool false], none, []⟩,
   ⟨some 62, .mv, [.t 61], none, []⟩,
   ⟨some 63, .mv, [.t 14], some (11, 62, true), []⟩,
   ⟨some 64, .mv, [.t 16], some (11, 62, true), []⟩,
   ⟨some 65, .bin .eql, [.t 63, .t 64], some (11, 62, true), []⟩,
   ⟨some 66, .pick, [.t 62, .t 65, .bool false], none, []⟩,
   ⟨some 67, .mv, [.t 66], none, []⟩,
   ⟨some 68, .mv, [.t 15], some (16, 67, true), []⟩,
   ⟨some 69, .mv, [.t 17], some (16, 67, true), []⟩,
   ⟨some 70, .bin .eql, [.t 68, .t 69], some (16, 67, true), []⟩,
   ⟨some 71, .pick, [.t 67, .t 70, .bool false], none, []⟩,
   ⟨some 72, .mv, [.t 71], none, []⟩,
   ⟨some 73, .mv, [.t 2], some (21, 72, true), []⟩,
   ⟨some 74, .mv, [.t 3], some (21, 72, true), []⟩,
   ⟨some 75, .call 15, [.t 73, .t 74], some (21, 72, true), []⟩,
   ⟨some 76, .mv, [.t 2], some (21, 72, true), []⟩,
   ⟨some 77, .mv, [.t 3], some (21, 72, true), []⟩,
   ⟨some 78, .call 16, [.t 76, .t 77], some (21, 72, true), []⟩,
   ⟨some 79, .beq false .bool, [.t 75, .t 78], some (21, 72, true), []⟩,
   ⟨some 80, .pick, [.t 72, .t 79, .bool false], none, []⟩,
   ⟨some 81, .mv, [.t 80], none, []⟩,
   ⟨some 82, .mv, [.t 1], some (30, 81, true), []⟩,
   ⟨some 83, .mv, [.t 2], some (30, 81, true), []⟩,
   ⟨some 84, .mv, [.t 3], some (30, 81, true), []⟩,
   ⟨some 85, .call 17, [.t 82, .t 83, .t 84], some (30, 81, true), []⟩,
   ⟨some 86, .mv, [.t 1], some (30, 81, true), []⟩,
   ⟨some 87, .mv, [.t 2], some (30, 81, true), []⟩,
   ⟨some 88, .mv, [.t 3], some (30, 81, true), []⟩,
   ⟨some 89, .call 18, [.t 86, .t 87, .t 88], some (30, 81, true), []⟩,
   ⟨some 90, .beq false .bool, [.t 85, .t 89], some (30, 81, true), []⟩,
   ⟨some 91, .pick, [.t 81, .t 90, .bool false], none, []⟩,
   ⟨some 8, .mv, [.t 91], none, []⟩])
 .ret)))))))))))))⟩
/- 0=car 1=pairs 2=stops 3=requests 4=car 8= 9=head 10=a 11=e 12=b 13=f 14=k 15=g 16=m 17=h -/
/-! tonneau/tonneaulaw17.LoadSteps -/
def x4_0 : XC := (.seq (.seq (.reg false [
   ⟨some 45, .mv, [.t 9], none, []⟩,
   ⟨some 46, .mv, [.t 0], none, []⟩,
   ⟨some 47, .len false, [.t 46], none, []⟩,
   ⟨some 48, .bin .lss, [.t 45, .t 47], none, []⟩])
 (.cond (.t 48)
  .skip
  (.exit 0)))
 (.seq (.block 1 (.seq (.seq (.reg false [
    ⟨some 51, .mv, [.t 0], none, []⟩,
    ⟨some 52, .mv, [.t 9], none, []⟩,
    ⟨some 53, .iaddr (.st (.cons (.int .i64) .bool)), [.t 51, .t 52], none, []⟩,
    ⟨some 54, .faddr 0 (.int .i64), [.t 53], none, []⟩,
    ⟨some 55, .load (.int .i64), [.t 54], none, []⟩,
    ⟨some 56, .bin .lss, [.t 55, .int .i64 0], none, []⟩,
    ⟨some 57, .mv, [.t 56], none, []⟩,
    ⟨some 58, .mv, [.t 0], some (6, 57, false), []⟩,
    ⟨some 59, .mv, [.t 9], some (6, 57, false), []⟩,
    ⟨some 60, .iaddr (.st (.cons (.int .i64) .bool)), [.t 58, .t 59], some (6, 57, false), []⟩,
    ⟨some 61, .faddr 0 (.int .i64), [.t 60], some (6, 57, false), []⟩,
    ⟨some 62, .load (.int .i64), [.t 61], some (6, 57, false), []⟩,
    ⟨some 63, .mv, [.t 1], some (6, 57, false), []⟩,
    ⟨some 64, .len false, [.t 63], some (6, 57, false), []⟩,
    ⟨some 65, .bin .geq, [.t 62, .t 64], some (6, 57, false), []⟩,
    ⟨some 66, .pick, [.t 57, .bool true, .t 65], none, []⟩])
  (.cond (.t 66)
   (.seq (.reg false [
     ⟨some 4, .mv, [.bool false], none, []⟩])
   .ret)
   .skip))
  (.clean (.seq (.reg false [
    ⟨some 67, .mv, [.t 1], none, []⟩,
    ⟨some 68, .mv, [.t 0], none, []⟩,
    ⟨some 69, .mv, [.t 9], none, []⟩,
    ⟨some 70, .iaddr (.st (.cons (.int .i64) .bool)), [.t 68, .t 69], none, []⟩,
    ⟨some 71, .faddr 0 (.int .i64), [.t 70], none, []⟩,
    ⟨some 72, .load (.int .i64), [.t 71], none, []⟩,
    ⟨some 73, .iaddr (.st (.cons (.int .i64) (.cons (.int .i64) (.cons (.int .i64) (.cons (.int .i64) (.cons (.int .i64) (.cons (.int .i64) (.cons (.int .i64) (.cons (.int .i64) (.cons (.int .i64) (.int .i64))))))))))), [.t 67, .t 72], none, []⟩,
    ⟨some 74, .load (.st (.cons (.int .i64) (.cons (.int .i64) (.cons (.int .i64) (.cons (.int .i64) (.cons (.int .i64) (.cons (.int .i64) (.cons (.int .i64) (.cons (.int .i64) (.cons (.int .i64) (.int .i64))))))))))), [.t 73], none, []⟩,
    ⟨some 10, .alloc 46 (.st (.cons (.int .i64) (.cons (.int .i64) (.cons (.int .i64) (.cons (.int .i64) (.cons (.int .i64) (.cons (.int .i64) (.cons (.int .i64) (.cons (.int .i64) (.cons (.int .i64) (.int .i64))))))))))), [], none, []⟩,
    ⟨none, .store (.st (.cons (.int .i64) (.cons (.int .i64) (.cons (.int .i64) (.cons (.int .i64) (.cons (.int .i64) (.cons (.int .i64) (.cons (.int .i64) (.cons (.int .i64) (.cons (.int .i64) (.int .i64))))))))))), [.t 10, .t 74], none, []⟩])
  (.clean (.seq (.reg false [
    ⟨some 11, .mv, [.int .i64 (-1)], none, []⟩])
  (.seq (.seq (.reg false [
    ⟨some 75, .mv, [.t 0], none, []⟩,
    ⟨some 76, .mv, [.t 9], none, []⟩,
    ⟨some 77, .iaddr (.st (.cons (.int .i64) .bool)), [.t 75, .t 76], none, []⟩,
    ⟨some 78, .faddr 1 .bool, [.t 77], none, []⟩,
    ⟨some 79, .load .bool, [.t 78], none, []⟩])
  (.cond (.t 79)
   (.reg false [
     ⟨some 11, .mv, [.int .i64 1], none, []⟩])
   .skip))
  (.clean (.seq (.seq (.reg true [
    ⟨some 80, .mv, [.t 6], none, []⟩,
    ⟨some 81, .mv, [.t 9], none, []⟩,
    ⟨some 82, .bin .add, [.t 81, .int .i64 1], none, [1]⟩,
    ⟨some 83, .iaddr (.st (.cons (.int .i64) (.cons (.int .i64) (.int .i64)))), [.t 80, .t 82], none, [0, 2, 1]⟩,
    ⟨some 84, .faddr 0 (.int .i64), [.t 83], none, [3, 0, 2, 1]⟩,
    ⟨some 85, .load (.int .i64), [.t 84], none, [4, 3, 0, 2, 1]⟩,
    ⟨some 86, .mv, [.t 6], none, []⟩,
    ⟨some 87, .mv, [.t 9], none, []⟩,
    ⟨some 88, .iaddr (.st (.cons (.int .i64) (.cons (.int .i64) (.int .i64)))), [.t 86, .t 87], none, [6, 7]⟩,
    ⟨some 89, .faddr 0 (.int .i64), [.t 88], none, [8, 6, 7]⟩,
    ⟨some 90, .load (.int .i64), [.t 89], none, [9, 8, 6, 7]⟩,
    ⟨some 91, .bin .sub, [.t 85, .t 90], none, [5, 4, 3, 0, 2, 1, 10, 9, 8, 6, 7]⟩,
    ⟨some 92, .mv, [.t 11], none, []⟩,
    ⟨some 93, .faddr 7 (.int .i64), [.t 10], none, []⟩,
    ⟨some 94, .load (.int .i64), [.t 93], none, [13]⟩,
    ⟨some 95, .bin .mul, [.t 92, .t 94], none, [12, 14, 13]⟩,
    ⟨some 96, .bin .neq, [.t 91, .t 95], none, [11, 5, 4, 3, 0, 2, 1, 10, 9, 8, 6, 7, 15, 12, 14, 13]⟩,
    ⟨some 97, .mv, [.t 96], none, [16, 11, 5, 4, 3, 0, 2, 1, 10, 9, 8, 6, 7, 15, 12, 14, 13]⟩,
    ⟨some 98, .mv, [.t 6], some (17, 97, false), [17, 16, 11, 5, 4, 3, 0, 2, 1, 10, 9, 8, 6, 7, 15, 12, 14, 13]⟩,
    ⟨some 99, .mv, [.t 9], some (17, 97, false), [17, 16, 11, 5, 4, 3, 0, 2, 1, 10, 9, 8, 6, 7, 15, 12, 14, 13]⟩,
    ⟨some 100, .bin .add, [.t 99, .int .i64 1], some (17, 97, false), [19, 17, 16, 11, 5, 4, 3, 0, 2, 1, 10, 9, 8, 6, 7, 15, 12, 14, 13]⟩,
    ⟨some 101, .iaddr (.st (.cons (.int .i64) (.cons (.int .i64) (.int .i64)))), [.t 98, .t 100], some (17, 97, false), [18, 17, 16, 11, 5, 4, 3, 0, 2, 1, 10, 9, 8, 6, 7, 15, 12, 14, 13, 20, 19]⟩,
    ⟨some 102, .faddr 1 (.int .i64), [.t 101], some (17, 97, false), [21, 18, 17, 16, 11, 5, 4, 3, 0, 2, 1, 10, 9, 8, 6, 7, 15, 12, 14, 13, 20, 19]⟩,
    ⟨some 103, .load (.int .i64), [.t 102], some (17, 97, false), [22, 21, 18, 17, 16, 11, 5, 4, 3, 0, 2, 1, 10, 9, 8, 6, 7, 15, 12, 14, 13, 20, 19]⟩,
    ⟨some 104, .mv, [.t 6], some (17, 97, false), [17, 16, 11, 5, 4, 3, 0, 2, 1, 10, 9, 8, 6, 7, 15, 12, 14, 13]⟩,
    ⟨some 105, .mv, [.t 9], some (17, 97, false), [17, 16, 11, 5, 4, 3, 0, 2, 1, 10, 9, 8, 6, 7, 15, 12, 14, 13]⟩,
    ⟨some 106, .iaddr (.st (.cons (.int .i64) (.cons (.int .i64) (.int .i64)))), [.t 104, .t 105], some (17, 97, false), [24, 17, 16, 11, 5, 4, 3, 0, 2, 1, 10, 9, 8, 6, 7, 15, 12, 14, 13, 25]⟩,
    ⟨some 107, .faddr 1 (.int .i64), [.t 106], some (17, 97, false), [26, 24, 17, 16, 11, 5, 4, 3, 0, 2, 1, 10, 9, 8, 6, 7, 15, 12, 14, 13, 25]⟩,
    ⟨some 108, .load (.int .i64), [.t 107], some (17, 97, false), [27, 26, 24, 17, 16, 11, 5, 4, 3, 0, 2, 1, 10, 9, 8, 6, 7, 15, 12, 14, 13, 25]⟩,
    ⟨some 109, .bin .sub, [.t 103, .t 108], some (17, 97, false), [23, 22, 21, 18, 17, 16, 11, 5, 4, 3, 0, 2, 1, 10, 9, 8, 6, 7, 15, 12, 14, 13, 20, 19, 28, 27, 26, 24, 25]⟩,
    ⟨some 110, .mv, [.t 11], some (17, 97, false), [17, 16, 11, 5, 4, 3, 0, 2, 1, 10, 9, 8, 6, 7, 15, 12, 14, 13]⟩,
    ⟨some 111, .faddr 8 (.int .i64), [.t 10], some (17, 97, false), [17, 16, 11, 5, 4, 3, 0, 2, 1, 10, 9, 8, 6, 7, 15, 12, 14, 13]⟩,
    ⟨some 112, .load (.int .i64), [.t 111], some (17, 97, false), [31, 17, 16, 11, 5, 4, 3, 0, 2, 1, 10, 9, 8, 6, 7, 15, 12, 14, 13]⟩,
    ⟨some 113, .bin .mul, [.t 110, .t 112], some (17, 97, false), [30, 17, 16, 11, 5, 4, 3, 0, 2, 1, 10, 9, 8, 6, 7, 15, 12, 14, 13, 32, 31]⟩,
    ⟨some 114, .bin .neq, [.t 109, .t 113], some (17, 97, false), [29, 23, 22, 21, 18, 17, 16, 11, 5, 4, 3, 0, 2, 1, 10, 9, 8, 6, 7, 15, 12, 14, 13, 20, 19, 28, 27, 26, 24, 25, 33, 30, 32, 31]⟩,
    ⟨some 115, .pick, [.t 97, .bool true, .t 114], none, [17, 16, 11, 5, 4, 3, 0, 2, 1, 10, 9, 8, 6, 7, 15, 12, 14, 13, 34, 29, 23, 22, 21, 18, 20, 19, 28, 27, 26, 24, 25, 33, 30, 32, 31]⟩,
    ⟨some 116, .mv, [.t 115], none, [35, 17, 16, 11, 5, 4, 3, 0, 2, 1, 10, 9, 8, 6, 7, 15, 12, 14, 13, 34, 29, 23, 22, 21, 18, 20, 19, 28, 27, 26, 24, 25, 33, 30, 32, 31]⟩,
    ⟨some 117, .mv, [.t 6], some (36, 116, false), [36, 35, 17, 16, 11, 5, 4, 3, 0, 2, 1, 10, 9, 8, 6, 7, 15, 12, 14, 13, 34, 29, 23, 22, 21, 18, 20, 19, 28, 27, 26, 24, 25, 33, 30, 32, 31]⟩,
    ⟨some 118, .mv, [.t 9], some (36, 116, false), [36, 35, 17, 16, 11, 5, 4, 3, 0, 2, 1, 10, 9, 8, 6, 7, 15, 12, 14, 13, 34, 29, 23, 22, 21, 18, 20, 19, 28, 27, 26, 24, 25, 33, 30, 32, 31]⟩,
    ⟨some 119, .bin .add, [.t 118, .int .i64 1], some (36, 116, false), [38, 36, 35, 17, 16, 11, 5, 4, 3, 0, 2, 1, 10, 9, 8, 6, 7, 15, 12, 14, 13, 34, 29, 23, 22, 21, 18, 20, 19, 28, 27, 26, 24, 25, 33, 30, 32, 31]⟩,
    ⟨some 120, .iaddr (.st (.cons (.int .i64) (.cons (.int .i64) (.int .i64)))), [.t 117, .t 119], some (36, 116, false), [37, 36, 35, 17, 16, 11, 5, 4, 3, 0, 2, 1, 10, 9, 8, 6, 7, 15, 12, 14, 13, 34, 29, 23, 22, 21, 18, 20, 19, 28, 27, 26, 24, 25, 33, 30, 32, 31, 39, 38]⟩,
    ⟨some 121, .faddr 2 (.int .i64), [.t 120], some (36, 116, false), [40, 37, 36, 35, 17, 16, 11, 5, 4, 3, 0, 2, 1, 10, 9, 8, 6, 7, 15, 12, 14, 13, 34, 29, 23, 22, 21, 18, 20, 19, 28, 27, 26, 24, 25, 33, 30, 32, 31, 39, 38]⟩,
    ⟨some 122, .load (.int .i64), [.t 121], some (36, 116, false), [41, 40, 37, 36, 35, 17, 16, 11, 5, 4, 3, 0, 2, 1, 10, 9, 8, 6, 7, 15, 12, 14, 13, 34, 29, 23, 22, 21, 18, 20, 19, 28, 27, 26, 24, 25, 33, 30, 32, 31, 39, 38]⟩,
    ⟨some 123, .mv, [.t 6], some (36, 116, false), [36, 35, 17, 16, 11, 5, 4, 3, 0, 2, 1, 10, 9, 8, 6, 7, 15, 12, 14, 13, 34, 29, 23, 22, 21, 18, 20, 19, 28, 27, 26, 24, 25, 33, 30, 32, 31]⟩,
    ⟨some 124, .mv, [.t 9], some (36, 116, false), [36, 35, 17, 16, 11, 5, 4, 3, 0, 2, 1, 10, 9, 8, 6, 7, 15, 12, 14, 13, 34, 29, 23, 22, 21, 18, 20, 19, 28, 27, 26, 24, 25, 33, 30, 32, 31]⟩,
    ⟨some 125, .iaddr (.st (.cons (.int .i64) (.cons (.int .i64) (.int .i64)))), [.t 123, .t 124], some (36, 116, false), [43, 36, 35, 17, 16, 11, 5, 4, 3, 0, 2, 1, 10, 9, 8, 6, 7, 15, 12, 14, 13, 34, 29, 23, 22, 21, 18, 20, 19, 28, 27, 26, 24, 25, 33, 30, 32, 31, 44]⟩,
    ⟨some 126, .faddr 2 (.int .i64), [.t 125], some (36, 116, false), [45, 43, 36, 35, 17, 16, 11, 5, 4, 3, 0, 2, 1, 10, 9, 8, 6, 7, 15, 12, 14, 13, 34, 29, 23, 22, 21, 18, 20, 19, 28, 27, 26, 24, 25, 33, 30, 32, 31, 44]⟩,
    ⟨some 127, .load (.int .i64), [.t 126], some (36, 116, false), [46, 45, 43, 36, 35, 17, 16, 11, 5, 4, 3, 0, 2, 1, 10, 9, 8, 6, 7, 15, 12, 14, 13, 34, 29, 23, 22, 21, 18, 20, 19, 28, 27, 26, 24, 25, 33, 30, 32, 31, 44]⟩,
    ⟨some 128, .bin .sub, [.t 122, .t 127], some (36, 116, false), [42, 41, 40, 37, 36, 35, 17, 16, 11, 5, 4, 3, 0, 2, 1, 10, 9, 8, 6, 7, 15, 12, 14, 13, 34, 29, 23, 22, 21, 18, 20, 19, 28, 27, 26, 24, 25, 33, 30, 32, 31, 39, 38, 47, 46, 45, 43, 44]⟩,
    ⟨some 129, .mv, [.t 11], some (36, 116, false), [36, 35, 17, 16, 11, 5, 4, 3, 0, 2, 1, 10, 9, 8, 6, 7, 15, 12, 14, 13, 34, 29, 23, 22, 21, 18, 20, 19, 28, 27, 26, 24, 25, 33, 30, 32, 31]⟩,
    ⟨some 130, .faddr 9 (.int .i64), [.t 10], some (36, 116, false), [36, 35, 17, 16, 11, 5, 4, 3, 0, 2, 1, 10, 9, 8, 6, 7, 15, 12, 14, 13, 34, 29, 23, 22, 21, 18, 20, 19, 28, 27, 26, 24, 25, 33, 30, 32, 31]⟩,
    ⟨some 131, .load (.int .i64), [.t 130], some (36, 116, false), [50, 36, 35, 17, 16, 11, 5, 4, 3, 0, 2, 1, 10, 9, 8, 6, 7, 15, 12, 14, 13, 34, 29, 23, 22, 21, 18, 20, 19, 28, 27, 26, 24, 25, 33, 30, 32, 31]⟩,
    ⟨some 132, .bin .mul, [.t 129, .t 131], some (36, 116, false), [49, 36, 35, 17, 16, 11, 5, 4, 3, 0, 2, 1, 10, 9, 8, 6, 7, 15, 12, 14, 13, 34, 29, 23, 22, 21, 18, 20, 19, 28, 27, 26, 24, 25, 33, 30, 32, 31, 51, 50]⟩,
    ⟨some 133, .bin .neq, [.t 128, .t 132], some (36, 116, false), [48, 42, 41, 40, 37, 36, 35, 17, 16, 11, 5, 4, 3, 0, 2, 1, 10, 9, 8, 6, 7, 15, 12, 14, 13, 34, 29, 23, 22, 21, 18, 20, 19, 28, 27, 26, 24, 25, 33, 30, 32, 31, 39, 38, 47, 46, 45, 43, 44, 52, 49, 51, 50]⟩,
    ⟨some 134, .pick, [.t 116, .bool true, .t 133], none, [36, 35, 17, 16, 11, 5, 4, 3, 0, 2, 1, 10, 9, 8, 6, 7, 15, 12, 14, 13, 34, 29, 23, 22, 21, 18, 20, 19, 28, 27, 26, 24, 25, 33, 30, 32, 31, 53, 48, 42, 41, 40, 37, 39, 38, 47, 46, 45, 43, 44, 52, 49, 51, 50]⟩])
  (.cond (.t 134)
   (.seq (.reg false [
     ⟨some 4, .mv, [.bool false], none, []⟩])
   .ret)
   .skip))
  (.clean (.seq (.reg false [
    ⟨some 135, .mv, [.t 0], none, []⟩,
    ⟨some 136, .mv, [.t 9], none, []⟩,
    ⟨some 137, .iaddr (.st (.cons (.int .i64) .bool)), [.t 135, .t 136], none, []⟩,
    ⟨some 138, .faddr 1 .bool, [.t 137], none, []⟩,
    ⟨some 139, .load .bool, [.t 138], none, []⟩,
    ⟨some 140, .not, [.t 139], none, []⟩,
    ⟨some 141, .mv, [.t 140], none, []⟩,
    ⟨some 142, .mv, [.t 0], some (6, 141, true), []⟩,
    ⟨some 143, .mv, [.t 0], some (6, 141, true), []⟩,
    ⟨some 144, .mv, [.t 9], some (6, 141, true), []⟩,
    ⟨some 145, .iaddr (.st (.cons (.int .i64) .bool)), [.t 143, .t 144], some (6, 141, true), []⟩,
    ⟨some 146, .faddr 0 (.int .i64), [.t 145], some (6, 141, true), []⟩,
    ⟨some 147, .load (.int .i64), [.t 146], some (6, 141, true), []⟩,
    ⟨some 148, .call 19, [.t 142, .t 147, .bool true], some (6, 141, true), []⟩,
    ⟨some 149, .bin .lss, [.t 148, .int .i64 0], some (6, 141, true), []⟩,
    ⟨some 150, .pick, [.t 141, .t 149, .bool false], none, []⟩])
  (.cond (.t 150)
   (.seq (.reg false [
     ⟨some 151, .faddr 0 (.int .i64), [.t 8], none, []⟩,
     ⟨some 152, .load (.int .i64), [.t 151], none, []⟩,
     ⟨some 153, .faddr 7 (.int .i64), [.t 10], none, []⟩,
     ⟨some 154, .load (.int .i64), [.t 153], none, []⟩,
     ⟨some 155, .bin .add, [.t 152, .t 154], none, []⟩,
     ⟨some 156, .faddr 0 (.int .i64), [.t 8], none, []⟩,
     ⟨none, .store (.int .i64), [.t 156, .t 155], none, []⟩])
   (.clean (.seq (.reg false [
     ⟨some 157, .faddr 1 (.int .i64), [.t 8], none, []⟩,
     ⟨some 158, .load (.int .i64), [.t 157], none, []⟩,
     ⟨some 159, .faddr 8 (.int .i64), [.t 10], none, []⟩,
     ⟨some 160, .load (.int .i64), [.t 159], none, []⟩,
     ⟨some 161, .bin .add, [.t 158, .t 160], none, []⟩,
     ⟨some 162, .faddr 1 (.int .i64), [.t 8], none, []⟩,
     ⟨none, .store (.int .i64), [.t 162, .t 161], none, []⟩])
   (.clean (.reg false [
     ⟨some 163, .faddr 2 (.int .i64), [.t 8], none, []⟩,
     ⟨some 164, .load (.int .i64), [.t 163], none, []⟩,
     ⟨some 165, .faddr 9 (.int .i64), [.t 10], none, []⟩,
     ⟨some 166, .load (.int .i64), [.t 165], none, []⟩,
     ⟨some 167, .bin .add, [.t 164, .t 166], none, []⟩,
     ⟨some 168, .faddr 2 (.int .i64), [.t 8], none, []⟩,
     ⟨none, .store (.int .i64), [.t 168, .t 167], none, []⟩])))))
   .skip))))))))))))
 (.clean (.reg false [
   ⟨some 49, .mv, [.t 9], none, []⟩,
   ⟨some 50, .bin .add, [.t 49, .int .i64 1], none, []⟩,
   ⟨some 9, .mv, [.t 50], none, []⟩]))))
def x4_0d : List Nat := [4, 9, 10, 11]
def x4_1 : XC := (.seq (.seq (.reg false [
   ⟨some 169, .mv, [.t 12], none, []⟩,
   ⟨some 170, .mv, [.t 6], none, []⟩,
   ⟨some 171, .len false, [.t 170], none, []⟩,
   ⟨some 172, .bin .lss, [.t 169, .t 171], none, []⟩])
 (.cond (.t 172)
  .skip
  (.exit 2)))
 (.seq (.block 3 (.seq (.reg false [
    ⟨some 175, .mv, [.t 6], none, []⟩,
    ⟨some 176, .mv, [.t 12], none, []⟩,
    ⟨some 177, .iaddr (.st (.cons (.int .i64) (.cons (.int .i64) (.int .i64)))), [.t 175, .t 176], none, []⟩,
    ⟨some 178, .faddr 0 (.int .i64), [.t 177], none, []⟩,
    ⟨some 179, .load (.int .i64), [.t 178], none, []⟩,
    ⟨some 180, .bin .lss, [.t 179, .int .i64 0], none, []⟩,
    ⟨some 181, .mv, [.t 180], none, []⟩,
    ⟨some 182, .mv, [.t 6], some (6, 181, false), []⟩,
    ⟨some 183, .mv, [.t 12], some (6, 181, false), []⟩,
    ⟨some 184, .iaddr (.st (.cons (.int .i64) (.cons (.int .i64) (.int .i64)))), [.t 182, .t 183], some (6, 181, false), []⟩,
    ⟨some 185, .faddr 1 (.int .i64), [.t 184], some (6, 181, false), []⟩,
    ⟨some 186, .load (.int .i64), [.t 185], some (6, 181, false), []⟩,
    ⟨some 187, .bin .lss, [.t 186, .int .i64 0], some (6, 181, false), []⟩,
    ⟨some 188, .pick, [.t 181, .bool true, .t 187], none, []⟩,
    ⟨some 189, .mv, [.t 188], none, []⟩,
    ⟨some 190, .mv, [.t 6], some (14, 189, false), []⟩,
    ⟨some 191, .mv, [.t 12], some (14, 189, false), []⟩,
    ⟨some 192, .iaddr (.st (.cons (.int .i64) (.cons (.int .i64) (.int .i64)))), [.t 190, .t 191], some (14, 189, false), []⟩,
    ⟨some 193, .faddr 2 (.int .i64), [.t 192], some (14, 189, false), []⟩,
    ⟨some 194, .load (.int .i64), [.t 193], some (14, 189, false), []⟩,
    ⟨some 195, .bin .lss, [.t 194, .int .i64 0], some (14, 189, false), []⟩,
    ⟨some 196, .pick, [.t 189, .bool true, .t 195], none, []⟩])
  (.cond (.t 196)
   (.seq (.reg false [
     ⟨some 4, .mv, [.bool false], none, []⟩])
   .ret)
   .skip)))
 (.clean (.reg false [
   ⟨some 173, .mv, [.t 12], none, []⟩,
   ⟨some 174, .bin .add, [.t 173, .int .i64 1], none, []⟩,
   ⟨some 12, .mv, [.t 174], none, []⟩]))))
def x4_1d : List Nat := [4, 12]
def x4 : XF := ⟨214, [.tmp 4], [0, 1, 4, 5, 6, 7, 8, 9, 10, 11, 12],
 (.seq (.reg false [
   ⟨some 4, .mv, [.bool false], none, []⟩])
 (.seq (.reg false [
   ⟨some 13, .call 8, [], none, []⟩,
   ⟨some 5, .mv, [.t 13], none, []⟩])
 (.seq (.seq (.reg false [
   ⟨some 14, .mv, [.t 0], none, []⟩,
   ⟨some 15, .mv, [.t 1], none, []⟩,
   ⟨some 16, .call 9, [.nil, .t 14, .t 15], none, []⟩,
   ⟨some 17, .not, [.t 16], none, []⟩])
 (.cond (.t 17)
  (.seq (.reg false [
    ⟨some 18, .mv, [.t 5], none, []⟩,
    ⟨some 4, .mv, [.t 18], none, []⟩])
  .ret)
  .skip))
 (.clean (.seq (.reg false [
   ⟨some 20, .mv, [.t 0], none, []⟩,
   ⟨some 21, .mv, [.t 1], none, []⟩,
   ⟨some 22, .call 10, [.t 20, .t 21], none, []⟩,
   ⟨some 19, .mv, [.t 22], none, []⟩,
   ⟨some 23, .extract 0, [.t 19], none, []⟩,
   ⟨some 24, .extract 1, [.t 19], none, []⟩,
   ⟨some 6, .mv, [.t 23], none, []⟩,
   ⟨some 7, .mv, [.t 24], none, []⟩])
 (.clean (.seq (.seq (.reg false [
   ⟨some 25, .mv, [.t 7], none, []⟩,
   ⟨some 26, .bin .neq, [.t 25, .int .i64 0], none, []⟩])
 (.cond (.t 26)
  (.seq (.reg false [
    ⟨some 27, .mv, [.t 5], none, []⟩,
    ⟨some 28, .mv, [.t 27], none, []⟩,
    ⟨some 29, .mv, [.t 6], some (1, 28, true), []⟩,
    ⟨some 30, .len false, [.t 29], some (1, 28, true), []⟩,
    ⟨some 31, .bin .eql, [.t 30, .int .i64 0], some (1, 28, true), []⟩,
    ⟨some 32, .pick, [.t 28, .t 31, .bool false], none, []⟩,
    ⟨some 33, .mv, [.t 32], none, []⟩,
    ⟨some 34, .mv, [.t 0], some (6, 33, true), []⟩,
    ⟨some 35, .mv, [.t 1], some (6, 33, true), []⟩,
    ⟨some 36, .call 15, [.t 34, .t 35], some (6, 33, true), []⟩,
    ⟨some 37, .not, [.t 36], some (6, 33, true), []⟩,
    ⟨some 38, .pick, [.t 33, .t 37, .bool false], none, []⟩,
    ⟨some 4, .mv, [.t 38], none, []⟩])
  .ret)
  .skip))
 (.clean (.seq (.seq (.reg false [
   ⟨some 39, .mv, [.t 6], none, []⟩,
   ⟨some 40, .len false, [.t 39], none, []⟩,
   ⟨some 41, .mv, [.t 0], none, []⟩,
   ⟨some 42, .len false, [.t 41], none, []⟩,
   ⟨some 43, .bin .add, [.t 42, .int .i64 1], none, []⟩,
   ⟨some 44, .bin .neq, [.t 40, .t 43], none, []⟩])
 (.cond (.t 44)
  (.seq (.reg false [
    ⟨some 4, .mv, [.bool false], none, []⟩])
  .ret)
  .skip))
 (.clean (.seq (.reg false [
   ⟨some 8, .alloc 42 (.st (.cons (.int .i64) (.cons (.int .i64) (.int .i64)))), [], none, []⟩])
 (.seq (.seq (.reg false [
   ⟨some 9, .mv, [.int .i64 0], none, []⟩])
 (.block 0 (.loop x4_0)))
 (.clean (.seq (.seq (.reg false [
   ⟨some 12, .mv, [.int .i64 0], none, []⟩])
 (.block 2 (.loop x4_1)))
 (.clean (.seq (.reg true [
   ⟨some 197, .mv, [.t 5], none, []⟩,
   ⟨some 198, .mv, [.t 197], none, [0]⟩,
   ⟨some 199, .mv, [.t 6], some (1, 198, true), [1, 0]⟩,
   ⟨some 200, .iaddr (.st (.cons (.int .i64) (.cons (.int .i64) (.int .i64)))), [.t 199, .int .i64 0], some (1, 198, true), [2, 1, 0]⟩,
   ⟨some 201, .load (.st (.cons (.int .i64) (.cons (.int .i64) (.int .i64)))), [.t 200], some (1, 198, true), [3, 2, 1, 0]⟩,
   ⟨some 202, .load (.st (.cons (.int .i64) (.cons (.int .i64) (.int .i64)))), [.t 8], some (1, 198, true), [1, 0]⟩,
   ⟨some 203, .steq false (.st (.cons (.int .i64) (.cons (.int .i64) (.int .i64)))), [.t 201, .t 202], some (1, 198, true), [4, 3, 2, 1, 0, 5]⟩,
   ⟨some 204, .pick, [.t 198, .t 203, .bool false], none, [1, 0, 6, 4, 3, 2, 5]⟩,
   ⟨some 205, .mv, [.t 204], none, [7, 1, 0, 6, 4, 3, 2, 5]⟩,
   ⟨some 206, .mv, [.t 6], some (8, 205, true), [8, 7, 1, 0, 6, 4, 3, 2, 5]⟩,
   ⟨some 207, .mv, [.t 0], some (8, 205, true), [8, 7, 1, 0, 6, 4, 3, 2, 5]⟩,
   ⟨some 208, .len false, [.t 207], some (8, 205, true), [10, 8, 7, 1, 0, 6, 4, 3, 2, 5]⟩,
   ⟨some 209, .iaddr (.st (.cons (.int .i64) (.cons (.int .i64) (.int .i64)))), [.t 206, .t 208], some (8, 205, true), [9, 8, 7, 1, 0, 6, 4, 3, 2, 5, 11, 10]⟩,
   ⟨some 210, .load (.st (.cons (.int .i64) (.cons (.int .i64) (.int .i64)))), [.t 209], some (8, 205, true), [12, 9, 8, 7, 1, 0, 6, 4, 3, 2, 5, 11, 10]⟩,
   ⟨some 211, .build (.st (.cons (.int .i64) (.cons (.int .i64) (.int .i64)))) [], [], some (8, 205, true), [8, 7, 1, 0, 6, 4, 3, 2, 5]⟩,
   ⟨some 212, .steq false (.st (.cons (.int .i64) (.cons (.int .i64) (.int .i64)))), [.t 210, .t 211], some (8, 205, true), [13, 12, 9, 8, 7, 1, 0, 6, 4, 3, 2, 5, 11, 10, 14]⟩,
   ⟨some 213, .pick, [.t 205, .t 212, .bool false], none, [8, 7, 1, 0, 6, 4, 3, 2, 5, 15, 13, 12, 9, 11, 10, 14]⟩,
   ⟨some 4, .mv, [.t 213], none, [16, 8, 7, 1, 0, 6, 4, 3, 2, 5, 15, 13, 12, 9, 11, 10, 14]⟩])
 .ret))))))))))))))))⟩
/- 0=stops 1=requests 4= 5=head 6=l 7=e 8=begin 9=i 10=r 11=sign 12=i -/
/-! tonneau/tonneaulaw17.LoadMore -/
def x5_0 : XC := (.seq (.seq (.reg false [
   ⟨some 128, .mv, [.t 23], none, []⟩,
   ⟨some 129, .mv, [.t 21], none, []⟩,
   ⟨some 130, .len false, [.t 129], none, []⟩,
   ⟨some 131, .bin .lss, [.t 128, .t 130], none, []⟩])
 (.cond (.t 131)
  .skip
  (.exit 0)))
 (.seq (.block 1 (.seq (.reg false [
    ⟨some 134, .mv, [.t 19], none, []⟩,
    ⟨some 135, .mv, [.t 23], none, []⟩,
    ⟨some 136, .mv, [.t 19], none, []⟩,
    ⟨some 137, .len false, [.t 136], none, []⟩,
    ⟨some 138, .bin .sub, [.t 137, .int .i64 1], none, []⟩,
    ⟨some 139, .min, [.t 135, .t 138], none, []⟩,
    ⟨some 140, .iaddr (.st (.cons (.int .i64) (.cons (.int .i64) (.int .i64)))), [.t 134, .t 139], none, []⟩,
    ⟨some 141, .load (.st (.cons (.int .i64) (.cons (.int .i64) (.int .i64)))), [.t 140], none, []⟩,
    ⟨some 24, .alloc 42 (.st (.cons (.int .i64) (.cons (.int .i64) (.int .i64)))), [], none, []⟩,
    ⟨none, .store (.st (.cons (.int .i64) (.cons (.int .i64) (.int .i64)))), [.t 24, .t 141], none, []⟩])
  (.clean (.seq (.seq (.reg false [
    ⟨some 142, .mv, [.t 23], none, []⟩,
    ⟨some 143, .mv, [.t 15], none, []⟩,
    ⟨some 144, .bin .add, [.t 143, .int .i64 1], none, []⟩,
    ⟨some 145, .bin .gtr, [.t 142, .t 144], none, []⟩])
  (.cond (.t 145)
   (.reg false [
     ⟨some 146, .mv, [.t 19], none, []⟩,
     ⟨some 147, .mv, [.t 23], none, []⟩,
     ⟨some 148, .bin .sub, [.t 147, .int .i64 2], none, []⟩,
     ⟨some 149, .iaddr (.st (.cons (.int .i64) (.cons (.int .i64) (.int .i64)))), [.t 146, .t 148], none, []⟩,
     ⟨some 150, .load (.st (.cons (.int .i64) (.cons (.int .i64) (.int .i64)))), [.t 149], none, []⟩,
     ⟨none, .store (.st (.cons (.int .i64) (.cons (.int .i64) (.int .i64)))), [.t 24, .t 150], none, []⟩])
   (.seq (.reg false [
     ⟨some 151, .mv, [.t 23], none, []⟩,
     ⟨some 152, .mv, [.t 14], none, []⟩,
     ⟨some 153, .bin .gtr, [.t 151, .t 152], none, []⟩])
   (.cond (.t 153)
    (.seq (.reg false [
      ⟨some 154, .mv, [.t 19], none, []⟩,
      ⟨some 155, .mv, [.t 23], none, []⟩,
      ⟨some 156, .bin .sub, [.t 155, .int .i64 1], none, []⟩,
      ⟨some 157, .iaddr (.st (.cons (.int .i64) (.cons (.int .i64) (.int .i64)))), [.t 154, .t 156], none, []⟩,
      ⟨some 158, .load (.st (.cons (.int .i64) (.cons (.int .i64) (.int .i64)))), [.t 157], none, []⟩,
      ⟨none, .store (.st (.cons (.int .i64) (.cons (.int .i64) (.int .i64)))), [.t 24, .t 158], none, []⟩])
    (.seq (.reg false [
      ⟨some 159, .faddr 0 (.int .i64), [.t 24], none, []⟩,
      ⟨some 160, .load (.int .i64), [.t 159], none, []⟩,
      ⟨some 161, .faddr 7 (.int .i64), [.t 9], none, []⟩,
      ⟨some 162, .load (.int .i64), [.t 161], none, []⟩,
      ⟨some 163, .bin .add, [.t 160, .t 162], none, []⟩,
      ⟨some 164, .faddr 0 (.int .i64), [.t 24], none, []⟩,
      ⟨none, .store (.int .i64), [.t 164, .t 163], none, []⟩])
    (.clean (.seq (.reg false [
      ⟨some 165, .faddr 1 (.int .i64), [.t 24], none, []⟩,
      ⟨some 166, .load (.int .i64), [.t 165], none, []⟩,
      ⟨some 167, .faddr 8 (.int .i64), [.t 9], none, []⟩,
      ⟨some 168, .load (.int .i64), [.t 167], none, []⟩,
      ⟨some 169, .bin .add, [.t 166, .t 168], none, []⟩,
      ⟨some 170, .faddr 1 (.int .i64), [.t 24], none, []⟩,
      ⟨none, .store (.int .i64), [.t 170, .t 169], none, []⟩])
    (.clean (.reg false [
      ⟨some 171, .faddr 2 (.int .i64), [.t 24], none, []⟩,
      ⟨some 172, .load (.int .i64), [.t 171], none, []⟩,
      ⟨some 173, .faddr 9 (.int .i64), [.t 9], none, []⟩,
      ⟨some 174, .load (.int .i64), [.t 173], none, []⟩,
      ⟨some 175, .bin .add, [.t 172, .t 174], none, []⟩,
      ⟨some 176, .faddr 2 (.int .i64), [.t 24], none, []⟩,
      ⟨none, .store (.int .i64), [.t 176, .t 175], none, []⟩]))))))
    .skip))))
  (.clean (.seq (.reg true [
    ⟨some 177, .mv, [.t 21], none, []⟩,
    ⟨some 178, .mv, [.t 23], none, []⟩,
    ⟨some 179, .iaddr (.st (.cons (.int .i64) (.cons (.int .i64) (.int .i64)))), [.t 177, .t 178], none, [0, 1]⟩,
    ⟨some 180, .load (.st (.cons (.int .i64) (.cons (.int .i64) (.int .i64)))), [.t 179], none, [2, 0, 1]⟩,
    ⟨some 181, .load (.st (.cons (.int .i64) (.cons (.int .i64) (.int .i64)))), [.t 24], none, []⟩,
    ⟨some 182, .steq true (.st (.cons (.int .i64) (.cons (.int .i64) (.int .i64)))), [.t 180, .t 181], none, [3, 2, 0, 1, 4]⟩])
  (.cond (.t 182)
   (.seq (.reg false [
     ⟨some 12, .mv, [.bool false], none, []⟩])
   .ret)
   .skip)))))))
 (.clean (.reg false [
   ⟨some 132, .mv, [.t 23], none, []⟩,
   ⟨some 133, .bin .add, [.t 132, .int .i64 1], none, []⟩,
   ⟨some 23, .mv, [.t 133], none, []⟩]))))
def x5_0d : List Nat := [12, 23, 24]
def x5 : XF := ⟨229, [.tmp 12], [0, 1, 2, 3, 4, 5, 6, 9, 12, 13, 14, 15, 16, 17, 18, 19, 20, 21, 22, 23, 24, 26, 27, 29],
 (.seq (.reg false [
   ⟨some 6, .box 23, [.t 0], none, []⟩,
   ⟨some 9, .box 46, [.t 3], none, []⟩,
   ⟨some 12, .mv, [.bool false], none, []⟩])
 (.seq (.reg false [
   ⟨some 30, .call 8, [], none, []⟩,
   ⟨some 13, .mv, [.t 30], none, []⟩])
 (.seq (.seq (.reg false [
   ⟨some 31, .mv, [.t 1], none, []⟩,
   ⟨some 32, .mv, [.t 2], none, []⟩,
   ⟨some 33, .call 9, [.nil, .t 31, .t 32], none, []⟩,
   ⟨some 34, .not, [.t 33], none, []⟩,
   ⟨some 35, .mv, [.t 34], none, []⟩,
   ⟨some 36, .mv, [.t 1], some (4, 35, false), []⟩,
   ⟨some 37, .len false, [.t 36], some (4, 35, false), []⟩,
   ⟨some 38, .bin .gtr, [.t 37, .int .i64 14], some (4, 35, false), []⟩,
   ⟨some 39, .pick, [.t 35, .bool true, .t 38], none, []⟩,
   ⟨some 40, .mv, [.t 39], none, []⟩,
   ⟨some 41, .mv, [.t 2], some (9, 40, false), []⟩,
   ⟨some 42, .len false, [.t 41], some (9, 40, false), []⟩,
   ⟨some 43, .bin .gtr, [.t 42, .int .i64 9], some (9, 40, false), []⟩,
   ⟨some 44, .pick, [.t 40, .bool true, .t 43], none, []⟩,
   ⟨some 45, .mv, [.t 44], none, []⟩,
   ⟨some 46, .mv, [.t 1], some (14, 45, false), []⟩,
   ⟨some 47, .mv, [.t 2], some (14, 45, false), []⟩,
   ⟨some 48, .call 15, [.t 46, .t 47], some (14, 45, false), []⟩,
   ⟨some 49, .not, [.t 48], some (14, 45, false), []⟩,
   ⟨some 50, .pick, [.t 45, .bool true, .t 49], none, []⟩])
 (.cond (.t 50)
  (.seq (.reg false [
    ⟨some 51, .mv, [.t 13], none, []⟩,
    ⟨some 12, .mv, [.t 51], none, []⟩])
  .ret)
  .skip))
 (.clean (.seq (.reg false [
   ⟨some 52, .mv, [.t 4], none, []⟩,
   ⟨some 53, .conv .i64, [.t 52], none, []⟩,
   ⟨some 54, .mv, [.t 1], none, []⟩,
   ⟨some 55, .len false, [.t 54], none, []⟩,
   ⟨some 56, .bin .add, [.t 55, .int .i64 1], none, []⟩,
   ⟨some 57, .bin .rem, [.t 53, .t 56], none, []⟩,
   ⟨some 14, .mv, [.t 57], none, []⟩])
 (.clean (.seq (.reg false [
   ⟨some 58, .mv, [.t 14], none, []⟩,
   ⟨some 59, .mv, [.t 5], none, []⟩,
   ⟨some 60, .conv .i64, [.t 59], none, []⟩,
   ⟨some 61, .mv, [.t 1], none, []⟩,
   ⟨some 62, .len false, [.t 61], none, []⟩,
   ⟨some 63, .bin .add, [.t 62, .int .i64 1], none, []⟩,
   ⟨some 64, .mv, [.t 14], none, []⟩,
   ⟨some 65, .bin .sub, [.t 63, .t 64], none, []⟩,
   ⟨some 66, .bin .rem, [.t 60, .t 65], none, []⟩,
   ⟨some 67, .bin .add, [.t 58, .t 66], none, []⟩,
   ⟨some 15, .mv, [.t 67], none, []⟩])
 (.clean (.seq (.reg true [
   ⟨some 68, .bslice 46 (.st (.cons (.int .i64) (.cons (.int .i64) (.cons (.int .i64) (.cons (.int .i64) (.cons (.int .i64) (.cons (.int .i64) (.cons (.int .i64) (.cons (.int .i64) (.cons (.int .i64) (.int .i64))))))))))) 0 [], [], none, []⟩,
   ⟨some 69, .mv, [.t 2], none, []⟩,
   ⟨some 70, .append 46 (.st (.cons (.int .i64) (.cons (.int .i64) (.cons (.int .i64) (.cons (.int .i64) (.cons (.int .i64) (.cons (.int .i64) (.cons (.int .i64) (.cons (.int .i64) (.cons (.int .i64) (.int .i64))))))))))) 80, [.t 68, .t 69], none, [0, 1]⟩,
   ⟨some 71, .load (.st (.cons (.int .i64) (.cons (.int .i64) (.cons (.int .i64) (.cons (.int .i64) (.cons (.int .i64) (.cons (.int .i64) (.cons (.int .i64) (.cons (.int .i64) (.cons (.int .i64) (.int .i64))))))))))), [.t 9], none, []⟩,
   ⟨some 72, .bslice 46 (.st (.cons (.int .i64) (.cons (.int .i64) (.cons (.int .i64) (.cons (.int .i64) (.cons (.int .i64) (.cons (.int .i64) (.cons (.int .i64) (.cons (.int .i64) (.cons (.int .i64) (.int .i64))))))))))) 1 [0], [.t 71], none, [3]⟩,
   ⟨some 73, .append 46 (.st (.cons (.int .i64) (.cons (.int .i64) (.cons (.int .i64) (.cons (.int .i64) (.cons (.int .i64) (.cons (.int .i64) (.cons (.int .i64) (.cons (.int .i64) (.cons (.int .i64) (.int .i64))))))))))) 80, [.t 70, .t 72], none, [2, 0, 1, 4, 3]⟩,
   ⟨some 16, .mv, [.t 73], none, [5, 2, 0, 1, 4, 3]⟩])
 (.top (.clean (.seq (.reg false [
   ⟨some 74, .mv, [.t 2], none, []⟩,
   ⟨some 75, .len false, [.t 74], none, []⟩,
   ⟨some 17, .mv, [.t 75], none, []⟩])
 (.seq (.reg false [
   ⟨some 76, .mv, [.t 1], none, []⟩,
   ⟨some 77, .mv, [.t 15], none, []⟩,
   ⟨some 78, .mv, [.t 17], none, []⟩,
   ⟨some 79, .call 21, [.t 78], none, []⟩,
   ⟨some 80, .call 20, [.t 76, .t 77, .t 79], none, []⟩,
   ⟨some 81, .mv, [.t 14], none, []⟩,
   ⟨some 82, .mv, [.t 17], none, []⟩,
   ⟨some 83, .call 22, [.t 82], none, []⟩,
   ⟨some 84, .call 20, [.t 80, .t 81, .t 83], none, []⟩,
   ⟨some 18, .mv, [.t 84], none, []⟩])
 (.clean (.seq (.reg false [
   ⟨some 86, .mv, [.t 1], none, []⟩,
   ⟨some 87, .mv, [.t 2], none, []⟩,
   ⟨some 88, .call 10, [.t 86, .t 87], none, []⟩,
   ⟨some 85, .mv, [.t 88], none, []⟩,
   ⟨some 89, .extract 0, [.t 85], none, []⟩,
   ⟨some 90, .extract 1, [.t 85], none, []⟩,
   ⟨some 19, .mv, [.t 89], none, []⟩,
   ⟨some 20, .mv, [.t 90], none, []⟩])
 (.clean (.seq (.reg false [
   ⟨some 92, .mv, [.t 18], none, []⟩,
   ⟨some 93, .mv, [.t 16], none, []⟩,
   ⟨some 94, .call 10, [.t 92, .t 93], none, []⟩,
   ⟨some 91, .mv, [.t 94], none, []⟩,
   ⟨some 95, .extract 0, [.t 91], none, []⟩,
   ⟨some 96, .extract 1, [.t 91], none, []⟩,
   ⟨some 21, .mv, [.t 95], none, []⟩,
   ⟨some 22, .mv, [.t 96], none, []⟩])
 (.clean (.seq (.seq (.reg false [
   ⟨some 97, .mv, [.t 20], none, []⟩,
   ⟨some 98, .bin .neq, [.t 97, .int .i64 0], none, []⟩,
   ⟨some 99, .mv, [.t 98], none, []⟩,
   ⟨some 100, .mv, [.t 22], some (2, 99, false), []⟩,
   ⟨some 101, .bin .eql, [.t 100, .int .i64 0], some (2, 99, false), []⟩,
   ⟨some 102, .mv, [.t 18], some (2, 99, false), []⟩,
   ⟨some 103, .mv, [.t 16], some (2, 99, false), []⟩,
   ⟨some 104, .call 15, [.t 102, .t 103], some (2, 99, false), []⟩,
   ⟨some 105, .beq true .bool, [.t 101, .t 104], some (2, 99, false), []⟩,
   ⟨some 106, .pick, [.t 99, .bool true, .t 105], none, []⟩])
 (.cond (.t 106)
  (.seq (.reg false [
    ⟨some 12, .mv, [.bool false], none, []⟩])
  .ret)
  .skip))
 (.clean (.seq (.seq (.reg false [
   ⟨some 107, .mv, [.t 22], none, []⟩,
   ⟨some 108, .bin .neq, [.t 107, .int .i64 0], none, []⟩])
 (.cond (.t 108)
  (.seq (.reg false [
    ⟨some 109, .mv, [.t 13], none, []⟩,
    ⟨some 110, .mv, [.t 109], none, []⟩,
    ⟨some 111, .mv, [.t 22], some (1, 110, true), []⟩,
    ⟨some 112, .bin .eql, [.t 111, .int .i64 1], some (1, 110, true), []⟩,
    ⟨some 113, .pick, [.t 110, .t 112, .bool false], none, []⟩,
    ⟨some 12, .mv, [.t 113], none, []⟩])
  .ret)
  .skip))
 (.clean (.seq (.seq (.reg false [
   ⟨some 114, .mv, [.t 19], none, []⟩,
   ⟨some 115, .len false, [.t 114], none, []⟩,
   ⟨some 116, .mv, [.t 1], none, []⟩,
   ⟨some 117, .len false, [.t 116], none, []⟩,
   ⟨some 118, .bin .add, [.t 117, .int .i64 1], none, []⟩,
   ⟨some 119, .bin .neq, [.t 115, .t 118], none, []⟩,
   ⟨some 120, .mv, [.t 119], none, []⟩,
   ⟨some 121, .mv, [.t 21], some (6, 120, false), []⟩,
   ⟨some 122, .len false, [.t 121], some (6, 120, false), []⟩,
   ⟨some 123, .mv, [.t 1], some (6, 120, false), []⟩,
   ⟨some 124, .len false, [.t 123], some (6, 120, false), []⟩,
   ⟨some 125, .bin .add, [.t 124, .int .i64 3], some (6, 120, false), []⟩,
   ⟨some 126, .bin .neq, [.t 122, .t 125], some (6, 120, false), []⟩,
   ⟨some 127, .pick, [.t 120, .bool true, .t 126], none, []⟩])
 (.cond (.t 127)
  (.seq (.reg false [
    ⟨some 12, .mv, [.bool false], none, []⟩])
  .ret)
  .skip))
 (.clean (.seq (.seq (.reg false [
   ⟨some 23, .mv, [.int .i64 0], none, []⟩])
 (.block 0 (.loop x5_0)))
 (.clean (.seq (.reg false [
   ⟨some 184, .load (.st (.cons (.int .i64) (.cons (.int .i64) (.cons (.int .i64) (.cons (.int .i64) (.cons (.int .i64) (.cons (.int .i64) (.cons (.int .i64) (.cons (.int .i64) (.int .i64)))))))))), [.t 6], none, []⟩,
   ⟨some 185, .mv, [.t 1], none, []⟩,
   ⟨some 186, .mv, [.t 2], none, []⟩,
   ⟨some 187, .call 12, [.t 184, .t 185, .t 186], none, []⟩,
   ⟨some 183, .mv, [.t 187], none, []⟩,
   ⟨some 188, .extract 0, [.t 183], none, []⟩,
   ⟨some 189, .extract 1, [.t 183], none, []⟩,
   ⟨some 25, .mv, [.t 188], none, []⟩,
   ⟨some 26, .mv, [.t 189], none, []⟩])
 (.clean (.seq (.reg false [
   ⟨some 190, .load (.st (.cons (.int .i64) (.cons (.int .i64) (.cons (.int .i64) (.cons (.int .i64) (.cons (.int .i64) (.cons (.int .i64) (.cons (.int .i64) (.cons (.int .i64) (.int .i64)))))))))), [.t 6], none, []⟩,
   ⟨some 27, .alloc 23 (.st (.cons (.int .i64) (.cons (.int .i64) (.cons (.int .i64) (.cons (.int .i64) (.cons (.int .i64) (.cons (.int .i64) (.cons (.int .i64) (.cons (.int .i64) (.int .i64)))))))))), [], none, []⟩,
   ⟨none, .store (.st (.cons (.int .i64) (.cons (.int .i64) (.cons (.int .i64) (.cons (.int .i64) (.cons (.int .i64) (.cons (.int .i64) (.cons (.int .i64) (.cons (.int .i64) (.int .i64)))))))))), [.t 27, .t 190], none, []⟩])
 (.seq (.reg false [
   ⟨some 191, .faddr 4 (.int .i64), [.t 27], none, []⟩,
   ⟨some 192, .load (.int .i64), [.t 191], none, []⟩,
   ⟨some 193, .faddr 7 (.int .i64), [.t 9], none, []⟩,
   ⟨some 194, .load (.int .i64), [.t 193], none, []⟩,
   ⟨some 195, .bin .add, [.t 192, .t 194], none, []⟩,
   ⟨some 196, .faddr 4 (.int .i64), [.t 27], none, []⟩,
   ⟨none, .store (.int .i64), [.t 196, .t 195], none, []⟩])
 (.clean (.seq (.reg false [
   ⟨some 197, .faddr 5 (.int .i64), [.t 27], none, []⟩,
   ⟨some 198, .load (.int .i64), [.t 197], none, []⟩,
   ⟨some 199, .faddr 8 (.int .i64), [.t 9], none, []⟩,
   ⟨some 200, .load (.int .i64), [.t 199], none, []⟩,
   ⟨some 201, .bin .add, [.t 198, .t 200], none, []⟩,
   ⟨some 202, .faddr 5 (.int .i64), [.t 27], none, []⟩,
   ⟨none, .store (.int .i64), [.t 202, .t 201], none, []⟩])
 (.clean (.seq (.reg false [
   ⟨some 203, .faddr 6 (.int .i64), [.t 27], none, []⟩,
   ⟨some 204, .load (.int .i64), [.t 203], none, []⟩,
   ⟨some 205, .faddr 9 (.int .i64), [.t 9], none, []⟩,
   ⟨some 206, .load (.int .i64), [.t 205], none, []⟩,
   ⟨some 207, .bin .add, [.t 204, .t 206], none, []⟩,
   ⟨some 208, .faddr 6 (.int .i64), [.t 27], none, []⟩,
   ⟨none, .store (.int .i64), [.t 208, .t 207], none, []⟩])
 (.clean (.seq (.reg false [
   ⟨some 210, .load (.st (.cons (.int .i64) (.cons (.int .i64) (.cons (.int .i64) (.cons (.int .i64) (.cons (.int .i64) (.cons (.int .i64) (.cons (.int .i64) (.cons (.int .i64) (.int .i64)))))))))), [.t 27], none, []⟩,
   ⟨some 211, .mv, [.t 18], none, []⟩,
   ⟨some 212, .mv, [.t 16], none, []⟩,
   ⟨some 213, .call 12, [.t 210, .t 211, .t 212], none, []⟩,
   ⟨some 209, .mv, [.t 213], none, []⟩,
   ⟨some 214, .extract 0, [.t 209], none, []⟩,
   ⟨some 215, .extract 1, [.t 209], none, []⟩,
   ⟨some 28, .mv, [.t 214], none, []⟩,
   ⟨some 29, .mv, [.t 215], none, []⟩])
 (.clean (.seq (.reg false [
   ⟨some 216, .mv, [.t 13], none, []⟩,
   ⟨some 217, .mv, [.t 216], none, []⟩,
   ⟨some 218, .mv, [.t 26], some (1, 217, true), []⟩,
   ⟨some 219, .bin .neq, [.t 218, .int .i64 0], some (1, 217, true), []⟩,
   ⟨some 220, .mv, [.t 219], some (1, 217, true), []⟩,
   ⟨some 221, .mv, [.t 29], some (4, 220, false), []⟩,
   ⟨some 222, .bin .eql, [.t 221, .int .i64 0], some (4, 220, false), []⟩,
   ⟨some 223, .pick, [.t 220, .bool true, .t 222], some (1, 217, true), []⟩,
   ⟨some 224, .mv, [.t 223], some (1, 217, true), []⟩,
   ⟨some 225, .mv, [.t 29], some (8, 224, false), []⟩,
   ⟨some 226, .bin .eql, [.t 225, .int .i64 1], some (8, 224, false), []⟩,
   ⟨some 227, .pick, [.t 224, .bool true, .t 226], some (1, 217, true), []⟩,
   ⟨some 228, .pick, [.t 217, .t 227, .bool false], none, []⟩,
   ⟨some 12, .mv, [.t 228], none, []⟩])
 .ret))))))))))))))))))))))))))))))))))))))⟩
/- 0=car 1=stops 2=requests 3=r 4=first 5=second 6=car 9=r 12= 13=head 14=a 15=b 16=more 17=k 18=with 19=old 20=e 21=l 22=f 23=i 24=want 26=g 27=wide 29=h -/
/-! tonneau/tonneaulaw17.LoadPairs -/
def x6_1 : XC := (.seq (.seq (.reg false [
   ⟨some 67, .mv, [.t 14], none, []⟩,
   ⟨some 68, .mv, [.t 1], none, []⟩,
   ⟨some 69, .len false, [.t 68], none, []⟩,
   ⟨some 70, .bin .leq, [.t 67, .t 69], none, []⟩])
 (.cond (.t 70)
  .skip
  (.exit 2)))
 (.seq (.block 3 (.reg false [
    ⟨some 73, .mv, [.t 13], none, []⟩,
    ⟨some 74, .mv, [.t 73], none, []⟩,
    ⟨some 75, .mv, [.t 1], some (1, 74, false), []⟩,
    ⟨some 76, .mv, [.t 2], some (1, 74, false), []⟩,
    ⟨some 77, .faddr 0 (.int .i64), [.t 10], some (1, 74, false), []⟩,
    ⟨some 78, .load (.int .i64), [.t 77], some (1, 74, false), []⟩,
    ⟨some 79, .mv, [.t 14], some (1, 74, false), []⟩,
    ⟨some 80, .call 23, [.t 75, .t 76, .t 78, .t 79], some (1, 74, false), []⟩,
    ⟨some 81, .pick, [.t 74, .bool true, .t 80], none, []⟩,
    ⟨some 82, .mv, [.t 81], none, []⟩,
    ⟨some 83, .mv, [.t 1], some (9, 82, false), []⟩,
    ⟨some 84, .mv, [.t 2], some (9, 82, false), []⟩,
    ⟨some 85, .faddr 1 (.int .i64), [.t 10], some (9, 82, false), []⟩,
    ⟨some 86, .load (.int .i64), [.t 85], some (9, 82, false), []⟩,
    ⟨some 87, .mv, [.t 14], some (9, 82, false), []⟩,
    ⟨some 88, .call 23, [.t 83, .t 84, .t 86, .t 87], some (9, 82, false), []⟩,
    ⟨some 89, .pick, [.t 82, .bool true, .t 88], none, []⟩,
    ⟨some 13, .mv, [.t 89], none, []⟩]))
 (.clean (.reg false [
   ⟨some 71, .mv, [.t 14], none, []⟩,
   ⟨some 72, .bin .add, [.t 71, .int .i64 1], none, []⟩,
   ⟨some 14, .mv, [.t 72], none, []⟩]))))
def x6_1d : List Nat := [13, 14]
def x6_0 : XC := (.seq (.seq (.reg false [
   ⟨some 23, .mv, [.t 9], none, []⟩,
   ⟨some 24, .mv, [.t 0], none, []⟩,
   ⟨some 25, .len false, [.t 24], none, []⟩,
   ⟨some 26, .bin .lss, [.t 23, .t 25], none, []⟩])
 (.cond (.t 26)
  .skip
  (.exit 0)))
 (.seq (.block 1 (.seq (.reg false [
    ⟨some 29, .mv, [.t 0], none, []⟩,
    ⟨some 30, .mv, [.t 9], none, []⟩,
    ⟨some 31, .iaddr (.st (.cons (.int .i64) (.cons (.int .i64) .bool))), [.t 29, .t 30], none, []⟩,
    ⟨some 32, .load (.st (.cons (.int .i64) (.cons (.int .i64) .bool))), [.t 31], none, []⟩,
    ⟨some 10, .alloc 52 (.st (.cons (.int .i64) (.cons (.int .i64) .bool))), [], none, []⟩,
    ⟨none, .store (.st (.cons (.int .i64) (.cons (.int .i64) .bool))), [.t 10, .t 32], none, []⟩])
  (.seq (.reg false [
    ⟨some 33, .load (.st (.cons (.int .i64) (.cons (.int .i64) .bool))), [.t 10], none, []⟩,
    ⟨some 34, .bslice 52 (.st (.cons (.int .i64) (.cons (.int .i64) .bool))) 1 [0], [.t 33], none, []⟩,
    ⟨some 35, .mv, [.t 1], none, []⟩,
    ⟨some 36, .mv, [.t 2], none, []⟩,
    ⟨some 37, .call 17, [.t 34, .t 35, .t 36], none, []⟩,
    ⟨some 11, .mv, [.t 37], none, []⟩])
  (.clean (.seq (.reg false [
    ⟨some 38, .mv, [.t 8], none, []⟩,
    ⟨some 39, .mv, [.t 38], none, []⟩,
    ⟨some 40, .mv, [.t 11], some (1, 39, true), []⟩,
    ⟨some 41, .pick, [.t 39, .t 40, .bool false], none, []⟩,
    ⟨some 8, .mv, [.t 41], none, []⟩])
  (.seq (.seq (.reg false [
    ⟨some 42, .faddr 1 (.int .i64), [.t 10], none, []⟩,
    ⟨some 43, .load (.int .i64), [.t 42], none, []⟩,
    ⟨some 44, .faddr 0 (.int .i64), [.t 10], none, []⟩,
    ⟨some 45, .load (.int .i64), [.t 44], none, []⟩,
    ⟨some 46, .faddr 2 .bool, [.t 10], none, []⟩,
    ⟨some 47, .load .bool, [.t 46], none, []⟩,
    ⟨some 48, .build (.st (.cons (.int .i64) (.cons (.int .i64) .bool))) [(0, (.int .i64)), (1, (.int .i64)), (2, .bool)], [.t 43, .t 45, .t 47], none, []⟩,
    ⟨some 49, .bslice 52 (.st (.cons (.int .i64) (.cons (.int .i64) .bool))) 1 [0], [.t 48], none, []⟩,
    ⟨some 50, .mv, [.t 1], none, []⟩,
    ⟨some 51, .mv, [.t 2], none, []⟩,
    ⟨some 52, .call 17, [.t 49, .t 50, .t 51], none, []⟩,
    ⟨some 53, .mv, [.t 11], none, []⟩,
    ⟨some 54, .beq true .bool, [.t 52, .t 53], none, []⟩])
  (.cond (.t 54)
   (.seq (.reg false [
     ⟨some 6, .mv, [.bool false], none, []⟩])
   .ret)
   .skip))
  (.clean (.seq (.reg false [
    ⟨some 55, .faddr 0 (.int .i64), [.t 10], none, []⟩,
    ⟨some 56, .load (.int .i64), [.t 55], none, []⟩,
    ⟨some 57, .faddr 1 (.int .i64), [.t 10], none, []⟩,
    ⟨some 58, .load (.int .i64), [.t 57], none, []⟩,
    ⟨some 59, .faddr 2 .bool, [.t 10], none, []⟩,
    ⟨some 60, .load .bool, [.t 59], none, []⟩,
    ⟨some 61, .not, [.t 60], none, []⟩,
    ⟨some 62, .build (.st (.cons (.int .i64) (.cons (.int .i64) .bool))) [(0, (.int .i64)), (1, (.int .i64)), (2, .bool)], [.t 56, .t 58, .t 61], none, []⟩,
    ⟨some 63, .bslice 52 (.st (.cons (.int .i64) (.cons (.int .i64) .bool))) 1 [0], [.t 62], none, []⟩,
    ⟨some 64, .mv, [.t 1], none, []⟩,
    ⟨some 65, .mv, [.t 2], none, []⟩,
    ⟨some 66, .call 17, [.t 63, .t 64, .t 65], none, []⟩,
    ⟨some 12, .mv, [.t 66], none, []⟩])
  (.clean (.seq (.reg false [
    ⟨some 13, .mv, [.bool false], none, []⟩])
  (.seq (.seq (.reg false [
    ⟨some 14, .mv, [.int .i64 0], none, []⟩])
  (.block 2 (.loop x6_1)))
  (.clean (.seq (.reg false [
    ⟨some 90, .mv, [.t 1], none, []⟩,
    ⟨some 91, .mv, [.t 2], none, []⟩,
    ⟨some 92, .call 15, [.t 90, .t 91], none, []⟩,
    ⟨some 93, .mv, [.t 92], none, []⟩,
    ⟨some 94, .mv, [.t 11], some (3, 93, true), []⟩,
    ⟨some 95, .mv, [.t 94], some (3, 93, true), []⟩,
    ⟨some 96, .mv, [.t 12], some (5, 95, true), []⟩,
    ⟨some 97, .pick, [.t 95, .t 96, .bool false], some (3, 93, true), []⟩,
    ⟨some 98, .mv, [.t 13], some (3, 93, true), []⟩,
    ⟨some 99, .beq false .bool, [.t 97, .t 98], some (3, 93, true), []⟩,
    ⟨some 100, .pick, [.t 93, .t 99, .bool false], none, []⟩])
  (.cond (.t 100)
   (.seq (.reg false [
     ⟨some 6, .mv, [.bool false], none, []⟩])
   .ret)
   .skip))))))))))))))
 (.clean (.reg false [
   ⟨some 27, .mv, [.t 9], none, []⟩,
   ⟨some 28, .bin .add, [.t 27, .int .i64 1], none, []⟩,
   ⟨some 9, .mv, [.t 28], none, []⟩]))))
def x6_0d : List Nat := [6, 8, 9, 10, 11, 12, 13, 14]
def x6 : XF := ⟨123, [.tmp 6], [0, 1, 2, 6, 7, 8, 9, 10, 11, 12, 13, 14, 15],
 (.seq (.reg false [
   ⟨some 6, .mv, [.bool false], none, []⟩])
 (.seq (.reg false [
   ⟨some 16, .call 8, [], none, []⟩,
   ⟨some 7, .mv, [.t 16], none, []⟩])
 (.seq (.seq (.reg false [
   ⟨some 17, .mv, [.t 0], none, []⟩,
   ⟨some 18, .mv, [.t 1], none, []⟩,
   ⟨some 19, .mv, [.t 2], none, []⟩,
   ⟨some 20, .call 9, [.t 17, .t 18, .t 19], none, []⟩,
   ⟨some 21, .not, [.t 20], none, []⟩])
 (.cond (.t 21)
  (.seq (.reg false [
    ⟨some 22, .mv, [.t 7], none, []⟩,
    ⟨some 6, .mv, [.t 22], none, []⟩])
  .ret)
  .skip))
 (.clean (.seq (.reg false [
   ⟨some 8, .mv, [.bool true], none, []⟩])
 (.seq (.seq (.reg false [
   ⟨some 9, .mv, [.int .i64 0], none, []⟩])
 (.block 0 (.loop x6_0)))
 (.clean (.seq (.reg false [
   ⟨some 101, .mv, [.t 1], none, []⟩,
   ⟨some 102, .mv, [.t 2], none, []⟩,
   ⟨some 103, .call 15, [.t 101, .t 102], none, []⟩,
   ⟨some 15, .mv, [.t 103], none, []⟩])
 (.seq (.reg false [
   ⟨some 104, .mv, [.t 7], none, []⟩,
   ⟨some 105, .mv, [.t 104], none, []⟩,
   ⟨some 106, .mv, [.t 0], some (1, 105, true), []⟩,
   ⟨some 107, .mv, [.t 1], some (1, 105, true), []⟩,
   ⟨some 108, .mv, [.t 2], some (1, 105, true), []⟩,
   ⟨some 109, .call 17, [.t 106, .t 107, .t 108], some (1, 105, true), []⟩,
   ⟨some 110, .mv, [.t 15], some (1, 105, true), []⟩,
   ⟨some 111, .mv, [.t 110], some (1, 105, true), []⟩,
   ⟨some 112, .mv, [.t 8], some (7, 111, true), []⟩,
   ⟨some 113, .pick, [.t 111, .t 112, .bool false], some (1, 105, true), []⟩,
   ⟨some 114, .beq false .bool, [.t 109, .t 113], some (1, 105, true), []⟩,
   ⟨some 115, .pick, [.t 105, .t 114, .bool false], none, []⟩,
   ⟨some 116, .mv, [.t 115], none, []⟩,
   ⟨some 117, .mv, [.t 1], some (12, 116, true), []⟩,
   ⟨some 118, .mv, [.t 2], some (12, 116, true), []⟩,
   ⟨some 119, .call 17, [.nil, .t 117, .t 118], some (12, 116, true), []⟩,
   ⟨some 120, .mv, [.t 15], some (12, 116, true), []⟩,
   ⟨some 121, .beq false .bool, [.t 119, .t 120], some (12, 116, true), []⟩,
   ⟨some 122, .pick, [.t 116, .t 121, .bool false], none, []⟩,
   ⟨some 6, .mv, [.t 122], none, []⟩])
 .ret)))))))))⟩
/- 0=pairs 1=stops 2=requests 6= 7=head 8=all 9=i 10=p 11=one 12=other 13=some 14=k 15=fine -/
/-! tonneau/tonneaulaw17.LoadLess -/
def x7_0 : XC := (.seq (.seq (.reg false [
   ⟨some 56, .mv, [.t 15], none, []⟩,
   ⟨some 57, .mv, [.t 1], none, []⟩,
   ⟨some 58, .len false, [.t 57], none, []⟩,
   ⟨some 59, .bin .lss, [.t 56, .t 58], none, []⟩])
 (.cond (.t 59)
  .skip
  (.exit 0)))
 (.seq (.block 1 (.seq (.reg false [
    ⟨some 62, .mv, [.t 1], none, []⟩,
    ⟨some 63, .mv, [.t 15], none, []⟩,
    ⟨some 64, .iaddr (.st (.cons (.int .i64) .bool)), [.t 62, .t 63], none, []⟩,
    ⟨some 65, .faddr 0 (.int .i64), [.t 64], none, []⟩,
    ⟨some 66, .load (.int .i64), [.t 65], none, []⟩,
    ⟨some 67, .mv, [.t 10], none, []⟩,
    ⟨some 68, .bin .neq, [.t 66, .t 67], none, []⟩])
  (.cond (.t 68)
   (.seq (.reg false [
     ⟨some 69, .mv, [.t 13], none, []⟩,
     ⟨some 70, .mv, [.t 1], none, []⟩,
     ⟨some 71, .mv, [.t 15], none, []⟩,
     ⟨some 72, .iaddr (.st (.cons (.int .i64) .bool)), [.t 70, .t 71], none, []⟩,
     ⟨some 73, .load (.st (.cons (.int .i64) .bool)), [.t 72], none, []⟩,
     ⟨some 74, .bslice 44 (.st (.cons (.int .i64) .bool)) 1 [0], [.t 73], none, []⟩,
     ⟨some 75, .append 44 (.st (.cons (.int .i64) .bool)) 16, [.t 69, .t 74], none, []⟩,
     ⟨some 13, .mv, [.t 75], none, []⟩])
   (.clean (.reg false [
     ⟨some 76, .mv, [.t 14], none, []⟩,
     ⟨some 77, .mv, [.t 15], none, []⟩,
     ⟨some 78, .bin .add, [.t 77, .int .i64 1], none, []⟩,
     ⟨some 79, .bslice 3 (.int .i64) 1 [0], [.t 78], none, []⟩,
     ⟨some 80, .append 3 (.int .i64) 8, [.t 76, .t 79], none, []⟩,
     ⟨some 14, .mv, [.t 80], none, []⟩])))
   .skip)))
 (.clean (.reg false [
   ⟨some 60, .mv, [.t 15], none, []⟩,
   ⟨some 61, .bin .add, [.t 60, .int .i64 1], none, []⟩,
   ⟨some 15, .mv, [.t 61], none, []⟩]))))
def x7_0d : List Nat := [13, 14, 15]
def x7_1 : XC := (.seq (.seq (.reg false [
   ⟨some 96, .mv, [.t 18], none, []⟩,
   ⟨some 97, .mv, [.t 14], none, []⟩,
   ⟨some 98, .len false, [.t 97], none, []⟩,
   ⟨some 99, .bin .lss, [.t 96, .t 98], none, []⟩])
 (.cond (.t 99)
  .skip
  (.exit 2)))
 (.seq (.block 3 (.seq (.reg false [
    ⟨some 102, .mv, [.t 11], none, []⟩,
    ⟨some 103, .mv, [.t 14], none, []⟩,
    ⟨some 104, .mv, [.t 18], none, []⟩,
    ⟨some 105, .iaddr (.int .i64), [.t 103, .t 104], none, []⟩,
    ⟨some 106, .load (.int .i64), [.t 105], none, []⟩,
    ⟨some 107, .iaddr (.st (.cons (.int .i64) (.cons (.int .i64) (.int .i64)))), [.t 102, .t 106], none, []⟩,
    ⟨some 108, .load (.st (.cons (.int .i64) (.cons (.int .i64) (.int .i64)))), [.t 107], none, []⟩,
    ⟨some 19, .alloc 42 (.st (.cons (.int .i64) (.cons (.int .i64) (.int .i64)))), [], none, []⟩,
    ⟨none, .store (.st (.cons (.int .i64) (.cons (.int .i64) (.int .i64)))), [.t 19, .t 108], none, []⟩])
  (.clean (.seq (.seq (.reg false [
    ⟨some 109, .mv, [.t 1], none, []⟩,
    ⟨some 110, .mv, [.t 10], none, []⟩,
    ⟨some 111, .mv, [.t 14], none, []⟩,
    ⟨some 112, .mv, [.t 18], none, []⟩,
    ⟨some 113, .iaddr (.int .i64), [.t 111, .t 112], none, []⟩,
    ⟨some 114, .load (.int .i64), [.t 113], none, []⟩,
    ⟨some 115, .call 24, [.t 109, .t 110, .t 114], none, []⟩])
  (.cond (.t 115)
   (.seq (.reg true [
     ⟨some 116, .faddr 0 (.int .i64), [.t 19], none, []⟩,
     ⟨some 117, .load (.int .i64), [.t 116], none, [0]⟩,
     ⟨some 118, .mv, [.t 2], none, []⟩,
     ⟨some 119, .mv, [.t 10], none, []⟩,
     ⟨some 120, .iaddr (.st (.cons (.int .i64) (.cons (.int .i64) (.cons (.int .i64) (.cons (.int .i64) (.cons (.int .i64) (.cons (.int .i64) (.cons (.int .i64) (.cons (.int .i64) (.cons (.int .i64) (.int .i64))))))))))), [.t 118, .t 119], none, [2, 3]⟩,
     ⟨some 121, .faddr 7 (.int .i64), [.t 120], none, [4, 2, 3]⟩,
     ⟨some 122, .load (.int .i64), [.t 121], none, [5, 4, 2, 3]⟩,
     ⟨some 123, .bin .sub, [.t 117, .t 122], none, [1, 0, 6, 5, 4, 2, 3]⟩,
     ⟨some 124, .faddr 0 (.int .i64), [.t 19], none, [0, 1, 2, 3, 4, 5, 6, 7]⟩,
     ⟨none, .store (.int .i64), [.t 124, .t 123], none, [8, 0, 1, 2, 3, 4, 5, 6, 7]⟩])
   (.clean (.seq (.reg true [
     ⟨some 125, .faddr 1 (.int .i64), [.t 19], none, []⟩,
     ⟨some 126, .load (.int .i64), [.t 125], none, [0]⟩,
     ⟨some 127, .mv, [.t 2], none, []⟩,
     ⟨some 128, .mv, [.t 10], none, []⟩,
     ⟨some 129, .iaddr (.st (.cons (.int .i64) (.cons (.int .i64) (.cons (.int .i64) (.cons (.int .i64) (.cons (.int .i64) (.cons (.int .i64) (.cons (.int .i64) (.cons (.int .i64) (.cons (.int .i64) (.int .i64))))))))))), [.t 127, .t 128], none, [2, 3]⟩,
     ⟨some 130, .faddr 8 (.int .i64), [.t 129], none, [4, 2, 3]⟩,
     ⟨some 131, .load (.int .i64), [.t 130], none, [5, 4, 2, 3]⟩,
     ⟨some 132, .bin .sub, [.t 126, .t 131], none, [1, 0, 6, 5, 4, 2, 3]⟩,
     ⟨some 133, .faddr 1 (.int .i64), [.t 19], none, [0, 1, 2, 3, 4, 5, 6, 7]⟩,
     ⟨none, .store (.int .i64), [.t 133, .t 132], none, [8, 0, 1, 2, 3, 4, 5, 6, 7]⟩])
   (.clean (.reg true [
     ⟨some 134, .faddr 2 (.int .i64), [.t 19], none, []⟩,
     ⟨some 135, .load (.int .i64), [.t 134], none, [0]⟩,
     ⟨some 136, .mv, [.t 2], none, []⟩,
     ⟨some 137, .mv, [.t 10], none, []⟩,
     ⟨some 138, .iaddr (.st (.cons (.int .i64) (.cons (.int .i64) (.cons (.int .i64) (.cons (.int .i64) (.cons (.int .i64) (.cons (.int .i64) (.cons (.int .i64) (.cons (.int .i64) (.cons (.int .i64) (.int .i64))))))))))), [.t 136, .t 137], none, [2, 3]⟩,
     ⟨some 139, .faddr 9 (.int .i64), [.t 138], none, [4, 2, 3]⟩,
     ⟨some 140, .load (.int .i64), [.t 139], none, [5, 4, 2, 3]⟩,
     ⟨some 141, .bin .sub, [.t 135, .t 140], none, [1, 0, 6, 5, 4, 2, 3]⟩,
     ⟨some 142, .faddr 2 (.int .i64), [.t 19], none, [0, 1, 2, 3, 4, 5, 6, 7]⟩,
     ⟨none, .store (.int .i64), [.t 142, .t 141], none, [8, 0, 1, 2, 3, 4, 5, 6, 7]⟩])))))
   .skip))
  (.clean (.seq (.reg true [
    ⟨some 143, .mv, [.t 16], none, []⟩,
    ⟨some 144, .mv, [.t 18], none, []⟩,
    ⟨some 145, .iaddr (.st (.cons (.int .i64) (.cons (.int .i64) (.int .i64)))), [.t 143, .t 144], none, [0, 1]⟩,
    ⟨some 146, .load (.st (.cons (.int .i64) (.cons (.int .i64) (.int .i64)))), [.t 145], none, [2, 0, 1]⟩,
    ⟨some 147, .load (.st (.cons (.int .i64) (.cons (.int .i64) (.int .i64)))), [.t 19], none, []⟩,
    ⟨some 148, .steq true (.st (.cons (.int .i64) (.cons (.int .i64) (.int .i64)))), [.t 146, .t 147], none, [3, 2, 0, 1, 4]⟩])
  (.cond (.t 148)
   (.seq (.reg false [
     ⟨some 8, .mv, [.bool false], none, []⟩])
   .ret)
   .skip)))))))
 (.clean (.reg false [
   ⟨some 100, .mv, [.t 18], none, []⟩,
   ⟨some 101, .bin .add, [.t 100, .int .i64 1], none, []⟩,
   ⟨some 18, .mv, [.t 101], none, []⟩]))))
def x7_1d : List Nat := [8, 18, 19]
def x7 : XF := ⟨172, [.tmp 8], [0, 1, 2, 3, 4, 8, 9, 10, 11, 12, 13, 14, 15, 16, 17, 18, 19, 21, 23],
 (.seq (.reg false [
   ⟨some 4, .box 23, [.t 0], none, []⟩,
   ⟨some 8, .mv, [.bool false], none, []⟩])
 (.seq (.reg false [
   ⟨some 24, .call 8, [], none, []⟩,
   ⟨some 9, .mv, [.t 24], none, []⟩])
 (.seq (.seq (.reg false [
   ⟨some 25, .mv, [.t 1], none, []⟩,
   ⟨some 26, .mv, [.t 2], none, []⟩,
   ⟨some 27, .call 9, [.nil, .t 25, .t 26], none, []⟩,
   ⟨some 28, .not, [.t 27], none, []⟩,
   ⟨some 29, .mv, [.t 28], none, []⟩,
   ⟨some 30, .mv, [.t 2], some (4, 29, false), []⟩,
   ⟨some 31, .len false, [.t 30], some (4, 29, false), []⟩,
   ⟨some 32, .bin .eql, [.t 31, .int .i64 0], some (4, 29, false), []⟩,
   ⟨some 33, .pick, [.t 29, .bool true, .t 32], none, []⟩])
 (.cond (.t 33)
  (.seq (.reg false [
    ⟨some 34, .mv, [.t 9], none, []⟩,
    ⟨some 8, .mv, [.t 34], none, []⟩])
  .ret)
  .skip))
 (.clean (.seq (.reg false [
   ⟨some 35, .mv, [.t 3], none, []⟩,
   ⟨some 36, .conv .i64, [.t 35], none, []⟩,
   ⟨some 37, .mv, [.t 2], none, []⟩,
   ⟨some 38, .len false, [.t 37], none, []⟩,
   ⟨some 39, .bin .rem, [.t 36, .t 38], none, []⟩,
   ⟨some 10, .mv, [.t 39], none, []⟩])
 (.clean (.seq (.reg false [
   ⟨some 41, .mv, [.t 1], none, []⟩,
   ⟨some 42, .mv, [.t 2], none, []⟩,
   ⟨some 43, .call 10, [.t 41, .t 42], none, []⟩,
   ⟨some 40, .mv, [.t 43], none, []⟩,
   ⟨some 44, .extract 0, [.t 40], none, []⟩,
   ⟨some 45, .extract 1, [.t 40], none, []⟩,
   ⟨some 11, .mv, [.t 44], none, []⟩,
   ⟨some 12, .mv, [.t 45], none, []⟩])
 (.clean (.seq (.seq (.reg false [
   ⟨some 46, .mv, [.t 12], none, []⟩,
   ⟨some 47, .bin .neq, [.t 46, .int .i64 0], none, []⟩])
 (.cond (.t 47)
  (.seq (.reg false [
    ⟨some 48, .mv, [.t 9], none, []⟩,
    ⟨some 8, .mv, [.t 48], none, []⟩])
  .ret)
  .skip))
 (.seq (.seq (.reg false [
   ⟨some 49, .mv, [.t 11], none, []⟩,
   ⟨some 50, .len false, [.t 49], none, []⟩,
   ⟨some 51, .mv, [.t 1], none, []⟩,
   ⟨some 52, .len false, [.t 51], none, []⟩,
   ⟨some 53, .bin .add, [.t 52, .int .i64 1], none, []⟩,
   ⟨some 54, .bin .neq, [.t 50, .t 53], none, []⟩])
 (.cond (.t 54)
  (.seq (.reg false [
    ⟨some 8, .mv, [.bool false], none, []⟩])
  .ret)
  .skip))
 (.clean (.seq (.reg false [
   ⟨some 13, .nilrow 44 (.st (.cons (.int .i64) .bool)), [], none, []⟩])
 (.seq (.reg false [
   ⟨some 55, .bslice 3 (.int .i64) 1 [0], [.int .i64 0], none, []⟩,
   ⟨some 14, .mv, [.t 55], none, []⟩])
 (.seq (.seq (.reg false [
   ⟨some 15, .mv, [.int .i64 0], none, []⟩])
 (.block 0 (.loop x7_0)))
 (.clean (.seq (.reg false [
   ⟨some 82, .mv, [.t 13], none, []⟩,
   ⟨some 83, .mv, [.t 2], none, []⟩,
   ⟨some 84, .call 10, [.t 82, .t 83], none, []⟩,
   ⟨some 81, .mv, [.t 84], none, []⟩,
   ⟨some 85, .extract 0, [.t 81], none, []⟩,
   ⟨some 86, .extract 1, [.t 81], none, []⟩,
   ⟨some 16, .mv, [.t 85], none, []⟩,
   ⟨some 17, .mv, [.t 86], none, []⟩])
 (.clean (.seq (.seq (.reg false [
   ⟨some 87, .mv, [.t 17], none, []⟩,
   ⟨some 88, .bin .neq, [.t 87, .int .i64 0], none, []⟩,
   ⟨some 89, .mv, [.t 88], none, []⟩,
   ⟨some 90, .mv, [.t 16], some (2, 89, false), []⟩,
   ⟨some 91, .len false, [.t 90], some (2, 89, false), []⟩,
   ⟨some 92, .mv, [.t 14], some (2, 89, false), []⟩,
   ⟨some 93, .len false, [.t 92], some (2, 89, false), []⟩,
   ⟨some 94, .bin .neq, [.t 91, .t 93], some (2, 89, false), []⟩,
   ⟨some 95, .pick, [.t 89, .bool true, .t 94], none, []⟩])
 (.cond (.t 95)
  (.seq (.reg false [
    ⟨some 8, .mv, [.bool false], none, []⟩])
  .ret)
  .skip))
 (.clean (.seq (.seq (.reg false [
   ⟨some 18, .mv, [.int .i64 0], none, []⟩])
 (.block 2 (.loop x7_1)))
 (.clean (.seq (.reg false [
   ⟨some 150, .load (.st (.cons (.int .i64) (.cons (.int .i64) (.cons (.int .i64) (.cons (.int .i64) (.cons (.int .i64) (.cons (.int .i64) (.cons (.int .i64) (.cons (.int .i64) (.int .i64)))))))))), [.t 4], none, []⟩,
   ⟨some 151, .mv, [.t 1], none, []⟩,
   ⟨some 152, .mv, [.t 2], none, []⟩,
   ⟨some 153, .call 12, [.t 150, .t 151, .t 152], none, []⟩,
   ⟨some 149, .mv, [.t 153], none, []⟩,
   ⟨some 154, .extract 0, [.t 149], none, []⟩,
   ⟨some 155, .extract 1, [.t 149], none, []⟩,
   ⟨some 20, .mv, [.t 154], none, []⟩,
   ⟨some 21, .mv, [.t 155], none, []⟩])
 (.clean (.seq (.reg false [
   ⟨some 157, .load (.st (.cons (.int .i64) (.cons (.int .i64) (.cons (.int .i64) (.cons (.int .i64) (.cons (.int .i64) (.cons (.int .i64) (.cons (.int .i64) (.cons (.int .i64) (.int .i64)))))))))), [.t 4], none, []⟩,
   ⟨some 158, .mv, [.t 13], none, []⟩,
   ⟨some 159, .mv, [.t 2], none, []⟩,
   ⟨some 160, .call 12, [.t 157, .t 158, .t 159], none, []⟩,
   ⟨some 156, .mv, [.t 160], none, []⟩,
   ⟨some 161, .extract 0, [.t 156], none, []⟩,
   ⟨some 162, .extract 1, [.t 156], none, []⟩,
   ⟨some 22, .mv, [.t 161], none, []⟩,
   ⟨some 23, .mv, [.t 162], none, []⟩])
 (.clean (.seq (.reg false [
   ⟨some 163, .mv, [.t 9], none, []⟩,
   ⟨some 164, .mv, [.t 163], none, []⟩,
   ⟨some 165, .mv, [.t 21], some (1, 164, true), []⟩,
   ⟨some 166, .bin .neq, [.t 165, .int .i64 0], some (1, 164, true), []⟩,
   ⟨some 167, .mv, [.t 166], some (1, 164, true), []⟩,
   ⟨some 168, .mv, [.t 23], some (4, 167, false), []⟩,
   ⟨some 169, .bin .eql, [.t 168, .int .i64 0], some (4, 167, false), []⟩,
   ⟨some 170, .pick, [.t 167, .bool true, .t 169], some (1, 164, true), []⟩,
   ⟨some 171, .pick, [.t 164, .t 170, .bool false], none, []⟩,
   ⟨some 8, .mv, [.t 171], none, []⟩])
 .ret))))))))))))))))))))))))))⟩
/- 0=car 1=stops 2=requests 3=which 4=car 8= 9=head 10=k 11=old 12=e 13=less 14=at 15=i 16=l 17=f 18=i 19=x 21=g 23=h -/
/-! tonneau/tonneaulaw17.small -/
def x8 : XF := ⟨98, [.tmp 0], [0, 1, 2, 3, 4, 5, 6, 7, 8, 9],
 (.seq (.reg false [
   ⟨some 0, .mv, [.bool false], none, []⟩])
 (.seq (.reg false [
   ⟨some 10, .build (.st (.cons (.int .i64) (.cons (.int .i64) (.cons (.int .i64) (.cons (.int .i64) (.cons (.int .i64) (.cons (.int .i64) (.cons (.int .i64) (.cons (.int .i64) (.cons (.int .i64) (.int .i64))))))))))) [(0, (.int .i64)), (7, (.int .i64))], [.int .i64 7, .int .i64 2], none, []⟩,
   ⟨some 11, .build (.st (.cons (.int .i64) (.cons (.int .i64) (.cons (.int .i64) (.cons (.int .i64) (.cons (.int .i64) (.cons (.int .i64) (.cons (.int .i64) (.cons (.int .i64) (.cons (.int .i64) (.int .i64))))))))))) [(0, (.int .i64)), (7, (.int .i64)), (8, (.int .i64))], [.int .i64 8, .int .i64 1, .int .i64 1], none, []⟩,
   ⟨some 12, .build (.st (.cons (.int .i64) (.cons (.int .i64) (.cons (.int .i64) (.cons (.int .i64) (.cons (.int .i64) (.cons (.int .i64) (.cons (.int .i64) (.cons (.int .i64) (.cons (.int .i64) (.int .i64))))))))))) [(0, (.int .i64)), (7, (.int .i64))], [.int .i64 9, .int .i64 1], none, []⟩,
   ⟨some 13, .bslice 46 (.st (.cons (.int .i64) (.cons (.int .i64) (.cons (.int .i64) (.cons (.int .i64) (.cons (.int .i64) (.cons (.int .i64) (.cons (.int .i64) (.cons (.int .i64) (.cons (.int .i64) (.int .i64))))))))))) 3 [0, 1, 2], [.t 10, .t 11, .t 12], none, []⟩,
   ⟨some 1, .mv, [.t 13], none, []⟩])
 (.top (.clean (.seq (.reg false [
   ⟨some 14, .call 22, [.int .i64 0], none, []⟩,
   ⟨some 15, .call 22, [.int .i64 1], none, []⟩,
   ⟨some 16, .call 21, [.int .i64 0], none, []⟩,
   ⟨some 17, .call 21, [.int .i64 1], none, []⟩,
   ⟨some 18, .bslice 44 (.st (.cons (.int .i64) .bool)) 4 [0, 1, 2, 3], [.t 14, .t 15, .t 16, .t 17], none, []⟩,
   ⟨some 2, .mv, [.t 18], none, []⟩])
 (.top (.clean (.seq (.reg false [
   ⟨some 20, .mv, [.t 2], none, []⟩,
   ⟨some 21, .mv, [.t 1], none, []⟩,
   ⟨some 22, .call 10, [.t 20, .t 21], none, []⟩,
   ⟨some 19, .mv, [.t 22], none, []⟩,
   ⟨some 23, .extract 0, [.t 19], none, []⟩,
   ⟨some 24, .extract 1, [.t 19], none, []⟩,
   ⟨some 3, .mv, [.t 23], none, []⟩,
   ⟨some 4, .mv, [.t 24], none, []⟩])
 (.clean (.seq (.reg false [
   ⟨some 26, .call 21, [.int .i64 2], none, []⟩,
   ⟨some 27, .call 22, [.int .i64 0], none, []⟩,
   ⟨some 28, .call 21, [.int .i64 0], none, []⟩,
   ⟨some 29, .bslice 44 (.st (.cons (.int .i64) .bool)) 3 [0, 1, 2], [.t 26, .t 27, .t 28], none, []⟩,
   ⟨some 30, .mv, [.t 1], none, []⟩,
   ⟨some 31, .call 10, [.t 29, .t 30], none, []⟩,
   ⟨some 25, .mv, [.t 31], none, []⟩,
   ⟨some 32, .extract 0, [.t 25], none, []⟩,
   ⟨some 33, .extract 1, [.t 25], none, []⟩,
   ⟨some 5, .mv, [.t 32], none, []⟩,
   ⟨some 6, .mv, [.t 33], none, []⟩])
 (.clean (.seq (.reg false [
   ⟨some 35, .build (.st (.cons (.int .i64) (.cons (.int .i64) (.cons (.int .i64) (.cons (.int .i64) (.cons (.int .i64) (.cons (.int .i64) (.cons (.int .i64) (.cons (.int .i64) (.int .i64)))))))))) [(4, (.int .i64)), (5, (.int .i64))], [.int .i64 2, .int .i64 1], none, []⟩,
   ⟨some 36, .mv, [.t 2], none, []⟩,
   ⟨some 37, .mv, [.t 1], none, []⟩,
   ⟨some 38, .call 12, [.t 35, .t 36, .t 37], none, []⟩,
   ⟨some 34, .mv, [.t 38], none, []⟩,
   ⟨some 39, .extract 0, [.t 34], none, []⟩,
   ⟨some 40, .extract 1, [.t 34], none, []⟩,
   ⟨some 7, .mv, [.t 39], none, []⟩,
   ⟨some 8, .mv, [.t 40], none, []⟩])
 (.clean (.seq (.reg false [
   ⟨some 41, .mv, [.t 3], none, []⟩,
   ⟨some 42, .build (.st (.cons (.int .i64) (.cons (.int .i64) (.int .i64)))) [], [], none, []⟩,
   ⟨some 43, .build (.st (.cons (.int .i64) (.cons (.int .i64) (.int .i64)))) [(0, (.int .i64))], [.int .i64 2], none, []⟩,
   ⟨some 44, .build (.st (.cons (.int .i64) (.cons (.int .i64) (.int .i64)))) [(0, (.int .i64)), (1, (.int .i64))], [.int .i64 3, .int .i64 1], none, []⟩,
   ⟨some 45, .build (.st (.cons (.int .i64) (.cons (.int .i64) (.int .i64)))) [(0, (.int .i64)), (1, (.int .i64))], [.int .i64 1, .int .i64 1], none, []⟩,
   ⟨some 46, .build (.st (.cons (.int .i64) (.cons (.int .i64) (.int .i64)))) [], [], none, []⟩,
   ⟨some 47, .bslice 57 (.st (.cons (.int .i64) (.cons (.int .i64) (.int .i64)))) 5 [0, 1, 2, 3, 4], [.t 42, .t 43, .t 44, .t 45, .t 46], none, []⟩,
   ⟨some 48, .call 14, [.t 41, .t 47], none, []⟩,
   ⟨some 49, .mv, [.t 48], none, []⟩,
   ⟨some 50, .mv, [.t 4], some (8, 49, true), []⟩,
   ⟨some 51, .bin .eql, [.t 50, .int .i64 0], some (8, 49, true), []⟩,
   ⟨some 52, .pick, [.t 49, .t 51, .bool false], none, []⟩,
   ⟨some 53, .mv, [.t 52], none, []⟩,
   ⟨some 54, .mv, [.t 5], some (12, 53, true), []⟩,
   ⟨some 55, .build (.st (.cons (.int .i64) (.cons (.int .i64) (.int .i64)))) [(0, (.int .i64))], [.int .i64 1], some (12, 53, true), []⟩,
   ⟨some 56, .build (.st (.cons (.int .i64) (.cons (.int .i64) (.int .i64)))) [], [], some (12, 53, true), []⟩,
   ⟨some 57, .build (.st (.cons (.int .i64) (.cons (.int .i64) (.int .i64)))) [(0, (.int .i64))], [.int .i64 2], some (12, 53, true), []⟩,
   ⟨some 58, .build (.st (.cons (.int .i64) (.cons (.int .i64) (.int .i64)))) [], [], some (12, 53, true), []⟩,
   ⟨some 59, .bslice 57 (.st (.cons (.int .i64) (.cons (.int .i64) (.int .i64)))) 4 [0, 1, 2, 3], [.t 55, .t 56, .t 57, .t 58], some (12, 53, true), []⟩,
   ⟨some 60, .call 14, [.t 54, .t 59], some (12, 53, true), []⟩,
   ⟨some 61, .pick, [.t 53, .t 60, .bool false], none, []⟩,
   ⟨some 62, .mv, [.t 61], none, []⟩,
   ⟨some 63, .mv, [.t 6], some (21, 62, true), []⟩,
   ⟨some 64, .bin .eql, [.t 63, .int .i64 0], some (21, 62, true), []⟩,
   ⟨some 65, .pick, [.t 62, .t 64, .bool false], none, []⟩,
   ⟨some 66, .mv, [.t 65], none, []⟩,
   ⟨some 67, .mv, [.t 7], some (25, 66, true), []⟩,
   ⟨some 68, .bin .eql, [.t 67, .int .i64 2], some (25, 66, true), []⟩,
   ⟨some 69, .pick, [.t 66, .t 68, .bool false], none, []⟩,
   ⟨some 70, .mv, [.t 69], none, []⟩,
   ⟨some 71, .mv, [.t 8], some (29, 70, true), []⟩,
   ⟨some 72, .bin .eql, [.t 71, .int .i64 27], some (29, 70, true), []⟩,
   ⟨some 73, .pick, [.t 70, .t 72, .bool false], none, []⟩,
   ⟨some 9, .mv, [.t 73], none, []⟩])
 (.clean (.seq (.reg false [
   ⟨some 74, .mv, [.t 9], none, []⟩,
   ⟨some 75, .mv, [.t 74], none, []⟩,
   ⟨some 76, .build (.st (.cons (.int .i64) (.cons (.int .i64) .bool))) [(0, (.int .i64)), (1, (.int .i64)), (2, .bool)], [.int .i64 7, .int .i64 8, .bool true], some (1, 75, true), []⟩,
   ⟨some 77, .bslice 52 (.st (.cons (.int .i64) (.cons (.int .i64) .bool))) 1 [0], [.t 76], some (1, 75, true), []⟩,
   ⟨some 78, .mv, [.t 2], some (1, 75, true), []⟩,
   ⟨some 79, .mv, [.t 1], some (1, 75, true), []⟩,
   ⟨some 80, .call 17, [.t 77, .t 78, .t 79], some (1, 75, true), []⟩,
   ⟨some 81, .pick, [.t 75, .t 80, .bool false], none, []⟩,
   ⟨some 82, .mv, [.t 81], none, []⟩,
   ⟨some 83, .build (.st (.cons (.int .i64) (.cons (.int .i64) .bool))) [(0, (.int .i64)), (1, (.int .i64))], [.int .i64 7, .int .i64 8], some (8, 82, true), []⟩,
   ⟨some 84, .bslice 52 (.st (.cons (.int .i64) (.cons (.int .i64) .bool))) 1 [0], [.t 83], some (8, 82, true), []⟩,
   ⟨some 85, .mv, [.t 2], some (8, 82, true), []⟩,
   ⟨some 86, .mv, [.t 1], some (8, 82, true), []⟩,
   ⟨some 87, .call 17, [.t 84, .t 85, .t 86], some (8, 82, true), []⟩,
   ⟨some 88, .not, [.t 87], some (8, 82, true), []⟩,
   ⟨some 89, .pick, [.t 82, .t 88, .bool false], none, []⟩,
   ⟨some 90, .mv, [.t 89], none, []⟩,
   ⟨some 91, .build (.st (.cons (.int .i64) (.cons (.int .i64) .bool))) [(0, (.int .i64)), (1, (.int .i64)), (2, .bool)], [.int .i64 7, .int .i64 9, .bool true], some (16, 90, true), []⟩,
   ⟨some 92, .bslice 52 (.st (.cons (.int .i64) (.cons (.int .i64) .bool))) 1 [0], [.t 91], some (16, 90, true), []⟩,
   ⟨some 93, .mv, [.t 2], some (16, 90, true), []⟩,
   ⟨some 94, .mv, [.t 1], some (16, 90, true), []⟩,
   ⟨some 95, .call 17, [.t 92, .t 93, .t 94], some (16, 90, true), []⟩,
   ⟨some 96, .not, [.t 95], some (16, 90, true), []⟩,
   ⟨some 97, .pick, [.t 90, .t 96, .bool false], none, []⟩,
   ⟨some 0, .mv, [.t 97], none, []⟩])
 .ret))))))))))))))))⟩
/- 0= 1=requests 2=stops 3=a 4=e 5=b 6=f 7=at 8=g 9=one -/
/-! tonneau/tonneauref17.Few -/
def x9 : XF := ⟨20, [.tmp 6], [0, 1, 2, 6],
 (.seq (.reg false [
   ⟨some 6, .mv, [.bool false], none, []⟩])
 (.seq (.reg false [
   ⟨some 7, .mv, [.t 0], none, []⟩,
   ⟨some 8, .len false, [.t 7], none, []⟩,
   ⟨some 9, .bin .leq, [.t 8, .int .i64 8], none, []⟩,
   ⟨some 10, .mv, [.t 9], none, []⟩,
   ⟨some 11, .mv, [.t 1], some (3, 10, true), []⟩,
   ⟨some 12, .len false, [.t 11], some (3, 10, true), []⟩,
   ⟨some 13, .bin .leq, [.t 12, .int .i64 16], some (3, 10, true), []⟩,
   ⟨some 14, .pick, [.t 10, .t 13, .bool false], none, []⟩,
   ⟨some 15, .mv, [.t 14], none, []⟩,
   ⟨some 16, .mv, [.t 2], some (8, 15, true), []⟩,
   ⟨some 17, .len false, [.t 16], some (8, 15, true), []⟩,
   ⟨some 18, .bin .leq, [.t 17, .int .i64 10], some (8, 15, true), []⟩,
   ⟨some 19, .pick, [.t 15, .t 18, .bool false], none, []⟩,
   ⟨some 6, .mv, [.t 19], none, []⟩])
 .ret))⟩
/- 0=pairs 1=stops 2=requests 6= -/
/-! tonneau/load.Profile -/
def x10 : XF := ⟨13, [.tmp 4, .tmp 5], [0, 1, 3, 4, 5],
 (.seq (.reg false [
   ⟨some 3, .box 26, [.t 1], none, []⟩,
   ⟨some 4, .nilrow 42 (.st (.cons (.int .i64) (.cons (.int .i64) (.int .i64)))), [], none, []⟩,
   ⟨some 5, .mv, [.int .i64 0], none, []⟩])
 (.seq (.seq (.reg false [
   ⟨some 6, .mv, [.t 0], none, []⟩,
   ⟨some 7, .load (.sl (.st (.cons (.int .i64) (.cons (.int .i64) (.cons (.int .i64) (.cons (.int .i64) (.cons (.int .i64) (.cons (.int .i64) (.cons (.int .i64) (.cons (.int .i64) (.cons (.int .i64) (.int .i64)))))))))))), [.t 3], none, []⟩,
   ⟨some 8, .call 15, [.t 6, .t 7], none, []⟩,
   ⟨some 9, .not, [.t 8], none, []⟩])
 (.cond (.t 9)
  (.seq (.reg false [
    ⟨some 4, .nilrow 42 (.st (.cons (.int .i64) (.cons (.int .i64) (.int .i64)))), [], none, []⟩,
    ⟨some 5, .mv, [.int .i64 1], none, []⟩])
  .ret)
  .skip))
 (.clean (.seq (.icall false [
   ⟨some 10, .mv, [.t 0], none, []⟩,
   ⟨some 11, .mkfn 26, [.t 3], none, []⟩] ⟨some 12, .callv, [.fn 25, .t 10, .t 11], none, []⟩ [
   ⟨some 4, .mv, [.t 12], none, []⟩,
   ⟨some 5, .mv, [.int .i64 0], none, []⟩] 25 x25.n x25.res x25.kv x25.code)
 .ret))))⟩
/- 0=stops 1=requests 3=requests 4= 5= -/
/-! tonneau/tonneauref17.Profile -/
def x11_0 : XC := (.seq (.seq (.reg false [
   ⟨some 13, .mv, [.t 7], none, []⟩,
   ⟨some 14, .mv, [.t 0], none, []⟩,
   ⟨some 15, .len false, [.t 14], none, []⟩,
   ⟨some 16, .bin .leq, [.t 13, .t 15], none, []⟩])
 (.cond (.t 16)
  .skip
  (.exit 0)))
 (.seq (.block 1 (.seq (.reg false [
    ⟨some 19, .mv, [.t 0], none, []⟩,
    ⟨some 20, .mv, [.t 1], none, []⟩,
    ⟨some 21, .mv, [.t 7], none, []⟩,
    ⟨some 22, .call 28, [.t 19, .t 20, .t 21], none, []⟩,
    ⟨some 8, .alloc 57 (.st (.cons (.int .i64) (.cons (.int .i64) (.int .i64)))), [], none, []⟩,
    ⟨none, .store (.st (.cons (.int .i64) (.cons (.int .i64) (.int .i64)))), [.t 8, .t 22], none, []⟩])
  (.reg false [
    ⟨some 23, .mv, [.t 6], none, []⟩,
    ⟨some 24, .load (.st (.cons (.int .i64) (.cons (.int .i64) (.int .i64)))), [.t 8], none, []⟩,
    ⟨some 25, .bslice 57 (.st (.cons (.int .i64) (.cons (.int .i64) (.int .i64)))) 1 [0], [.t 24], none, []⟩,
    ⟨some 26, .append 57 (.st (.cons (.int .i64) (.cons (.int .i64) (.int .i64)))) 24, [.t 23, .t 25], none, []⟩,
    ⟨some 6, .mv, [.t 26], none, []⟩])))
 (.clean (.reg false [
   ⟨some 17, .mv, [.t 7], none, []⟩,
   ⟨some 18, .bin .add, [.t 17, .int .i64 1], none, []⟩,
   ⟨some 7, .mv, [.t 18], none, []⟩]))))
def x11_0d : List Nat := [6, 7, 8]
def x11 : XF := ⟨28, [.tmp 4, .tmp 5], [0, 1, 4, 5, 6, 7, 8],
 (.seq (.reg false [
   ⟨some 4, .nilrow 57 (.st (.cons (.int .i64) (.cons (.int .i64) (.int .i64)))), [], none, []⟩,
   ⟨some 5, .mv, [.int .i64 0], none, []⟩])
 (.seq (.seq (.reg false [
   ⟨some 9, .mv, [.t 0], none, []⟩,
   ⟨some 10, .mv, [.t 1], none, []⟩,
   ⟨some 11, .call 16, [.t 9, .t 10], none, []⟩,
   ⟨some 12, .not, [.t 11], none, []⟩])
 (.cond (.t 12)
  (.seq (.reg false [
    ⟨some 4, .nilrow 57 (.st (.cons (.int .i64) (.cons (.int .i64) (.int .i64)))), [], none, []⟩,
    ⟨some 5, .mv, [.int .i64 1], none, []⟩])
  .ret)
  .skip))
 (.clean (.seq (.reg false [
   ⟨some 6, .nilrow 57 (.st (.cons (.int .i64) (.cons (.int .i64) (.int .i64)))), [], none, []⟩])
 (.seq (.seq (.reg false [
   ⟨some 7, .mv, [.int .i64 0], none, []⟩])
 (.block 0 (.loop x11_0)))
 (.clean (.seq (.reg false [
   ⟨some 27, .mv, [.t 6], none, []⟩,
   ⟨some 4, .mv, [.t 27], none, []⟩,
   ⟨some 5, .mv, [.int .i64 0], none, []⟩])
 .ret)))))))⟩
/- 0=stops 1=requests 4= 5= 6=out 7=k 8=x -/
/-! tonneau/load.Fits -/
def x12 : XF := ⟨36, [.tmp 6, .tmp 7], [0, 1, 2, 3, 6, 7, 8, 9, 10],
 (.seq (.reg false [
   ⟨some 3, .box 23, [.t 0], none, []⟩,
   ⟨some 6, .mv, [.int .i64 0], none, []⟩,
   ⟨some 7, .mv, [.int .i64 0], none, []⟩])
 (.seq (.reg false [
   ⟨some 12, .mv, [.t 1], none, []⟩,
   ⟨some 13, .mv, [.t 2], none, []⟩,
   ⟨some 14, .call 10, [.t 12, .t 13], none, []⟩,
   ⟨some 11, .mv, [.t 14], none, []⟩,
   ⟨some 15, .extract 0, [.t 11], none, []⟩,
   ⟨some 16, .extract 1, [.t 11], none, []⟩,
   ⟨some 8, .mv, [.t 15], none, []⟩,
   ⟨some 9, .mv, [.t 16], none, []⟩])
 (.clean (.seq (.seq (.reg false [
   ⟨some 17, .mv, [.t 9], none, []⟩,
   ⟨some 18, .bin .neq, [.t 17, .int .i64 0], none, []⟩,
   ⟨some 19, .mv, [.t 18], none, []⟩,
   ⟨some 20, .faddr 4 (.int .i64), [.t 3], some (2, 19, false), []⟩,
   ⟨some 21, .load (.int .i64), [.t 20], some (2, 19, false), []⟩,
   ⟨some 22, .faddr 5 (.int .i64), [.t 3], some (2, 19, false), []⟩,
   ⟨some 23, .load (.int .i64), [.t 22], some (2, 19, false), []⟩,
   ⟨some 24, .faddr 6 (.int .i64), [.t 3], some (2, 19, false), []⟩,
   ⟨some 25, .load (.int .i64), [.t 24], some (2, 19, false), []⟩,
   ⟨some 26, .build (.st (.cons (.int .i64) (.cons (.int .i64) (.int .i64)))) [(0, (.int .i64)), (1, (.int .i64)), (2, (.int .i64))], [.t 21, .t 23, .t 25], some (2, 19, false), []⟩,
   ⟨some 27, .call 29, [.t 26], some (2, 19, false), []⟩,
   ⟨some 28, .not, [.t 27], some (2, 19, false), []⟩,
   ⟨some 29, .pick, [.t 19, .bool true, .t 28], none, []⟩])
 (.cond (.t 29)
  (.seq (.reg false [
    ⟨some 6, .mv, [.int .i64 0], none, []⟩,
    ⟨some 7, .mv, [.int .i64 1], none, []⟩])
  .ret)
  .skip))
 (.clean (.seq (.reg false [
   ⟨some 30, .mv, [.t 8], none, []⟩,
   ⟨some 31, .mkfn 31, [.t 3], none, []⟩,
   ⟨some 32, .call 30, [.t 30, .t 31], none, []⟩,
   ⟨some 10, .mv, [.t 32], none, []⟩])
 (.seq (.seq (.reg false [
   ⟨some 33, .mv, [.t 10], none, []⟩,
   ⟨some 34, .bin .geq, [.t 33, .int .i64 0], none, []⟩])
 (.cond (.t 34)
  (.seq (.reg false [
    ⟨some 35, .mv, [.t 10], none, []⟩,
    ⟨some 6, .mv, [.t 35], none, []⟩,
    ⟨some 7, .mv, [.int .i64 27], none, []⟩])
  .ret)
  .skip))
 (.seq (.reg false [
   ⟨some 6, .mv, [.int .i64 0], none, []⟩,
   ⟨some 7, .mv, [.int .i64 0], none, []⟩])
 .ret))))))))⟩
/- 0=car 1=stops 2=requests 3=car 6= 7= 8=l 9=e 10=k -/
/-! tonneau/tonneauref17.Fits -/
def x13_0 : XC := (.seq (.seq (.reg false [
   ⟨some 37, .mv, [.t 10], none, []⟩,
   ⟨some 38, .mv, [.t 8], none, []⟩,
   ⟨some 39, .len false, [.t 38], none, []⟩,
   ⟨some 40, .bin .lss, [.t 37, .t 39], none, []⟩])
 (.cond (.t 40)
  .skip
  (.exit 0)))
 (.seq (.block 1 (.seq (.reg true [
    ⟨some 43, .mv, [.t 8], none, []⟩,
    ⟨some 44, .mv, [.t 10], none, []⟩,
    ⟨some 45, .iaddr (.st (.cons (.int .i64) (.cons (.int .i64) (.int .i64)))), [.t 43, .t 44], none, [0, 1]⟩,
    ⟨some 46, .faddr 0 (.int .i64), [.t 45], none, [2, 0, 1]⟩,
    ⟨some 47, .load (.int .i64), [.t 46], none, [3, 2, 0, 1]⟩,
    ⟨some 48, .faddr 4 (.int .i64), [.t 3], none, []⟩,
    ⟨some 49, .load (.int .i64), [.t 48], none, [5]⟩,
    ⟨some 50, .bin .gtr, [.t 47, .t 49], none, [4, 3, 2, 0, 1, 6, 5]⟩,
    ⟨some 51, .mv, [.t 50], none, [7, 4, 3, 2, 0, 1, 6, 5]⟩,
    ⟨some 52, .mv, [.t 8], some (8, 51, false), [8, 7, 4, 3, 2, 0, 1, 6, 5]⟩,
    ⟨some 53, .mv, [.t 10], some (8, 51, false), [8, 7, 4, 3, 2, 0, 1, 6, 5]⟩,
    ⟨some 54, .iaddr (.st (.cons (.int .i64) (.cons (.int .i64) (.int .i64)))), [.t 52, .t 53], some (8, 51, false), [9, 8, 7, 4, 3, 2, 0, 1, 6, 5, 10]⟩,
    ⟨some 55, .faddr 1 (.int .i64), [.t 54], some (8, 51, false), [11, 9, 8, 7, 4, 3, 2, 0, 1, 6, 5, 10]⟩,
    ⟨some 56, .load (.int .i64), [.t 55], some (8, 51, false), [12, 11, 9, 8, 7, 4, 3, 2, 0, 1, 6, 5, 10]⟩,
    ⟨some 57, .faddr 5 (.int .i64), [.t 3], some (8, 51, false), [8, 7, 4, 3, 2, 0, 1, 6, 5]⟩,
    ⟨some 58, .load (.int .i64), [.t 57], some (8, 51, false), [14, 8, 7, 4, 3, 2, 0, 1, 6, 5]⟩,
    ⟨some 59, .bin .gtr, [.t 56, .t 58], some (8, 51, false), [13, 12, 11, 9, 8, 7, 4, 3, 2, 0, 1, 6, 5, 10, 15, 14]⟩,
    ⟨some 60, .pick, [.t 51, .bool true, .t 59], none, [8, 7, 4, 3, 2, 0, 1, 6, 5, 16, 13, 12, 11, 9, 10, 15, 14]⟩,
    ⟨some 61, .mv, [.t 60], none, [17, 8, 7, 4, 3, 2, 0, 1, 6, 5, 16, 13, 12, 11, 9, 10, 15, 14]⟩,
    ⟨some 62, .mv, [.t 8], some (18, 61, false), [18, 17, 8, 7, 4, 3, 2, 0, 1, 6, 5, 16, 13, 12, 11, 9, 10, 15, 14]⟩,
    ⟨some 63, .mv, [.t 10], some (18, 61, false), [18, 17, 8, 7, 4, 3, 2, 0, 1, 6, 5, 16, 13, 12, 11, 9, 10, 15, 14]⟩,
    ⟨some 64, .iaddr (.st (.cons (.int .i64) (.cons (.int .i64) (.int .i64)))), [.t 62, .t 63], some (18, 61, false), [19, 18, 17, 8, 7, 4, 3, 2, 0, 1, 6, 5, 16, 13, 12, 11, 9, 10, 15, 14, 20]⟩,
    ⟨some 65, .faddr 2 (.int .i64), [.t 64], some (18, 61, false), [21, 19, 18, 17, 8, 7, 4, 3, 2, 0, 1, 6, 5, 16, 13, 12, 11, 9, 10, 15, 14, 20]⟩,
    ⟨some 66, .load (.int .i64), [.t 65], some (18, 61, false), [22, 21, 19, 18, 17, 8, 7, 4, 3, 2, 0, 1, 6, 5, 16, 13, 12, 11, 9, 10, 15, 14, 20]⟩,
    ⟨some 67, .faddr 6 (.int .i64), [.t 3], some (18, 61, false), [18, 17, 8, 7, 4, 3, 2, 0, 1, 6, 5, 16, 13, 12, 11, 9, 10, 15, 14]⟩,
    ⟨some 68, .load (.int .i64), [.t 67], some (18, 61, false), [24, 18, 17, 8, 7, 4, 3, 2, 0, 1, 6, 5, 16, 13, 12, 11, 9, 10, 15, 14]⟩,
    ⟨some 69, .bin .gtr, [.t 66, .t 68], some (18, 61, false), [23, 22, 21, 19, 18, 17, 8, 7, 4, 3, 2, 0, 1, 6, 5, 16, 13, 12, 11, 9, 10, 15, 14, 20, 25, 24]⟩,
    ⟨some 70, .pick, [.t 61, .bool true, .t 69], none, [18, 17, 8, 7, 4, 3, 2, 0, 1, 6, 5, 16, 13, 12, 11, 9, 10, 15, 14, 26, 23, 22, 21, 19, 20, 25, 24]⟩])
  (.cond (.t 70)
   (.seq (.reg false [
     ⟨some 71, .mv, [.t 10], none, []⟩,
     ⟨some 6, .mv, [.t 71], none, []⟩,
     ⟨some 7, .mv, [.int .i64 27], none, []⟩])
   .ret)
   .skip)))
 (.clean (.reg false [
   ⟨some 41, .mv, [.t 10], none, []⟩,
   ⟨some 42, .bin .add, [.t 41, .int .i64 1], none, []⟩,
   ⟨some 10, .mv, [.t 42], none, []⟩]))))
def x13_0d : List Nat := [6, 7, 10]
def x13 : XF := ⟨72, [.tmp 6, .tmp 7], [0, 1, 2, 3, 6, 7, 8, 9, 10],
 (.seq (.reg false [
   ⟨some 3, .box 23, [.t 0], none, []⟩,
   ⟨some 6, .mv, [.int .i64 0], none, []⟩,
   ⟨some 7, .mv, [.int .i64 0], none, []⟩])
 (.seq (.reg false [
   ⟨some 12, .mv, [.t 1], none, []⟩,
   ⟨some 13, .mv, [.t 2], none, []⟩,
   ⟨some 14, .call 11, [.t 12, .t 13], none, []⟩,
   ⟨some 11, .mv, [.t 14], none, []⟩,
   ⟨some 15, .extract 0, [.t 11], none, []⟩,
   ⟨some 16, .extract 1, [.t 11], none, []⟩,
   ⟨some 8, .mv, [.t 15], none, []⟩,
   ⟨some 9, .mv, [.t 16], none, []⟩])
 (.clean (.seq (.seq (.reg false [
   ⟨some 17, .mv, [.t 9], none, []⟩,
   ⟨some 18, .bin .neq, [.t 17, .int .i64 0], none, []⟩,
   ⟨some 19, .mv, [.t 18], none, []⟩,
   ⟨some 20, .faddr 4 (.int .i64), [.t 3], some (2, 19, false), []⟩,
   ⟨some 21, .load (.int .i64), [.t 20], some (2, 19, false), []⟩,
   ⟨some 22, .call 32, [.t 21], some (2, 19, false), []⟩,
   ⟨some 23, .not, [.t 22], some (2, 19, false), []⟩,
   ⟨some 24, .pick, [.t 19, .bool true, .t 23], none, []⟩,
   ⟨some 25, .mv, [.t 24], none, []⟩,
   ⟨some 26, .faddr 5 (.int .i64), [.t 3], some (8, 25, false), []⟩,
   ⟨some 27, .load (.int .i64), [.t 26], some (8, 25, false), []⟩,
   ⟨some 28, .call 32, [.t 27], some (8, 25, false), []⟩,
   ⟨some 29, .not, [.t 28], some (8, 25, false), []⟩,
   ⟨some 30, .pick, [.t 25, .bool true, .t 29], none, []⟩,
   ⟨some 31, .mv, [.t 30], none, []⟩,
   ⟨some 32, .faddr 6 (.int .i64), [.t 3], some (14, 31, false), []⟩,
   ⟨some 33, .load (.int .i64), [.t 32], some (14, 31, false), []⟩,
   ⟨some 34, .call 32, [.t 33], some (14, 31, false), []⟩,
   ⟨some 35, .not, [.t 34], some (14, 31, false), []⟩,
   ⟨some 36, .pick, [.t 31, .bool true, .t 35], none, []⟩])
 (.cond (.t 36)
  (.seq (.reg false [
    ⟨some 6, .mv, [.int .i64 0], none, []⟩,
    ⟨some 7, .mv, [.int .i64 1], none, []⟩])
  .ret)
  .skip))
 (.clean (.seq (.seq (.reg false [
   ⟨some 10, .mv, [.int .i64 0], none, []⟩])
 (.block 0 (.loop x13_0)))
 (.seq (.reg false [
   ⟨some 6, .mv, [.int .i64 0], none, []⟩,
   ⟨some 7, .mv, [.int .i64 0], none, []⟩])
 .ret)))))))⟩
/- 0=car 1=stops 2=requests 3=car 6= 7= 8=l 9=e 10=k -/
/-! tonneau/tonneaulaw17.same -/
def x14_0 : XC := (.seq (.seq (.reg false [
   ⟨some 11, .mv, [.t 5], none, []⟩,
   ⟨some 12, .mv, [.t 0], none, []⟩,
   ⟨some 13, .len false, [.t 12], none, []⟩,
   ⟨some 14, .bin .lss, [.t 11, .t 13], none, []⟩])
 (.cond (.t 14)
  .skip
  (.exit 0)))
 (.seq (.block 1 (.seq (.reg true [
    ⟨some 17, .mv, [.t 0], none, []⟩,
    ⟨some 18, .mv, [.t 5], none, []⟩,
    ⟨some 19, .iaddr (.st (.cons (.int .i64) (.cons (.int .i64) (.int .i64)))), [.t 17, .t 18], none, [0, 1]⟩,
    ⟨some 20, .faddr 0 (.int .i64), [.t 19], none, [2, 0, 1]⟩,
    ⟨some 21, .load (.int .i64), [.t 20], none, [3, 2, 0, 1]⟩,
    ⟨some 22, .mv, [.t 1], none, []⟩,
    ⟨some 23, .mv, [.t 5], none, []⟩,
    ⟨some 24, .iaddr (.st (.cons (.int .i64) (.cons (.int .i64) (.int .i64)))), [.t 22, .t 23], none, [5, 6]⟩,
    ⟨some 25, .faddr 0 (.int .i64), [.t 24], none, [7, 5, 6]⟩,
    ⟨some 26, .load (.int .i64), [.t 25], none, [8, 7, 5, 6]⟩,
    ⟨some 27, .bin .neq, [.t 21, .t 26], none, [4, 3, 2, 0, 1, 9, 8, 7, 5, 6]⟩,
    ⟨some 28, .mv, [.t 27], none, [10, 4, 3, 2, 0, 1, 9, 8, 7, 5, 6]⟩,
    ⟨some 29, .mv, [.t 0], some (11, 28, false), [11, 10, 4, 3, 2, 0, 1, 9, 8, 7, 5, 6]⟩,
    ⟨some 30, .mv, [.t 5], some (11, 28, false), [11, 10, 4, 3, 2, 0, 1, 9, 8, 7, 5, 6]⟩,
    ⟨some 31, .iaddr (.st (.cons (.int .i64) (.cons (.int .i64) (.int .i64)))), [.t 29, .t 30], some (11, 28, false), [12, 11, 10, 4, 3, 2, 0, 1, 9, 8, 7, 5, 6, 13]⟩,
    ⟨some 32, .faddr 1 (.int .i64), [.t 31], some (11, 28, false), [14, 12, 11, 10, 4, 3, 2, 0, 1, 9, 8, 7, 5, 6, 13]⟩,
    ⟨some 33, .load (.int .i64), [.t 32], some (11, 28, false), [15, 14, 12, 11, 10, 4, 3, 2, 0, 1, 9, 8, 7, 5, 6, 13]⟩,
    ⟨some 34, .mv, [.t 1], some (11, 28, false), [11, 10, 4, 3, 2, 0, 1, 9, 8, 7, 5, 6]⟩,
    ⟨some 35, .mv, [.t 5], some (11, 28, false), [11, 10, 4, 3, 2, 0, 1, 9, 8, 7, 5, 6]⟩,
    ⟨some 36, .iaddr (.st (.cons (.int .i64) (.cons (.int .i64) (.int .i64)))), [.t 34, .t 35], some (11, 28, false), [17, 11, 10, 4, 3, 2, 0, 1, 9, 8, 7, 5, 6, 18]⟩,
    ⟨some 37, .faddr 1 (.int .i64), [.t 36], some (11, 28, false), [19, 17, 11, 10, 4, 3, 2, 0, 1, 9, 8, 7, 5, 6, 18]⟩,
    ⟨some 38, .load (.int .i64), [.t 37], some (11, 28, false), [20, 19, 17, 11, 10, 4, 3, 2, 0, 1, 9, 8, 7, 5, 6, 18]⟩,
    ⟨some 39, .bin .neq, [.t 33, .t 38], some (11, 28, false), [16, 15, 14, 12, 11, 10, 4, 3, 2, 0, 1, 9, 8, 7, 5, 6, 13, 21, 20, 19, 17, 18]⟩,
    ⟨some 40, .pick, [.t 28, .bool true, .t 39], none, [11, 10, 4, 3, 2, 0, 1, 9, 8, 7, 5, 6, 22, 16, 15, 14, 12, 13, 21, 20, 19, 17, 18]⟩,
    ⟨some 41, .mv, [.t 40], none, [23, 11, 10, 4, 3, 2, 0, 1, 9, 8, 7, 5, 6, 22, 16, 15, 14, 12, 13, 21, 20, 19, 17, 18]⟩,
    ⟨some 42, .mv, [.t 0], some (24, 41, false), [24, 23, 11, 10, 4, 3, 2, 0, 1, 9, 8, 7, 5, 6, 22, 16, 15, 14, 12, 13, 21, 20, 19, 17, 18]⟩,
    ⟨some 43, .mv, [.t 5], some (24, 41, false), [24, 23, 11, 10, 4, 3, 2, 0, 1, 9, 8, 7, 5, 6, 22, 16, 15, 14, 12, 13, 21, 20, 19, 17, 18]⟩,
    ⟨some 44, .iaddr (.st (.cons (.int .i64) (.cons (.int .i64) (.int .i64)))), [.t 42, .t 43], some (24, 41, false), [25, 24, 23, 11, 10, 4, 3, 2, 0, 1, 9, 8, 7, 5, 6, 22, 16, 15, 14, 12, 13, 21, 20, 19, 17, 18, 26]⟩,
    ⟨some 45, .faddr 2 (.int .i64), [.t 44], some (24, 41, false), [27, 25, 24, 23, 11, 10, 4, 3, 2, 0, 1, 9, 8, 7, 5, 6, 22, 16, 15, 14, 12, 13, 21, 20, 19, 17, 18, 26]⟩,
    ⟨some 46, .load (.int .i64), [.t 45], some (24, 41, false), [28, 27, 25, 24, 23, 11, 10, 4, 3, 2, 0, 1, 9, 8, 7, 5, 6, 22, 16, 15, 14, 12, 13, 21, 20, 19, 17, 18, 26]⟩,
    ⟨some 47, .mv, [.t 1], some (24, 41, false), [24, 23, 11, 10, 4, 3, 2, 0, 1, 9, 8, 7, 5, 6, 22, 16, 15, 14, 12, 13, 21, 20, 19, 17, 18]⟩,
    ⟨some 48, .mv, [.t 5], some (24, 41, false), [24, 23, 11, 10, 4, 3, 2, 0, 1, 9, 8, 7, 5, 6, 22, 16, 15, 14, 12, 13, 21, 20, 19, 17, 18]⟩,
    ⟨some 49, .iaddr (.st (.cons (.int .i64) (.cons (.int .i64) (.int .i64)))), [.t 47, .t 48], some (24, 41, false), [30, 24, 23, 11, 10, 4, 3, 2, 0, 1, 9, 8, 7, 5, 6, 22, 16, 15, 14, 12, 13, 21, 20, 19, 17, 18, 31]⟩,
    ⟨some 50, .faddr 2 (.int .i64), [.t 49], some (24, 41, false), [32, 30, 24, 23, 11, 10, 4, 3, 2, 0, 1, 9, 8, 7, 5, 6, 22, 16, 15, 14, 12, 13, 21, 20, 19, 17, 18, 31]⟩,
    ⟨some 51, .load (.int .i64), [.t 50], some (24, 41, false), [33, 32, 30, 24, 23, 11, 10, 4, 3, 2, 0, 1, 9, 8, 7, 5, 6, 22, 16, 15, 14, 12, 13, 21, 20, 19, 17, 18, 31]⟩,
    ⟨some 52, .bin .neq, [.t 46, .t 51], some (24, 41, false), [29, 28, 27, 25, 24, 23, 11, 10, 4, 3, 2, 0, 1, 9, 8, 7, 5, 6, 22, 16, 15, 14, 12, 13, 21, 20, 19, 17, 18, 26, 34, 33, 32, 30, 31]⟩,
    ⟨some 53, .pick, [.t 41, .bool true, .t 52], none, [24, 23, 11, 10, 4, 3, 2, 0, 1, 9, 8, 7, 5, 6, 22, 16, 15, 14, 12, 13, 21, 20, 19, 17, 18, 35, 29, 28, 27, 25, 26, 34, 33, 32, 30, 31]⟩])
  (.cond (.t 53)
   (.seq (.reg false [
     ⟨some 4, .mv, [.bool false], none, []⟩])
   .ret)
   .skip)))
 (.clean (.reg false [
   ⟨some 15, .mv, [.t 5], none, []⟩,
   ⟨some 16, .bin .add, [.t 15, .int .i64 1], none, []⟩,
   ⟨some 5, .mv, [.t 16], none, []⟩]))))
def x14_0d : List Nat := [4, 5]
def x14 : XF := ⟨54, [.tmp 4], [0, 1, 4, 5],
 (.seq (.reg false [
   ⟨some 4, .mv, [.bool false], none, []⟩])
 (.seq (.seq (.reg false [
   ⟨some 6, .mv, [.t 0], none, []⟩,
   ⟨some 7, .len false, [.t 6], none, []⟩,
   ⟨some 8, .mv, [.t 1], none, []⟩,
   ⟨some 9, .len false, [.t 8], none, []⟩,
   ⟨some 10, .bin .neq, [.t 7, .t 9], none, []⟩])
 (.cond (.t 10)
  (.seq (.reg false [
    ⟨some 4, .mv, [.bool false], none, []⟩])
  .ret)
  .skip))
 (.clean (.seq (.seq (.reg false [
   ⟨some 5, .mv, [.int .i64 0], none, []⟩])
 (.block 0 (.loop x14_0)))
 (.seq (.reg false [
   ⟨some 4, .mv, [.bool true], none, []⟩])
 .ret)))))⟩
/- 0=a 1=b 4= 5=i -/
/-! tonneau/load.Right -/
def x15_0 : XC := (.seq (.seq (.reg false [
   ⟨some 20, .mv, [.t 6], none, []⟩,
   ⟨some 21, .bin .geq, [.t 20, .int .i64 0], none, []⟩])
 (.cond (.t 21)
  .skip
  (.exit 0)))
 (.seq (.block 1 (.seq (.reg false [
    ⟨some 24, .mv, [.t 0], none, []⟩,
    ⟨some 25, .mv, [.t 6], none, []⟩,
    ⟨some 26, .iaddr (.st (.cons (.int .i64) .bool)), [.t 24, .t 25], none, []⟩,
    ⟨some 27, .load (.st (.cons (.int .i64) .bool)), [.t 26], none, []⟩,
    ⟨some 7, .alloc 44 (.st (.cons (.int .i64) .bool)), [], none, []⟩,
    ⟨none, .store (.st (.cons (.int .i64) .bool)), [.t 7, .t 27], none, []⟩])
  (.seq (.seq (.reg true [
    ⟨some 28, .faddr 0 (.int .i64), [.t 7], none, []⟩,
    ⟨some 29, .load (.int .i64), [.t 28], none, [0]⟩,
    ⟨some 30, .bin .lss, [.t 29, .int .i64 0], none, [1, 0]⟩,
    ⟨some 31, .mv, [.t 30], none, [2, 1, 0]⟩,
    ⟨some 32, .faddr 0 (.int .i64), [.t 7], some (3, 31, false), [3, 2, 1, 0]⟩,
    ⟨some 33, .load (.int .i64), [.t 32], some (3, 31, false), [4, 3, 2, 1, 0]⟩,
    ⟨some 34, .mv, [.t 1], some (3, 31, false), [3, 2, 1, 0]⟩,
    ⟨some 35, .len false, [.t 34], some (3, 31, false), [6, 3, 2, 1, 0]⟩,
    ⟨some 36, .bin .geq, [.t 33, .t 35], some (3, 31, false), [5, 4, 3, 2, 1, 0, 7, 6]⟩,
    ⟨some 37, .pick, [.t 31, .bool true, .t 36], none, [3, 2, 1, 0, 8, 5, 4, 7, 6]⟩,
    ⟨some 38, .mv, [.t 37], none, [9, 3, 2, 1, 0, 8, 5, 4, 7, 6]⟩,
    ⟨some 39, .mv, [.t 1], some (10, 38, false), [10, 9, 3, 2, 1, 0, 8, 5, 4, 7, 6]⟩,
    ⟨some 40, .faddr 0 (.int .i64), [.t 7], some (10, 38, false), [10, 9, 3, 2, 1, 0, 8, 5, 4, 7, 6]⟩,
    ⟨some 41, .load (.int .i64), [.t 40], some (10, 38, false), [12, 10, 9, 3, 2, 1, 0, 8, 5, 4, 7, 6]⟩,
    ⟨some 42, .iaddr (.st (.cons (.int .i64) (.cons (.int .i64) (.cons (.int .i64) (.cons (.int .i64) (.cons (.int .i64) (.cons (.int .i64) (.cons (.int .i64) (.cons (.int .i64) (.cons (.int .i64) (.int .i64))))))))))), [.t 39, .t 41], some (10, 38, false), [11, 10, 9, 3, 2, 1, 0, 8, 5, 4, 7, 6, 13, 12]⟩,
    ⟨some 43, .load (.st (.cons (.int .i64) (.cons (.int .i64) (.cons (.int .i64) (.cons (.int .i64) (.cons (.int .i64) (.cons (.int .i64) (.cons (.int .i64) (.cons (.int .i64) (.cons (.int .i64) (.int .i64))))))))))), [.t 42], some (10, 38, false), [14, 11, 10, 9, 3, 2, 1, 0, 8, 5, 4, 7, 6, 13, 12]⟩,
    ⟨some 44, .call 33, [.t 43], some (10, 38, false), [15, 14, 11, 10, 9, 3, 2, 1, 0, 8, 5, 4, 7, 6, 13, 12]⟩,
    ⟨some 45, .call 29, [.t 44], some (10, 38, false), [16, 15, 14, 11, 10, 9, 3, 2, 1, 0, 8, 5, 4, 7, 6, 13, 12]⟩,
    ⟨some 46, .not, [.t 45], some (10, 38, false), [17, 16, 15, 14, 11, 10, 9, 3, 2, 1, 0, 8, 5, 4, 7, 6, 13, 12]⟩,
    ⟨some 47, .pick, [.t 38, .bool true, .t 46], none, [10, 9, 3, 2, 1, 0, 8, 5, 4, 7, 6, 18, 17, 16, 15, 14, 11, 13, 12]⟩,
    ⟨some 48, .mv, [.t 47], none, [19, 10, 9, 3, 2, 1, 0, 8, 5, 4, 7, 6, 18, 17, 16, 15, 14, 11, 13, 12]⟩,
    ⟨some 49, .mv, [.t 0], some (20, 48, false), [20, 19, 10, 9, 3, 2, 1, 0, 8, 5, 4, 7, 6, 18, 17, 16, 15, 14, 11, 13, 12]⟩,
    ⟨some 50, .mv, [.t 6], some (20, 48, false), [20, 19, 10, 9, 3, 2, 1, 0, 8, 5, 4, 7, 6, 18, 17, 16, 15, 14, 11, 13, 12]⟩,
    ⟨some 51, .slice (.st (.cons (.int .i64) .bool)) false true false, [.t 49, .t 50], some (20, 48, false), [21, 20, 19, 10, 9, 3, 2, 1, 0, 8, 5, 4, 7, 6, 18, 17, 16, 15, 14, 11, 13, 12, 22]⟩,
    ⟨some 52, .load (.st (.cons (.int .i64) .bool)), [.t 7], some (20, 48, false), [20, 19, 10, 9, 3, 2, 1, 0, 8, 5, 4, 7, 6, 18, 17, 16, 15, 14, 11, 13, 12]⟩,
    ⟨some 53, .call 34, [.t 51, .t 52], some (20, 48, false), [23, 21, 20, 19, 10, 9, 3, 2, 1, 0, 8, 5, 4, 7, 6, 18, 17, 16, 15, 14, 11, 13, 12, 22, 24]⟩,
    ⟨some 54, .pick, [.t 48, .bool true, .t 53], none, [20, 19, 10, 9, 3, 2, 1, 0, 8, 5, 4, 7, 6, 18, 17, 16, 15, 14, 11, 13, 12, 25, 23, 21, 22, 24]⟩,
    ⟨some 55, .mv, [.t 54], none, [26, 20, 19, 10, 9, 3, 2, 1, 0, 8, 5, 4, 7, 6, 18, 17, 16, 15, 14, 11, 13, 12, 25, 23, 21, 22, 24]⟩,
    ⟨some 56, .faddr 1 .bool, [.t 7], some (27, 55, false), [27, 26, 20, 19, 10, 9, 3, 2, 1, 0, 8, 5, 4, 7, 6, 18, 17, 16, 15, 14, 11, 13, 12, 25, 23, 21, 22, 24]⟩,
    ⟨some 57, .load .bool, [.t 56], some (27, 55, false), [28, 27, 26, 20, 19, 10, 9, 3, 2, 1, 0, 8, 5, 4, 7, 6, 18, 17, 16, 15, 14, 11, 13, 12, 25, 23, 21, 22, 24]⟩,
    ⟨some 58, .mv, [.t 57], some (27, 55, false), [29, 28, 27, 26, 20, 19, 10, 9, 3, 2, 1, 0, 8, 5, 4, 7, 6, 18, 17, 16, 15, 14, 11, 13, 12, 25, 23, 21, 22, 24]⟩,
    ⟨some 59, .mv, [.t 5], some (30, 58, true), [30, 29, 28, 27, 26, 20, 19, 10, 9, 3, 2, 1, 0, 8, 5, 4, 7, 6, 18, 17, 16, 15, 14, 11, 13, 12, 25, 23, 21, 22, 24]⟩,
    ⟨some 60, .faddr 0 (.int .i64), [.t 7], some (30, 58, true), [30, 29, 28, 27, 26, 20, 19, 10, 9, 3, 2, 1, 0, 8, 5, 4, 7, 6, 18, 17, 16, 15, 14, 11, 13, 12, 25, 23, 21, 22, 24]⟩,
    ⟨some 61, .load (.int .i64), [.t 60], some (30, 58, true), [32, 30, 29, 28, 27, 26, 20, 19, 10, 9, 3, 2, 1, 0, 8, 5, 4, 7, 6, 18, 17, 16, 15, 14, 11, 13, 12, 25, 23, 21, 22, 24]⟩,
    ⟨some 62, .mapget .i64 .bool false, [.t 59, .t 61], some (30, 58, true), [31, 30, 29, 28, 27, 26, 20, 19, 10, 9, 3, 2, 1, 0, 8, 5, 4, 7, 6, 18, 17, 16, 15, 14, 11, 13, 12, 25, 23, 21, 22, 24, 33, 32]⟩,
    ⟨some 63, .not, [.t 62], some (30, 58, true), [34, 31, 30, 29, 28, 27, 26, 20, 19, 10, 9, 3, 2, 1, 0, 8, 5, 4, 7, 6, 18, 17, 16, 15, 14, 11, 13, 12, 25, 23, 21, 22, 24, 33, 32]⟩,
    ⟨some 64, .pick, [.t 58, .t 63, .bool false], some (27, 55, false), [30, 29, 28, 27, 26, 20, 19, 10, 9, 3, 2, 1, 0, 8, 5, 4, 7, 6, 18, 17, 16, 15, 14, 11, 13, 12, 25, 23, 21, 22, 24, 35, 34, 31, 33, 32]⟩,
    ⟨some 65, .pick, [.t 55, .bool true, .t 64], none, [27, 26, 20, 19, 10, 9, 3, 2, 1, 0, 8, 5, 4, 7, 6, 18, 17, 16, 15, 14, 11, 13, 12, 25, 23, 21, 22, 24, 36, 30, 29, 28, 35, 34, 31, 33, 32]⟩])
  (.cond (.t 65)
   (.seq (.reg false [
     ⟨some 4, .mv, [.bool false], none, []⟩])
   .ret)
   .skip))
  (.clean (.seq (.reg false [
    ⟨some 66, .faddr 1 .bool, [.t 7], none, []⟩,
    ⟨some 67, .load .bool, [.t 66], none, []⟩,
    ⟨some 68, .not, [.t 67], none, []⟩])
  (.cond (.t 68)
   (.reg false [
     ⟨some 69, .mv, [.t 5], none, []⟩,
     ⟨some 70, .faddr 0 (.int .i64), [.t 7], none, []⟩,
     ⟨some 71, .load (.int .i64), [.t 70], none, []⟩,
     ⟨none, .mapset .i64 .bool, [.t 69, .t 71, .bool true], none, []⟩])
   .skip))))))
 (.clean (.reg false [
   ⟨some 22, .mv, [.t 6], none, []⟩,
   ⟨some 23, .bin .sub, [.t 22, .int .i64 1], none, []⟩,
   ⟨some 6, .mv, [.t 23], none, []⟩]))))
def x15_0d : List Nat := [4, 6, 7]
def x15 : XF := ⟨72, [.tmp 4], [0, 1, 4, 5, 6, 7],
 (.seq (.reg false [
   ⟨some 4, .mv, [.bool false], none, []⟩])
 (.seq (.seq (.reg false [
   ⟨some 8, .mv, [.t 0], none, []⟩,
   ⟨some 9, .len false, [.t 8], none, []⟩,
   ⟨some 10, .bin .gtr, [.t 9, .int .i64 80], none, []⟩,
   ⟨some 11, .mv, [.t 10], none, []⟩,
   ⟨some 12, .mv, [.t 1], some (3, 11, false), []⟩,
   ⟨some 13, .len false, [.t 12], some (3, 11, false), []⟩,
   ⟨some 14, .bin .gtr, [.t 13, .int .i64 30000], some (3, 11, false), []⟩,
   ⟨some 15, .pick, [.t 11, .bool true, .t 14], none, []⟩])
 (.cond (.t 15)
  (.seq (.reg false [
    ⟨some 4, .mv, [.bool false], none, []⟩])
  .ret)
  .skip))
 (.clean (.seq (.reg false [
   ⟨some 16, .mkmap .i64 .bool, [], none, []⟩,
   ⟨some 5, .mv, [.t 16], none, []⟩])
 (.seq (.seq (.reg false [
   ⟨some 17, .mv, [.t 0], none, []⟩,
   ⟨some 18, .len false, [.t 17], none, []⟩,
   ⟨some 19, .bin .sub, [.t 18, .int .i64 1], none, []⟩,
   ⟨some 6, .mv, [.t 19], none, []⟩])
 (.block 0 (.loop x15_0)))
 (.seq (.reg false [
   ⟨some 4, .mv, [.bool true], none, []⟩])
 .ret))))))⟩
/- 0=stops 1=requests 4= 5=dropped 6=i 7=s -/
/-! tonneau/tonneauref17.Right -/
def x16_0 : XC := (.seq (.seq (.reg false [
   ⟨some 16, .mv, [.t 5], none, []⟩,
   ⟨some 17, .mv, [.t 0], none, []⟩,
   ⟨some 18, .len false, [.t 17], none, []⟩,
   ⟨some 19, .bin .lss, [.t 16, .t 18], none, []⟩])
 (.cond (.t 19)
  .skip
  (.exit 0)))
 (.seq (.block 1 (.seq (.reg false [
    ⟨some 22, .mv, [.t 0], none, []⟩,
    ⟨some 23, .mv, [.t 5], none, []⟩,
    ⟨some 24, .iaddr (.st (.cons (.int .i64) .bool)), [.t 22, .t 23], none, []⟩,
    ⟨some 25, .faddr 0 (.int .i64), [.t 24], none, []⟩,
    ⟨some 26, .load (.int .i64), [.t 25], none, []⟩,
    ⟨some 6, .mv, [.t 26], none, []⟩])
  (.clean (.seq (.seq (.reg false [
    ⟨some 27, .mv, [.t 6], none, []⟩,
    ⟨some 28, .bin .lss, [.t 27, .int .i64 0], none, []⟩,
    ⟨some 29, .mv, [.t 28], none, []⟩,
    ⟨some 30, .mv, [.t 6], some (2, 29, false), []⟩,
    ⟨some 31, .mv, [.t 1], some (2, 29, false), []⟩,
    ⟨some 32, .len false, [.t 31], some (2, 29, false), []⟩,
    ⟨some 33, .bin .geq, [.t 30, .t 32], some (2, 29, false), []⟩,
    ⟨some 34, .pick, [.t 29, .bool true, .t 33], none, []⟩,
    ⟨some 35, .mv, [.t 34], none, []⟩,
    ⟨some 36, .mv, [.t 0], some (8, 35, false), []⟩,
    ⟨some 37, .mv, [.t 6], some (8, 35, false), []⟩,
    ⟨some 38, .mv, [.t 0], some (8, 35, false), []⟩,
    ⟨some 39, .mv, [.t 5], some (8, 35, false), []⟩,
    ⟨some 40, .iaddr (.st (.cons (.int .i64) .bool)), [.t 38, .t 39], some (8, 35, false), []⟩,
    ⟨some 41, .faddr 1 .bool, [.t 40], some (8, 35, false), []⟩,
    ⟨some 42, .load .bool, [.t 41], some (8, 35, false), []⟩,
    ⟨some 43, .call 19, [.t 36, .t 37, .t 42], some (8, 35, false), []⟩,
    ⟨some 44, .mv, [.t 5], some (8, 35, false), []⟩,
    ⟨some 45, .bin .neq, [.t 43, .t 44], some (8, 35, false), []⟩,
    ⟨some 46, .pick, [.t 35, .bool true, .t 45], none, []⟩])
  (.cond (.t 46)
   (.seq (.reg false [
     ⟨some 4, .mv, [.bool false], none, []⟩])
   .ret)
   .skip))
  (.clean (.seq (.reg false [
    ⟨some 47, .mv, [.t 1], none, []⟩,
    ⟨some 48, .mv, [.t 6], none, []⟩,
    ⟨some 49, .iaddr (.st (.cons (.int .i64) (.cons (.int .i64) (.cons (.int .i64) (.cons (.int .i64) (.cons (.int .i64) (.cons (.int .i64) (.cons (.int .i64) (.cons (.int .i64) (.cons (.int .i64) (.int .i64))))))))))), [.t 47, .t 48], none, []⟩,
    ⟨some 50, .load (.st (.cons (.int .i64) (.cons (.int .i64) (.cons (.int .i64) (.cons (.int .i64) (.cons (.int .i64) (.cons (.int .i64) (.cons (.int .i64) (.cons (.int .i64) (.cons (.int .i64) (.int .i64))))))))))), [.t 49], none, []⟩,
    ⟨some 7, .alloc 46 (.st (.cons (.int .i64) (.cons (.int .i64) (.cons (.int .i64) (.cons (.int .i64) (.cons (.int .i64) (.cons (.int .i64) (.cons (.int .i64) (.cons (.int .i64) (.cons (.int .i64) (.int .i64))))))))))), [], none, []⟩,
    ⟨none, .store (.st (.cons (.int .i64) (.cons (.int .i64) (.cons (.int .i64) (.cons (.int .i64) (.cons (.int .i64) (.cons (.int .i64) (.cons (.int .i64) (.cons (.int .i64) (.cons (.int .i64) (.int .i64))))))))))), [.t 7, .t 50], none, []⟩])
  (.seq (.reg false [
    ⟨some 51, .faddr 7 (.int .i64), [.t 7], none, []⟩,
    ⟨some 52, .load (.int .i64), [.t 51], none, []⟩,
    ⟨some 53, .call 32, [.t 52], none, []⟩,
    ⟨some 54, .not, [.t 53], none, []⟩,
    ⟨some 55, .mv, [.t 54], none, []⟩,
    ⟨some 56, .faddr 8 (.int .i64), [.t 7], some (4, 55, false), []⟩,
    ⟨some 57, .load (.int .i64), [.t 56], some (4, 55, false), []⟩,
    ⟨some 58, .call 32, [.t 57], some (4, 55, false), []⟩,
    ⟨some 59, .not, [.t 58], some (4, 55, false), []⟩,
    ⟨some 60, .pick, [.t 55, .bool true, .t 59], none, []⟩,
    ⟨some 61, .mv, [.t 60], none, []⟩,
    ⟨some 62, .faddr 9 (.int .i64), [.t 7], some (10, 61, false), []⟩,
    ⟨some 63, .load (.int .i64), [.t 62], some (10, 61, false), []⟩,
    ⟨some 64, .call 32, [.t 63], some (10, 61, false), []⟩,
    ⟨some 65, .not, [.t 64], some (10, 61, false), []⟩,
    ⟨some 66, .pick, [.t 61, .bool true, .t 65], none, []⟩,
    ⟨some 67, .mv, [.t 66], none, []⟩,
    ⟨some 68, .mv, [.t 0], some (16, 67, false), []⟩,
    ⟨some 69, .mv, [.t 5], some (16, 67, false), []⟩,
    ⟨some 70, .iaddr (.st (.cons (.int .i64) .bool)), [.t 68, .t 69], some (16, 67, false), []⟩,
    ⟨some 71, .faddr 1 .bool, [.t 70], some (16, 67, false), []⟩,
    ⟨some 72, .load .bool, [.t 71], some (16, 67, false), []⟩,
    ⟨some 73, .mv, [.t 72], some (16, 67, false), []⟩,
    ⟨some 74, .mv, [.t 0], some (22, 73, true), []⟩,
    ⟨some 75, .mv, [.t 6], some (22, 73, true), []⟩,
    ⟨some 76, .call 19, [.t 74, .t 75, .bool false], some (22, 73, true), []⟩,
    ⟨some 77, .mv, [.t 5], some (22, 73, true), []⟩,
    ⟨some 78, .bin .leq, [.t 76, .t 77], some (22, 73, true), []⟩,
    ⟨some 79, .pick, [.t 73, .t 78, .bool false], some (16, 67, false), []⟩,
    ⟨some 80, .pick, [.t 67, .bool true, .t 79], none, []⟩])
  (.cond (.t 80)
   (.seq (.reg false [
     ⟨some 4, .mv, [.bool false], none, []⟩])
   .ret)
   .skip))))))))
 (.clean (.reg false [
   ⟨some 20, .mv, [.t 5], none, []⟩,
   ⟨some 21, .bin .add, [.t 20, .int .i64 1], none, []⟩,
   ⟨some 5, .mv, [.t 21], none, []⟩]))))
def x16_0d : List Nat := [4, 5, 6, 7]
def x16 : XF := ⟨81, [.tmp 4], [0, 1, 4, 5, 6, 7],
 (.seq (.reg false [
   ⟨some 4, .mv, [.bool false], none, []⟩])
 (.seq (.seq (.reg false [
   ⟨some 8, .mv, [.t 0], none, []⟩,
   ⟨some 9, .len false, [.t 8], none, []⟩,
   ⟨some 10, .bin .gtr, [.t 9, .int .i64 80], none, []⟩,
   ⟨some 11, .mv, [.t 10], none, []⟩,
   ⟨some 12, .mv, [.t 1], some (3, 11, false), []⟩,
   ⟨some 13, .len false, [.t 12], some (3, 11, false), []⟩,
   ⟨some 14, .bin .gtr, [.t 13, .int .i64 30000], some (3, 11, false), []⟩,
   ⟨some 15, .pick, [.t 11, .bool true, .t 14], none, []⟩])
 (.cond (.t 15)
  (.seq (.reg false [
    ⟨some 4, .mv, [.bool false], none, []⟩])
  .ret)
  .skip))
 (.clean (.seq (.seq (.reg false [
   ⟨some 5, .mv, [.int .i64 0], none, []⟩])
 (.block 0 (.loop x16_0)))
 (.seq (.reg false [
   ⟨some 4, .mv, [.bool true], none, []⟩])
 .ret)))))⟩
/- 0=stops 1=requests 4= 5=i 6=k 7=r -/
/-! tonneau/load.Together -/
def x17_0 : XC := (.seq (.reg false [
   ⟨some 18, .bin .lss, [.t 17, .t 16], none, []⟩])
 (.seq (.cond (.t 18)
  .skip
  (.exit 0))
 (.seq (.block 1 (.seq (.reg false [
    ⟨some 19, .iaddr (.st (.cons (.int .i64) (.cons (.int .i64) .bool))), [.t 15, .t 17], none, []⟩,
    ⟨some 20, .load (.st (.cons (.int .i64) (.cons (.int .i64) .bool))), [.t 19], none, []⟩,
    ⟨some 8, .alloc 52 (.st (.cons (.int .i64) (.cons (.int .i64) .bool))), [], none, []⟩,
    ⟨none, .store (.st (.cons (.int .i64) (.cons (.int .i64) .bool))), [.t 8, .t 20], none, []⟩])
  (.seq (.reg false [
    ⟨some 9, .alloc 4 .bool, [], none, []⟩,
    ⟨some 10, .alloc 4 .bool, [], none, []⟩,
    ⟨none, .store .bool, [.t 9, .bool false], none, []⟩,
    ⟨none, .store .bool, [.t 10, .bool false], none, []⟩])
  (.seq (.icall false [
    ⟨some 21, .mv, [.t 1], none, []⟩,
    ⟨some 22, .mkfn 36, [.t 8, .t 5, .t 9, .t 10], none, []⟩] ⟨some 23, .callv, [.fn 35, .t 21, .t 22], none, []⟩ [] 35 x35.n x35.res x35.kv x35.code)
  (.seq (.reg false [
    ⟨some 24, .faddr 2 .bool, [.t 8], none, []⟩,
    ⟨some 25, .load .bool, [.t 24], none, []⟩,
    ⟨some 26, .mv, [.t 25], none, []⟩,
    ⟨some 27, .load .bool, [.t 9], some (2, 26, true), []⟩,
    ⟨some 28, .pick, [.t 26, .t 27, .bool false], none, []⟩,
    ⟨some 29, .mv, [.t 28], none, []⟩,
    ⟨some 30, .load .bool, [.t 10], some (5, 29, true), []⟩,
    ⟨some 31, .not, [.t 30], some (5, 29, true), []⟩,
    ⟨some 32, .pick, [.t 29, .t 31, .bool false], none, []⟩,
    ⟨some 33, .mv, [.t 32], none, []⟩,
    ⟨some 34, .faddr 2 .bool, [.t 8], some (9, 33, false), []⟩,
    ⟨some 35, .load .bool, [.t 34], some (9, 33, false), []⟩,
    ⟨some 36, .not, [.t 35], some (9, 33, false), []⟩,
    ⟨some 37, .mv, [.t 36], some (9, 33, false), []⟩,
    ⟨some 38, .load .bool, [.t 10], some (13, 37, true), []⟩,
    ⟨some 39, .pick, [.t 37, .t 38, .bool false], some (9, 33, false), []⟩,
    ⟨some 40, .pick, [.t 33, .bool true, .t 39], none, []⟩])
  (.cond (.t 40)
   (.seq (.reg false [
     ⟨some 6, .mv, [.bool false], none, []⟩])
   .ret)
   .skip))))))
 (.reg false [
   ⟨some 41, .bin .add, [.t 17, .int .i64 1], none, []⟩,
   ⟨some 17, .mv, [.t 41], none, []⟩]))))
def x17_0d : List Nat := [6, 8, 9, 10, 17]
def x17 : XF := ⟨42, [.tmp 6], [0, 1, 2, 5, 6, 8, 9, 10, 15, 16, 17],
 (.seq (.reg false [
   ⟨some 5, .box 26, [.t 2], none, []⟩,
   ⟨some 6, .mv, [.bool false], none, []⟩])
 (.seq (.seq (.reg false [
   ⟨some 11, .mv, [.t 1], none, []⟩,
   ⟨some 12, .load (.sl (.st (.cons (.int .i64) (.cons (.int .i64) (.cons (.int .i64) (.cons (.int .i64) (.cons (.int .i64) (.cons (.int .i64) (.cons (.int .i64) (.cons (.int .i64) (.cons (.int .i64) (.int .i64)))))))))))), [.t 5], none, []⟩,
   ⟨some 13, .call 15, [.t 11, .t 12], none, []⟩,
   ⟨some 14, .not, [.t 13], none, []⟩])
 (.cond (.t 14)
  (.seq (.reg false [
    ⟨some 6, .mv, [.bool false], none, []⟩])
  .ret)
  .skip))
 (.clean (.seq (.seq (.reg false [
   ⟨some 15, .mv, [.t 0], none, []⟩,
   ⟨some 16, .len false, [.t 15], none, []⟩,
   ⟨some 17, .mv, [.int .i64 0], none, []⟩])
 (.block 0 (.loop x17_0)))
 (.seq (.reg false [
   ⟨some 6, .mv, [.bool true], none, []⟩])
 .ret)))))⟩
/- 0=pairs 1=stops 2=requests 5=requests 6= 8=p 9=some 10=both 15= 16= 17= -/
/-! tonneau/tonneauref17.Together -/
def x18_1 : XC := (.seq (.seq (.reg false [
   ⟨some 23, .mv, [.t 10], none, []⟩,
   ⟨some 24, .mv, [.t 1], none, []⟩,
   ⟨some 25, .len false, [.t 24], none, []⟩,
   ⟨some 26, .bin .leq, [.t 23, .t 25], none, []⟩])
 (.cond (.t 26)
  .skip
  (.exit 2)))
 (.seq (.block 3 (.seq (.reg false [
    ⟨some 29, .mv, [.t 1], none, []⟩,
    ⟨some 30, .mv, [.t 2], none, []⟩,
    ⟨some 31, .mv, [.t 0], none, []⟩,
    ⟨some 32, .mv, [.t 7], none, []⟩,
    ⟨some 33, .iaddr (.st (.cons (.int .i64) (.cons (.int .i64) .bool))), [.t 31, .t 32], none, []⟩,
    ⟨some 34, .faddr 0 (.int .i64), [.t 33], none, []⟩,
    ⟨some 35, .load (.int .i64), [.t 34], none, []⟩,
    ⟨some 36, .mv, [.t 10], none, []⟩,
    ⟨some 37, .call 23, [.t 29, .t 30, .t 35, .t 36], none, []⟩,
    ⟨some 11, .mv, [.t 37], none, []⟩])
  (.clean (.seq (.reg false [
    ⟨some 38, .mv, [.t 1], none, []⟩,
    ⟨some 39, .mv, [.t 2], none, []⟩,
    ⟨some 40, .mv, [.t 0], none, []⟩,
    ⟨some 41, .mv, [.t 7], none, []⟩,
    ⟨some 42, .iaddr (.st (.cons (.int .i64) (.cons (.int .i64) .bool))), [.t 40, .t 41], none, []⟩,
    ⟨some 43, .faddr 1 (.int .i64), [.t 42], none, []⟩,
    ⟨some 44, .load (.int .i64), [.t 43], none, []⟩,
    ⟨some 45, .mv, [.t 10], none, []⟩,
    ⟨some 46, .call 23, [.t 38, .t 39, .t 44, .t 45], none, []⟩,
    ⟨some 12, .mv, [.t 46], none, []⟩])
  (.clean (.seq (.reg false [
    ⟨some 47, .mv, [.t 8], none, []⟩,
    ⟨some 48, .mv, [.t 47], none, []⟩,
    ⟨some 49, .mv, [.t 11], some (1, 48, false), []⟩,
    ⟨some 50, .pick, [.t 48, .bool true, .t 49], none, []⟩,
    ⟨some 51, .mv, [.t 50], none, []⟩,
    ⟨some 52, .mv, [.t 12], some (4, 51, false), []⟩,
    ⟨some 53, .pick, [.t 51, .bool true, .t 52], none, []⟩,
    ⟨some 8, .mv, [.t 53], none, []⟩])
  (.clean (.reg false [
    ⟨some 54, .mv, [.t 9], none, []⟩,
    ⟨some 55, .mv, [.t 54], none, []⟩,
    ⟨some 56, .mv, [.t 11], some (1, 55, false), []⟩,
    ⟨some 57, .mv, [.t 56], some (1, 55, false), []⟩,
    ⟨some 58, .mv, [.t 12], some (3, 57, true), []⟩,
    ⟨some 59, .pick, [.t 57, .t 58, .bool false], some (1, 55, false), []⟩,
    ⟨some 60, .pick, [.t 55, .bool true, .t 59], none, []⟩,
    ⟨some 9, .mv, [.t 60], none, []⟩]))))))))
 (.clean (.reg false [
   ⟨some 27, .mv, [.t 10], none, []⟩,
   ⟨some 28, .bin .add, [.t 27, .int .i64 1], none, []⟩,
   ⟨some 10, .mv, [.t 28], none, []⟩]))))
def x18_1d : List Nat := [8, 9, 10, 11, 12]
def x18_0 : XC := (.seq (.seq (.reg false [
   ⟨some 17, .mv, [.t 7], none, []⟩,
   ⟨some 18, .mv, [.t 0], none, []⟩,
   ⟨some 19, .len false, [.t 18], none, []⟩,
   ⟨some 20, .bin .lss, [.t 17, .t 19], none, []⟩])
 (.cond (.t 20)
  .skip
  (.exit 0)))
 (.seq (.block 1 (.seq (.reg false [
    ⟨some 8, .mv, [.bool false], none, []⟩])
  (.seq (.reg false [
    ⟨some 9, .mv, [.bool false], none, []⟩])
  (.seq (.seq (.reg false [
    ⟨some 10, .mv, [.int .i64 0], none, []⟩])
  (.block 2 (.loop x18_1)))
  (.clean (.seq (.reg false [
    ⟨some 61, .mv, [.t 9], none, []⟩,
    ⟨some 62, .mv, [.t 0], none, []⟩,
    ⟨some 63, .mv, [.t 7], none, []⟩,
    ⟨some 64, .iaddr (.st (.cons (.int .i64) (.cons (.int .i64) .bool))), [.t 62, .t 63], none, []⟩,
    ⟨some 65, .faddr 2 .bool, [.t 64], none, []⟩,
    ⟨some 66, .load .bool, [.t 65], none, []⟩,
    ⟨some 67, .beq true .bool, [.t 61, .t 66], none, []⟩,
    ⟨some 68, .mv, [.t 67], none, []⟩,
    ⟨some 69, .mv, [.t 9], some (7, 68, true), []⟩,
    ⟨some 70, .mv, [.t 69], some (7, 68, true), []⟩,
    ⟨some 71, .mv, [.t 8], some (9, 70, false), []⟩,
    ⟨some 72, .pick, [.t 70, .bool true, .t 71], some (7, 68, true), []⟩,
    ⟨some 73, .pick, [.t 68, .t 72, .bool false], none, []⟩])
  (.cond (.t 73)
   (.seq (.reg false [
     ⟨some 6, .mv, [.bool false], none, []⟩])
   .ret)
   .skip)))))))
 (.clean (.reg false [
   ⟨some 21, .mv, [.t 7], none, []⟩,
   ⟨some 22, .bin .add, [.t 21, .int .i64 1], none, []⟩,
   ⟨some 7, .mv, [.t 22], none, []⟩]))))
def x18_0d : List Nat := [6, 7, 8, 9, 10, 11, 12]
def x18 : XF := ⟨74, [.tmp 6], [0, 1, 2, 6, 7, 8, 9, 10, 11, 12],
 (.seq (.reg false [
   ⟨some 6, .mv, [.bool false], none, []⟩])
 (.seq (.seq (.reg false [
   ⟨some 13, .mv, [.t 1], none, []⟩,
   ⟨some 14, .mv, [.t 2], none, []⟩,
   ⟨some 15, .call 16, [.t 13, .t 14], none, []⟩,
   ⟨some 16, .not, [.t 15], none, []⟩])
 (.cond (.t 16)
  (.seq (.reg false [
    ⟨some 6, .mv, [.bool false], none, []⟩])
  .ret)
  .skip))
 (.clean (.seq (.seq (.reg false [
   ⟨some 7, .mv, [.int .i64 0], none, []⟩])
 (.block 0 (.loop x18_0)))
 (.seq (.reg false [
   ⟨some 6, .mv, [.bool true], none, []⟩])
 .ret)))))⟩
/- 0=pairs 1=stops 2=requests 6= 7=i 8=some 9=both 10=k 11=a 12=b -/
/-! tonneau/tonneauref17.At -/
def x19_0 : XC := (.seq (.seq (.reg false [
   ⟨some 8, .mv, [.t 7], none, []⟩,
   ⟨some 9, .mv, [.t 0], none, []⟩,
   ⟨some 10, .len false, [.t 9], none, []⟩,
   ⟨some 11, .bin .lss, [.t 8, .t 10], none, []⟩])
 (.cond (.t 11)
  .skip
  (.exit 0)))
 (.seq (.block 1 (.seq (.reg false [
    ⟨some 14, .mv, [.t 0], none, []⟩,
    ⟨some 15, .mv, [.t 7], none, []⟩,
    ⟨some 16, .iaddr (.st (.cons (.int .i64) .bool)), [.t 14, .t 15], none, []⟩,
    ⟨some 17, .faddr 0 (.int .i64), [.t 16], none, []⟩,
    ⟨some 18, .load (.int .i64), [.t 17], none, []⟩,
    ⟨some 19, .mv, [.t 1], none, []⟩,
    ⟨some 20, .bin .eql, [.t 18, .t 19], none, []⟩,
    ⟨some 21, .mv, [.t 20], none, []⟩,
    ⟨some 22, .mv, [.t 0], some (7, 21, true), []⟩,
    ⟨some 23, .mv, [.t 7], some (7, 21, true), []⟩,
    ⟨some 24, .iaddr (.st (.cons (.int .i64) .bool)), [.t 22, .t 23], some (7, 21, true), []⟩,
    ⟨some 25, .faddr 1 .bool, [.t 24], some (7, 21, true), []⟩,
    ⟨some 26, .load .bool, [.t 25], some (7, 21, true), []⟩,
    ⟨some 27, .mv, [.t 2], some (7, 21, true), []⟩,
    ⟨some 28, .beq false .bool, [.t 26, .t 27], some (7, 21, true), []⟩,
    ⟨some 29, .pick, [.t 21, .t 28, .bool false], none, []⟩])
  (.cond (.t 29)
   (.seq (.reg false [
     ⟨some 30, .mv, [.t 7], none, []⟩,
     ⟨some 6, .mv, [.t 30], none, []⟩])
   .ret)
   .skip)))
 (.clean (.reg false [
   ⟨some 12, .mv, [.t 7], none, []⟩,
   ⟨some 13, .bin .add, [.t 12, .int .i64 1], none, []⟩,
   ⟨some 7, .mv, [.t 13], none, []⟩]))))
def x19_0d : List Nat := [6, 7]
def x19 : XF := ⟨31, [.tmp 6], [0, 1, 2, 6, 7],
 (.seq (.reg false [
   ⟨some 6, .mv, [.int .i64 0], none, []⟩])
 (.seq (.seq (.reg false [
   ⟨some 7, .mv, [.int .i64 0], none, []⟩])
 (.block 0 (.loop x19_0)))
 (.seq (.reg false [
   ⟨some 6, .mv, [.int .i64 (-1)], none, []⟩])
 .ret)))⟩
/- 0=stops 1=request 2=pick 6= 7=i -/
/-! tonneau/tonneaulaw17.between -/
def x20 : XF := ⟨19, [.tmp 6], [0, 1, 2, 5, 6],
 (.seq (.reg false [
   ⟨some 5, .box 44, [.t 2], none, []⟩,
   ⟨some 6, .nilrow 44 (.st (.cons (.int .i64) .bool)), [], none, []⟩])
 (.seq (.reg true [
   ⟨some 7, .bslice 44 (.st (.cons (.int .i64) .bool)) 0 [], [], none, []⟩,
   ⟨some 8, .mv, [.t 0], none, []⟩,
   ⟨some 9, .mv, [.t 1], none, []⟩,
   ⟨some 10, .slice (.st (.cons (.int .i64) .bool)) false true false, [.t 8, .t 9], none, [1, 2]⟩,
   ⟨some 11, .append 44 (.st (.cons (.int .i64) .bool)) 16, [.t 7, .t 10], none, [0, 3, 1, 2]⟩,
   ⟨some 12, .load (.st (.cons (.int .i64) .bool)), [.t 5], none, []⟩,
   ⟨some 13, .bslice 44 (.st (.cons (.int .i64) .bool)) 1 [0], [.t 12], none, [5]⟩,
   ⟨some 14, .append 44 (.st (.cons (.int .i64) .bool)) 16, [.t 11, .t 13], none, [4, 0, 3, 1, 2, 6, 5]⟩,
   ⟨some 15, .mv, [.t 0], none, []⟩,
   ⟨some 16, .mv, [.t 1], none, []⟩,
   ⟨some 17, .slice (.st (.cons (.int .i64) .bool)) true false false, [.t 15, .t 16], none, [8, 9]⟩,
   ⟨some 18, .append 44 (.st (.cons (.int .i64) .bool)) 16, [.t 14, .t 17], none, [7, 4, 0, 3, 1, 2, 6, 5, 10, 8, 9]⟩,
   ⟨some 6, .mv, [.t 18], none, [11, 7, 4, 0, 3, 1, 2, 6, 5, 10, 8, 9]⟩])
 .ret))⟩
/- 0=stops 1=at 2=s 5=s 6= -/
/-! tonneau/tonneaulaw17.drop -/
def x21 : XF := ⟨5, [.cell 2 (.st (.cons (.int .i64) .bool))], [0, 2],
 (.seq (.reg false [
   ⟨some 2, .alloc 44 (.st (.cons (.int .i64) .bool)), [], none, []⟩])
 (.seq (.reg false [
   ⟨some 3, .mv, [.t 0], none, []⟩,
   ⟨some 4, .build (.st (.cons (.int .i64) .bool)) [(0, (.int .i64))], [.t 3], none, []⟩,
   ⟨none, .store (.st (.cons (.int .i64) .bool)), [.t 2, .t 4], none, []⟩])
 .ret))⟩
/- 0=n 2= -/
/-! tonneau/tonneaulaw17.pick -/
def x22 : XF := ⟨5, [.cell 2 (.st (.cons (.int .i64) .bool))], [0, 2],
 (.seq (.reg false [
   ⟨some 2, .alloc 44 (.st (.cons (.int .i64) .bool)), [], none, []⟩])
 (.seq (.reg false [
   ⟨some 3, .mv, [.t 0], none, []⟩,
   ⟨some 4, .build (.st (.cons (.int .i64) .bool)) [(0, (.int .i64)), (1, .bool)], [.t 3, .bool true], none, []⟩,
   ⟨none, .store (.st (.cons (.int .i64) .bool)), [.t 2, .t 4], none, []⟩])
 .ret))⟩
/- 0=n 2= -/
/-! tonneau/tonneauref17.Rides -/
def x23_0 : XC := (.seq (.seq (.reg false [
   ⟨some 10, .mv, [.t 9], none, []⟩,
   ⟨some 11, .mv, [.t 1], none, []⟩,
   ⟨some 12, .len false, [.t 11], none, []⟩,
   ⟨some 13, .bin .lss, [.t 10, .t 12], none, []⟩])
 (.cond (.t 13)
  .skip
  (.exit 0)))
 (.seq (.block 1 (.seq (.reg false [
    ⟨some 16, .mv, [.t 1], none, []⟩,
    ⟨some 17, .mv, [.t 9], none, []⟩,
    ⟨some 18, .iaddr (.st (.cons (.int .i64) (.cons (.int .i64) (.cons (.int .i64) (.cons (.int .i64) (.cons (.int .i64) (.cons (.int .i64) (.cons (.int .i64) (.cons (.int .i64) (.cons (.int .i64) (.int .i64))))))))))), [.t 16, .t 17], none, []⟩,
    ⟨some 19, .faddr 0 (.int .i64), [.t 18], none, []⟩,
    ⟨some 20, .load (.int .i64), [.t 19], none, []⟩,
    ⟨some 21, .mv, [.t 2], none, []⟩,
    ⟨some 22, .bin .eql, [.t 20, .t 21], none, []⟩,
    ⟨some 23, .mv, [.t 22], none, []⟩,
    ⟨some 24, .mv, [.t 0], some (7, 23, true), []⟩,
    ⟨some 25, .mv, [.t 9], some (7, 23, true), []⟩,
    ⟨some 26, .mv, [.t 3], some (7, 23, true), []⟩,
    ⟨some 27, .call 24, [.t 24, .t 25, .t 26], some (7, 23, true), []⟩,
    ⟨some 28, .pick, [.t 23, .t 27, .bool false], none, []⟩])
  (.cond (.t 28)
   (.seq (.reg false [
     ⟨some 8, .mv, [.bool true], none, []⟩])
   .ret)
   .skip)))
 (.clean (.reg false [
   ⟨some 14, .mv, [.t 9], none, []⟩,
   ⟨some 15, .bin .add, [.t 14, .int .i64 1], none, []⟩,
   ⟨some 9, .mv, [.t 15], none, []⟩]))))
def x23_0d : List Nat := [8, 9]
def x23 : XF := ⟨29, [.tmp 8], [0, 1, 2, 3, 8, 9],
 (.seq (.reg false [
   ⟨some 8, .mv, [.bool false], none, []⟩])
 (.seq (.seq (.reg false [
   ⟨some 9, .mv, [.int .i64 0], none, []⟩])
 (.block 0 (.loop x23_0)))
 (.seq (.reg false [
   ⟨some 8, .mv, [.bool false], none, []⟩])
 .ret)))⟩
/- 0=stops 1=requests 2=member 3=many 8= 9=i -/
/-! tonneau/tonneauref17.In -/
def x24 : XF := ⟨21, [.tmp 6], [0, 1, 2, 6, 7],
 (.seq (.reg false [
   ⟨some 6, .mv, [.bool false], none, []⟩])
 (.seq (.reg false [
   ⟨some 8, .mv, [.t 0], none, []⟩,
   ⟨some 9, .mv, [.t 1], none, []⟩,
   ⟨some 10, .call 19, [.t 8, .t 9, .bool false], none, []⟩,
   ⟨some 7, .mv, [.t 10], none, []⟩])
 (.seq (.reg false [
   ⟨some 11, .mv, [.t 0], none, []⟩,
   ⟨some 12, .mv, [.t 1], none, []⟩,
   ⟨some 13, .call 19, [.t 11, .t 12, .bool true], none, []⟩,
   ⟨some 14, .mv, [.t 2], none, []⟩,
   ⟨some 15, .bin .lss, [.t 13, .t 14], none, []⟩,
   ⟨some 16, .mv, [.t 15], none, []⟩,
   ⟨some 17, .mv, [.t 7], some (5, 16, true), []⟩,
   ⟨some 18, .mv, [.t 2], some (5, 16, true), []⟩,
   ⟨some 19, .bin .geq, [.t 17, .t 18], some (5, 16, true), []⟩,
   ⟨some 20, .pick, [.t 16, .t 19, .bool false], none, []⟩,
   ⟨some 6, .mv, [.t 20], none, []⟩])
 .ret)))⟩
/- 0=stops 1=request 2=many 6= 7=drop -/
/-! (tonneau/load.cabin).load -/
def x27_0 : XC := (.seq (.nxt 10 9 [⟨some 11, .extract 0, [.t 10], none, []⟩])
 (.seq (.cond (.t 11)
  .skip
  (.exit 0))
 (.block 1 (.seq (.reg false [
    ⟨some 12, .entry, [.t 9], none, []⟩,
    ⟨some 13, .extract 0, [.t 12], none, []⟩,
    ⟨some 6, .mv, [.t 13], none, []⟩])
  (.seq (.reg false [
    ⟨some 14, .mv, [.t 1], none, []⟩,
    ⟨some 15, .mv, [.t 6], none, []⟩,
    ⟨some 16, .iaddr (.st (.cons (.int .i64) (.cons (.int .i64) (.cons (.int .i64) (.cons (.int .i64) (.cons (.int .i64) (.cons (.int .i64) (.cons (.int .i64) (.cons (.int .i64) (.cons (.int .i64) (.int .i64))))))))))), [.t 14, .t 15], none, []⟩,
    ⟨some 17, .load (.st (.cons (.int .i64) (.cons (.int .i64) (.cons (.int .i64) (.cons (.int .i64) (.cons (.int .i64) (.cons (.int .i64) (.cons (.int .i64) (.cons (.int .i64) (.cons (.int .i64) (.int .i64))))))))))), [.t 16], none, []⟩,
    ⟨some 18, .call 33, [.t 17], none, []⟩,
    ⟨some 7, .alloc 42 (.st (.cons (.int .i64) (.cons (.int .i64) (.int .i64)))), [], none, []⟩,
    ⟨none, .store (.st (.cons (.int .i64) (.cons (.int .i64) (.int .i64)))), [.t 7, .t 18], none, []⟩])
  (.clean (.seq (.reg false [
    ⟨some 19, .faddr 0 (.int .i64), [.t 5], none, []⟩,
    ⟨some 20, .load (.int .i64), [.t 19], none, []⟩,
    ⟨some 21, .faddr 0 (.int .i64), [.t 7], none, []⟩,
    ⟨some 22, .load (.int .i64), [.t 21], none, []⟩,
    ⟨some 23, .bin .add, [.t 20, .t 22], none, []⟩,
    ⟨some 24, .faddr 0 (.int .i64), [.t 5], none, []⟩,
    ⟨none, .store (.int .i64), [.t 24, .t 23], none, []⟩])
  (.clean (.seq (.reg false [
    ⟨some 25, .faddr 1 (.int .i64), [.t 5], none, []⟩,
    ⟨some 26, .load (.int .i64), [.t 25], none, []⟩,
    ⟨some 27, .faddr 1 (.int .i64), [.t 7], none, []⟩,
    ⟨some 28, .load (.int .i64), [.t 27], none, []⟩,
    ⟨some 29, .bin .add, [.t 26, .t 28], none, []⟩,
    ⟨some 30, .faddr 1 (.int .i64), [.t 5], none, []⟩,
    ⟨none, .store (.int .i64), [.t 30, .t 29], none, []⟩])
  (.clean (.reg false [
    ⟨some 31, .faddr 2 (.int .i64), [.t 5], none, []⟩,
    ⟨some 32, .load (.int .i64), [.t 31], none, []⟩,
    ⟨some 33, .faddr 2 (.int .i64), [.t 7], none, []⟩,
    ⟨some 34, .load (.int .i64), [.t 33], none, []⟩,
    ⟨some 35, .bin .add, [.t 32, .t 34], none, []⟩,
    ⟨some 36, .faddr 2 (.int .i64), [.t 5], none, []⟩,
    ⟨none, .store (.int .i64), [.t 36, .t 35], none, []⟩])))))))))))
def x27_0d : List Nat := [6, 7]
def x27 : XF := ⟨38, [.cell 4 (.st (.cons (.int .i64) (.cons (.int .i64) (.int .i64))))], [0, 1, 4, 5, 6, 7, 9],
 (.seq (.reg false [
   ⟨some 4, .alloc 42 (.st (.cons (.int .i64) (.cons (.int .i64) (.int .i64)))), [], none, []⟩])
 (.seq (.reg false [
   ⟨some 5, .alloc 42 (.st (.cons (.int .i64) (.cons (.int .i64) (.int .i64)))), [], none, []⟩])
 (.seq (.seq (.reg false [
   ⟨some 8, .mv, [.t 0], none, []⟩,
   ⟨some 9, .mrange .i64 .bool, [.t 8], none, []⟩])
 (.block 0 (.loop x27_0)))
 (.seq (.reg false [
   ⟨some 37, .load (.st (.cons (.int .i64) (.cons (.int .i64) (.int .i64)))), [.t 5], none, []⟩,
   ⟨none, .store (.st (.cons (.int .i64) (.cons (.int .i64) (.int .i64)))), [.t 4, .t 37], none, []⟩])
 .ret))))⟩
/- 0=c 1=requests 4= 5=sum 6=i 7=l 9= -/
/-! tonneau/tonneauref17.After -/
def x28_0 : XC := (.seq (.seq (.reg false [
   ⟨some 9, .mv, [.t 8], none, []⟩,
   ⟨some 10, .mv, [.t 1], none, []⟩,
   ⟨some 11, .len false, [.t 10], none, []⟩,
   ⟨some 12, .bin .lss, [.t 9, .t 11], none, []⟩])
 (.cond (.t 12)
  .skip
  (.exit 0)))
 (.seq (.block 1 (.seq (.reg false [
    ⟨some 15, .mv, [.t 0], none, []⟩,
    ⟨some 16, .mv, [.t 8], none, []⟩,
    ⟨some 17, .mv, [.t 2], none, []⟩,
    ⟨some 18, .call 24, [.t 15, .t 16, .t 17], none, []⟩])
  (.cond (.t 18)
   (.seq (.reg true [
     ⟨some 19, .faddr 0 (.int .i64), [.t 7], none, []⟩,
     ⟨some 20, .load (.int .i64), [.t 19], none, [0]⟩,
     ⟨some 21, .mv, [.t 1], none, []⟩,
     ⟨some 22, .mv, [.t 8], none, []⟩,
     ⟨some 23, .iaddr (.st (.cons (.int .i64) (.cons (.int .i64) (.cons (.int .i64) (.cons (.int .i64) (.cons (.int .i64) (.cons (.int .i64) (.cons (.int .i64) (.cons (.int .i64) (.cons (.int .i64) (.int .i64))))))))))), [.t 21, .t 22], none, [2, 3]⟩,
     ⟨some 24, .faddr 7 (.int .i64), [.t 23], none, [4, 2, 3]⟩,
     ⟨some 25, .load (.int .i64), [.t 24], none, [5, 4, 2, 3]⟩,
     ⟨some 26, .bin .add, [.t 20, .t 25], none, [1, 0, 6, 5, 4, 2, 3]⟩,
     ⟨some 27, .faddr 0 (.int .i64), [.t 7], none, [0, 1, 2, 3, 4, 5, 6, 7]⟩,
     ⟨none, .store (.int .i64), [.t 27, .t 26], none, [8, 0, 1, 2, 3, 4, 5, 6, 7]⟩])
   (.clean (.seq (.reg true [
     ⟨some 28, .faddr 1 (.int .i64), [.t 7], none, []⟩,
     ⟨some 29, .load (.int .i64), [.t 28], none, [0]⟩,
     ⟨some 30, .mv, [.t 1], none, []⟩,
     ⟨some 31, .mv, [.t 8], none, []⟩,
     ⟨some 32, .iaddr (.st (.cons (.int .i64) (.cons (.int .i64) (.cons (.int .i64) (.cons (.int .i64) (.cons (.int .i64) (.cons (.int .i64) (.cons (.int .i64) (.cons (.int .i64) (.cons (.int .i64) (.int .i64))))))))))), [.t 30, .t 31], none, [2, 3]⟩,
     ⟨some 33, .faddr 8 (.int .i64), [.t 32], none, [4, 2, 3]⟩,
     ⟨some 34, .load (.int .i64), [.t 33], none, [5, 4, 2, 3]⟩,
     ⟨some 35, .bin .add, [.t 29, .t 34], none, [1, 0, 6, 5, 4, 2, 3]⟩,
     ⟨some 36, .faddr 1 (.int .i64), [.t 7], none, [0, 1, 2, 3, 4, 5, 6, 7]⟩,
     ⟨none, .store (.int .i64), [.t 36, .t 35], none, [8, 0, 1, 2, 3, 4, 5, 6, 7]⟩])
   (.clean (.reg true [
     ⟨some 37, .faddr 2 (.int .i64), [.t 7], none, []⟩,
     ⟨some 38, .load (.int .i64), [.t 37], none, [0]⟩,
     ⟨some 39, .mv, [.t 1], none, []⟩,
     ⟨some 40, .mv, [.t 8], none, []⟩,
     ⟨some 41, .iaddr (.st (.cons (.int .i64) (.cons (.int .i64) (.cons (.int .i64) (.cons (.int .i64) (.cons (.int .i64) (.cons (.int .i64) (.cons (.int .i64) (.cons (.int .i64) (.cons (.int .i64) (.int .i64))))))))))), [.t 39, .t 40], none, [2, 3]⟩,
     ⟨some 42, .faddr 9 (.int .i64), [.t 41], none, [4, 2, 3]⟩,
     ⟨some 43, .load (.int .i64), [.t 42], none, [5, 4, 2, 3]⟩,
     ⟨some 44, .bin .add, [.t 38, .t 43], none, [1, 0, 6, 5, 4, 2, 3]⟩,
     ⟨some 45, .faddr 2 (.int .i64), [.t 7], none, [0, 1, 2, 3, 4, 5, 6, 7]⟩,
     ⟨none, .store (.int .i64), [.t 45, .t 44], none, [8, 0, 1, 2, 3, 4, 5, 6, 7]⟩])))))
   .skip)))
 (.clean (.reg false [
   ⟨some 13, .mv, [.t 8], none, []⟩,
   ⟨some 14, .bin .add, [.t 13, .int .i64 1], none, []⟩,
   ⟨some 8, .mv, [.t 14], none, []⟩]))))
def x28_0d : List Nat := [8]
def x28 : XF := ⟨47, [.cell 6 (.st (.cons (.int .i64) (.cons (.int .i64) (.int .i64))))], [0, 1, 2, 6, 7, 8],
 (.seq (.reg false [
   ⟨some 6, .alloc 57 (.st (.cons (.int .i64) (.cons (.int .i64) (.int .i64)))), [], none, []⟩])
 (.seq (.reg false [
   ⟨some 7, .alloc 57 (.st (.cons (.int .i64) (.cons (.int .i64) (.int .i64)))), [], none, []⟩])
 (.seq (.seq (.reg false [
   ⟨some 8, .mv, [.int .i64 0], none, []⟩])
 (.block 0 (.loop x28_0)))
 (.seq (.reg false [
   ⟨some 46, .load (.st (.cons (.int .i64) (.cons (.int .i64) (.int .i64)))), [.t 7], none, []⟩,
   ⟨none, .store (.st (.cons (.int .i64) (.cons (.int .i64) (.int .i64)))), [.t 6, .t 46], none, []⟩])
 .ret))))⟩
/- 0=stops 1=requests 2=many 6= 7=sum 8=i -/
/-! tonneau/load.places -/
def x29 : XF := ⟨20, [.tmp 2], [0, 1, 2, 3],
 (.seq (.reg false [
   ⟨some 1, .box 42, [.t 0], none, []⟩,
   ⟨some 2, .mv, [.bool false], none, []⟩])
 (.seq (.reg false [
   ⟨some 3, .mv, [.fn 40], none, []⟩])
 (.seq (.reg false [
   ⟨some 4, .mv, [.t 3], none, []⟩,
   ⟨some 5, .faddr 0 (.int .i64), [.t 1], none, []⟩,
   ⟨some 6, .load (.int .i64), [.t 5], none, []⟩,
   ⟨some 7, .callv, [.t 4, .t 6], none, []⟩,
   ⟨some 8, .mv, [.t 7], none, []⟩,
   ⟨some 9, .mv, [.t 3], some (4, 8, true), []⟩,
   ⟨some 10, .faddr 1 (.int .i64), [.t 1], some (4, 8, true), []⟩,
   ⟨some 11, .load (.int .i64), [.t 10], some (4, 8, true), []⟩,
   ⟨some 12, .callv, [.t 9, .t 11], some (4, 8, true), []⟩,
   ⟨some 13, .pick, [.t 8, .t 12, .bool false], none, []⟩,
   ⟨some 14, .mv, [.t 13], none, []⟩,
   ⟨some 15, .mv, [.t 3], some (10, 14, true), []⟩,
   ⟨some 16, .faddr 2 (.int .i64), [.t 1], some (10, 14, true), []⟩,
   ⟨some 17, .load (.int .i64), [.t 16], some (10, 14, true), []⟩,
   ⟨some 18, .callv, [.t 15, .t 17], some (10, 14, true), []⟩,
   ⟨some 19, .pick, [.t 14, .t 18, .bool false], none, []⟩,
   ⟨some 2, .mv, [.t 19], none, []⟩])
 .ret)))⟩
/- 0=l 1=l 2= 3=fine -/
/-! slices.IndexFunc[[]tonneau/load.Load,tonneau/load.Load] -/
def x30_0 : XC := (.seq (.reg false [
   ⟨some 9, .bin .lss, [.t 8, .t 7], none, []⟩])
 (.seq (.cond (.t 9)
  .skip
  (.exit 0))
 (.seq (.block 1 (.seq (.reg false [
    ⟨some 10, .mv, [.t 8], none, []⟩,
    ⟨some 5, .mv, [.t 10], none, []⟩])
  (.seq (.reg false [
    ⟨some 11, .mv, [.t 1], none, []⟩,
    ⟨some 12, .mv, [.t 0], none, []⟩,
    ⟨some 13, .mv, [.t 5], none, []⟩,
    ⟨some 14, .iaddr (.st (.cons (.int .i64) (.cons (.int .i64) (.int .i64)))), [.t 12, .t 13], none, []⟩,
    ⟨some 15, .load (.st (.cons (.int .i64) (.cons (.int .i64) (.int .i64)))), [.t 14], none, []⟩,
    ⟨some 16, .callv, [.t 11, .t 15], none, []⟩])
  (.cond (.t 16)
   (.seq (.reg false [
     ⟨some 17, .mv, [.t 5], none, []⟩,
     ⟨some 4, .mv, [.t 17], none, []⟩])
   .ret)
   .skip))))
 (.reg false [
   ⟨some 18, .bin .add, [.t 8, .int .i64 1], none, []⟩,
   ⟨some 8, .mv, [.t 18], none, []⟩]))))
def x30_0d : List Nat := [4, 5, 8]
def x30 : XF := ⟨19, [.tmp 4], [0, 1, 4, 5, 7, 8],
 (.seq (.reg false [
   ⟨some 4, .mv, [.int .i64 0], none, []⟩])
 (.seq (.seq (.reg false [
   ⟨some 6, .mv, [.t 0], none, []⟩,
   ⟨some 7, .len false, [.t 6], none, []⟩,
   ⟨some 8, .mv, [.int .i64 0], none, []⟩])
 (.block 0 (.loop x30_0)))
 (.seq (.reg false [
   ⟨some 4, .mv, [.int .i64 (-1)], none, []⟩])
 .ret)))⟩
/- 0=s 1=f 4= 5=i 7= 8= -/
/-! tonneau/load.Fits$1 -/
def x31 : XF := ⟨23, [.tmp 3], [0, 1, 2, 3],
 (.seq (.reg false [
   ⟨some 2, .box 42, [.t 0], none, []⟩,
   ⟨some 3, .mv, [.bool false], none, []⟩])
 (.seq (.reg false [
   ⟨some 4, .faddr 0 (.int .i64), [.t 2], none, []⟩,
   ⟨some 5, .load (.int .i64), [.t 4], none, []⟩,
   ⟨some 6, .faddr 4 (.int .i64), [.t 1], none, []⟩,
   ⟨some 7, .load (.int .i64), [.t 6], none, []⟩,
   ⟨some 8, .bin .gtr, [.t 5, .t 7], none, []⟩,
   ⟨some 9, .mv, [.t 8], none, []⟩,
   ⟨some 10, .faddr 1 (.int .i64), [.t 2], some (5, 9, false), []⟩,
   ⟨some 11, .load (.int .i64), [.t 10], some (5, 9, false), []⟩,
   ⟨some 12, .faddr 5 (.int .i64), [.t 1], some (5, 9, false), []⟩,
   ⟨some 13, .load (.int .i64), [.t 12], some (5, 9, false), []⟩,
   ⟨some 14, .bin .gtr, [.t 11, .t 13], some (5, 9, false), []⟩,
   ⟨some 15, .pick, [.t 9, .bool true, .t 14], none, []⟩,
   ⟨some 16, .mv, [.t 15], none, []⟩,
   ⟨some 17, .faddr 2 (.int .i64), [.t 2], some (12, 16, false), []⟩,
   ⟨some 18, .load (.int .i64), [.t 17], some (12, 16, false), []⟩,
   ⟨some 19, .faddr 6 (.int .i64), [.t 1], some (12, 16, false), []⟩,
   ⟨some 20, .load (.int .i64), [.t 19], some (12, 16, false), []⟩,
   ⟨some 21, .bin .gtr, [.t 18, .t 20], some (12, 16, false), []⟩,
   ⟨some 22, .pick, [.t 16, .bool true, .t 21], none, []⟩,
   ⟨some 3, .mv, [.t 22], none, []⟩])
 .ret))⟩
/- 0=x 1= 2=x 3= -/
/-! tonneau/tonneauref17.place -/
def x32 : XF := ⟨9, [.tmp 2], [0, 2],
 (.seq (.reg false [
   ⟨some 2, .mv, [.bool false], none, []⟩])
 (.seq (.reg false [
   ⟨some 3, .mv, [.t 0], none, []⟩,
   ⟨some 4, .bin .geq, [.t 3, .int .i64 0], none, []⟩,
   ⟨some 5, .mv, [.t 4], none, []⟩,
   ⟨some 6, .mv, [.t 0], some (2, 5, true), []⟩,
   ⟨some 7, .bin .leq, [.t 6, .int .i64 60], some (2, 5, true), []⟩,
   ⟨some 8, .pick, [.t 5, .t 7, .bool false], none, []⟩,
   ⟨some 2, .mv, [.t 8], none, []⟩])
 .ret))⟩
/- 0=n 2= -/
/-! tonneau/load.of -/
def x33 : XF := ⟨10, [.cell 2 (.st (.cons (.int .i64) (.cons (.int .i64) (.int .i64))))], [0, 1, 2],
 (.seq (.reg false [
   ⟨some 1, .box 46, [.t 0], none, []⟩,
   ⟨some 2, .alloc 42 (.st (.cons (.int .i64) (.cons (.int .i64) (.int .i64)))), [], none, []⟩])
 (.seq (.reg false [
   ⟨some 3, .faddr 7 (.int .i64), [.t 1], none, []⟩,
   ⟨some 4, .load (.int .i64), [.t 3], none, []⟩,
   ⟨some 5, .faddr 8 (.int .i64), [.t 1], none, []⟩,
   ⟨some 6, .load (.int .i64), [.t 5], none, []⟩,
   ⟨some 7, .faddr 9 (.int .i64), [.t 1], none, []⟩,
   ⟨some 8, .load (.int .i64), [.t 7], none, []⟩,
   ⟨some 9, .build (.st (.cons (.int .i64) (.cons (.int .i64) (.int .i64)))) [(0, (.int .i64)), (1, (.int .i64)), (2, (.int .i64))], [.t 4, .t 6, .t 8], none, []⟩,
   ⟨none, .store (.st (.cons (.int .i64) (.cons (.int .i64) (.int .i64)))), [.t 2, .t 9], none, []⟩])
 .ret))⟩
/- 0=r 1=r 2= -/
/-! slices.Contains[[]tonneau/api.Stop,tonneau/api.Stop] -/
def x34 : XF := ⟨9, [.tmp 4], [0, 1, 3, 4],
 (.seq (.reg false [
   ⟨some 3, .box 44, [.t 1], none, []⟩,
   ⟨some 4, .mv, [.bool false], none, []⟩])
 (.seq (.reg false [
   ⟨some 5, .mv, [.t 0], none, []⟩,
   ⟨some 6, .load (.st (.cons (.int .i64) .bool)), [.t 3], none, []⟩,
   ⟨some 7, .call 41, [.t 5, .t 6], none, []⟩,
   ⟨some 8, .bin .geq, [.t 7, .int .i64 0], none, []⟩,
   ⟨some 4, .mv, [.t 8], none, []⟩])
 .ret))⟩
/- 0=s 1=v 3=v 4= -/
/-! (tonneau/load.cabin).has -/
def x37_0 : XC := (.seq (.nxt 10 9 [⟨some 11, .extract 0, [.t 10], none, []⟩])
 (.seq (.cond (.t 11)
  .skip
  (.exit 0))
 (.block 1 (.seq (.reg false [
    ⟨some 12, .entry, [.t 9], none, []⟩,
    ⟨some 13, .extract 0, [.t 12], none, []⟩,
    ⟨some 7, .mv, [.t 13], none, []⟩])
  (.seq (.reg false [
    ⟨some 14, .mv, [.t 2], none, []⟩,
    ⟨some 15, .mv, [.t 7], none, []⟩,
    ⟨some 16, .iaddr (.st (.cons (.int .i64) (.cons (.int .i64) (.cons (.int .i64) (.cons (.int .i64) (.cons (.int .i64) (.cons (.int .i64) (.cons (.int .i64) (.cons (.int .i64) (.cons (.int .i64) (.int .i64))))))))))), [.t 14, .t 15], none, []⟩,
    ⟨some 17, .faddr 0 (.int .i64), [.t 16], none, []⟩,
    ⟨some 18, .load (.int .i64), [.t 17], none, []⟩,
    ⟨some 19, .mv, [.t 1], none, []⟩,
    ⟨some 20, .bin .eql, [.t 18, .t 19], none, []⟩])
  (.cond (.t 20)
   (.seq (.reg false [
     ⟨some 6, .mv, [.bool true], none, []⟩])
   .ret)
   .skip))))))
def x37_0d : List Nat := [6, 7]
def x37 : XF := ⟨21, [.tmp 6], [0, 1, 2, 6, 7, 9],
 (.seq (.reg false [
   ⟨some 6, .mv, [.bool false], none, []⟩])
 (.seq (.seq (.reg false [
   ⟨some 8, .mv, [.t 0], none, []⟩,
   ⟨some 9, .mrange .i64 .bool, [.t 8], none, []⟩])
 (.block 0 (.loop x37_0)))
 (.seq (.reg false [
   ⟨some 6, .mv, [.bool false], none, []⟩])
 .ret)))⟩
/- 0=c 1=member 2=requests 6= 7=i 9= -/
/-! tonneau/load.places$1 -/
def x40 : XF := ⟨9, [.tmp 2], [0, 2],
 (.seq (.reg false [
   ⟨some 2, .mv, [.bool false], none, []⟩])
 (.seq (.reg false [
   ⟨some 3, .mv, [.t 0], none, []⟩,
   ⟨some 4, .bin .leq, [.int .i64 0, .t 3], none, []⟩,
   ⟨some 5, .mv, [.t 4], none, []⟩,
   ⟨some 6, .mv, [.t 0], some (2, 5, true), []⟩,
   ⟨some 7, .bin .leq, [.t 6, .int .i64 60], some (2, 5, true), []⟩,
   ⟨some 8, .pick, [.t 5, .t 7, .bool false], none, []⟩,
   ⟨some 2, .mv, [.t 8], none, []⟩])
 .ret))⟩
/- 0=n 2= -/
/-! slices.Index[[]tonneau/api.Stop,tonneau/api.Stop] -/
def x41_0 : XC := (.seq (.reg false [
   ⟨some 9, .bin .lss, [.t 8, .t 7], none, []⟩])
 (.seq (.cond (.t 9)
  .skip
  (.exit 0))
 (.seq (.block 1 (.seq (.reg false [
    ⟨some 10, .mv, [.t 8], none, []⟩,
    ⟨some 5, .mv, [.t 10], none, []⟩])
  (.seq (.reg true [
    ⟨some 11, .load (.st (.cons (.int .i64) .bool)), [.t 3], none, []⟩,
    ⟨some 12, .mv, [.t 0], none, []⟩,
    ⟨some 13, .mv, [.t 5], none, []⟩,
    ⟨some 14, .iaddr (.st (.cons (.int .i64) .bool)), [.t 12, .t 13], none, [1, 2]⟩,
    ⟨some 15, .load (.st (.cons (.int .i64) .bool)), [.t 14], none, [3, 1, 2]⟩,
    ⟨some 16, .steq false (.st (.cons (.int .i64) .bool)), [.t 11, .t 15], none, [0, 4, 3, 1, 2]⟩])
  (.cond (.t 16)
   (.seq (.reg false [
     ⟨some 17, .mv, [.t 5], none, []⟩,
     ⟨some 4, .mv, [.t 17], none, []⟩])
   .ret)
   .skip))))
 (.reg false [
   ⟨some 18, .bin .add, [.t 8, .int .i64 1], none, []⟩,
   ⟨some 8, .mv, [.t 18], none, []⟩]))))
def x41_0d : List Nat := [4, 5, 8]
def x41 : XF := ⟨19, [.tmp 4], [0, 1, 3, 4, 5, 7, 8],
 (.seq (.reg false [
   ⟨some 3, .box 44, [.t 1], none, []⟩,
   ⟨some 4, .mv, [.int .i64 0], none, []⟩])
 (.seq (.seq (.reg false [
   ⟨some 6, .mv, [.t 0], none, []⟩,
   ⟨some 7, .len false, [.t 6], none, []⟩,
   ⟨some 8, .mv, [.int .i64 0], none, []⟩])
 (.block 0 (.loop x41_0)))
 (.seq (.reg false [
   ⟨some 4, .mv, [.int .i64 (-1)], none, []⟩])
 .ret)))⟩
/- 0=s 1=v 3=v 4= 5=i 7= 8= -/
end T
end Go.Proofs.Ytehdnoajohlkgaa
