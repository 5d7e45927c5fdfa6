/- Parts of the proof, merged (by a program): definitions and lemmas for the law; no condition. -/
import Derived.Test.YtecdcopihghnaaaGreatV5
section
set_option linter.unusedVariables false
namespace Go.Proofs.YtecdcopihghnaaaGreat
namespace T
def y78_1 (nE p:Nat) (kvB:List Nat) (xA xB:XC):XC:=(.seq (.reg false [
  ⟨some 13,.bin .lss,[.t 12,.t 11],none,[]⟩])
 (.seq (.cond (.t 13)
 .skip
 (.exit 2))
 (.seq (.block 3 (.seq (.reg false [
  ⟨some 14,.mv,[.t 12],none,[]⟩,
  ⟨some 15,.iaddr (.st (.cons (.int .i64) (.int .i64))),[.t 10,.t 12],none,[]⟩,
  ⟨some 16,.load (.st (.cons (.int .i64) (.int .i64))),[.t 15],none,[]⟩,
  ⟨some 6,.alloc 135 (.st (.cons (.int .i64) (.int .i64))),[],none,[]⟩,
  ⟨some 5,.mv,[.t 14],none,[]⟩,
  ⟨none,.store (.st (.cons (.int .i64) (.int .i64))),[.t 6,.t 16],none,[]⟩])
 (.seq (.reg true [
  ⟨some 17,.mv,[.t 0],none,[]⟩,
  ⟨some 18,.nilck,[.t 17],none,[0]⟩,
  ⟨some 19,.faddr 1 (.sl .bool),[.t 18],none,[1,0]⟩,
  ⟨some 20,.load (.sl .bool),[.t 19],none,[2,1,0]⟩,
  ⟨some 21,.mv,[.t 5],none,[]⟩,
  ⟨some 22,.iaddr .bool,[.t 20,.t 21],none,[3,2,1,0,4]⟩,
  ⟨some 23,.load .bool,[.t 22],none,[5,3,2,1,0,4]⟩,
  ⟨some 24,.not,[.t 23],none,[6,5,3,2,1,0,4]⟩,
  ⟨some 25,.mv,[.t 24],none,[7,6,5,3,2,1,0,4]⟩,
  ⟨some 26,.faddr 0 (.int .i64),[.t 6],some (8,25,true),[8,7,6,5,3,2,1,0,4]⟩,
  ⟨some 27,.load (.int .i64),[.t 26],some (8,25,true),[9,8,7,6,5,3,2,1,0,4]⟩,
  ⟨some 28,.bin .geq,[.t 27,.int .i64 0],some (8,25,true),[10,9,8,7,6,5,3,2,1,0,4]⟩,
  ⟨some 29,.pick,[.t 25,.t 28,.bool false],none,[8,7,6,5,3,2,1,0,4,11,10,9]⟩,
  ⟨some 30,.mv,[.t 29],none,[12,8,7,6,5,3,2,1,0,4,11,10,9]⟩,
  ⟨some 31,.mv,[.t 4],some (13,30,true),[13,12,8,7,6,5,3,2,1,0,4,11,10,9]⟩,
  ⟨some 32,.bin .lss,[.t 31,.int .i64 0],some (13,30,true),[14,13,12,8,7,6,5,3,2,1,0,4,11,10,9]⟩,
  ⟨some 33,.mv,[.t 32],some (13,30,true),[15,14,13,12,8,7,6,5,3,2,1,0,4,11,10,9]⟩,
  ⟨some 34,.mv,[.t 0],some (16,33,false),[16,15,14,13,12,8,7,6,5,3,2,1,0,4,11,10,9]⟩,
  ⟨some 35,.faddr 0 (.int .i64),[.t 6],some (16,33,false),[16,15,14,13,12,8,7,6,5,3,2,1,0,4,11,10,9]⟩,
  ⟨some 36,.load (.int .i64),[.t 35],some (16,33,false),[18,16,15,14,13,12,8,7,6,5,3,2,1,0,4,11,10,9]⟩,
  ⟨some 37,.mv,[.t 0],some (16,33,false),[16,15,14,13,12,8,7,6,5,3,2,1,0,4,11,10,9]⟩,
  ⟨some 38,.nilck,[.t 37],some (16,33,false),[20,16,15,14,13,12,8,7,6,5,3,2,1,0,4,11,10,9]⟩,
  ⟨some 39,.faddr 0 (.sl (.st (.cons (.int .i64) (.int .i64)))),[.t 38],some (16,33,false),[21,20,16,15,14,13,12,8,7,6,5,3,2,1,0,4,11,10,9]⟩,
  ⟨some 40,.load (.sl (.st (.cons (.int .i64) (.int .i64)))),[.t 39],some (16,33,false),[22,21,20,16,15,14,13,12,8,7,6,5,3,2,1,0,4,11,10,9]⟩,
  ⟨some 41,.mv,[.t 4],some (16,33,false),[16,15,14,13,12,8,7,6,5,3,2,1,0,4,11,10,9]⟩,
  ⟨some 42,.iaddr (.st (.cons (.int .i64) (.int .i64))),[.t 40,.t 41],some (16,33,false),[23,22,21,20,16,15,14,13,12,8,7,6,5,3,2,1,0,4,11,10,9,24]⟩,
  ⟨some 43,.faddr 0 (.int .i64),[.t 42],some (16,33,false),[25,23,22,21,20,16,15,14,13,12,8,7,6,5,3,2,1,0,4,11,10,9,24]⟩,
  ⟨some 44,.load (.int .i64),[.t 43],some (16,33,false),[26,25,23,22,21,20,16,15,14,13,12,8,7,6,5,3,2,1,0,4,11,10,9,24]⟩,
  ⟨some 45,.call 137,[.t 34,.t 36,.t 44],some (16,33,false),[17,16,15,14,13,12,8,7,6,5,3,2,1,0,4,11,10,9,19,18,27,26,25,23,22,21,20,24]⟩,
  ⟨some 46,.pick,[.t 33,.bool true,.t 45],some (13,30,true),[16,15,14,13,12,8,7,6,5,3,2,1,0,4,11,10,9,28,17,19,18,27,26,25,23,22,21,20,24]⟩,
  ⟨some 47,.pick,[.t 30,.t 46,.bool false],none,[13,12,8,7,6,5,3,2,1,0,4,11,10,9,29,16,15,14,28,17,19,18,27,26,25,23,22,21,20,24]⟩])
 (.cond (.t 47)
  (.reg false [
   ⟨some 48,.mv,[.t 5],none,[]⟩,
   ⟨some 4,.mv,[.t 48],none,[]⟩])
  .skip))))
 (.reg false [
  ⟨some 49,.bin .add,[.t 12,.int .i64 1],none,[]⟩,
  ⟨some 12,.mv,[.t 49],none,[]⟩]))))
def y78_1d:List Nat:=[4,5,6,12]
def y78_0 (nE p:Nat) (kvB:List Nat) (xA xB:XC):XC:=(.block 1 (.seq (.reg false [
  ⟨some 4,.mv,[.int .i64 (-1)],none,[]⟩])
 (.seq (.seq (.reg false [
  ⟨some 7,.mv,[.t 0],none,[]⟩,
  ⟨some 8,.nilck,[.t 7],none,[]⟩,
  ⟨some 9,.faddr 0 (.sl (.st (.cons (.int .i64) (.int .i64)))),[.t 8],none,[]⟩,
  ⟨some 10,.load (.sl (.st (.cons (.int .i64) (.int .i64)))),[.t 9],none,[]⟩,
  ⟨some 11,.len false,[.t 10],none,[]⟩,
  ⟨some 12,.mv,[.int .i64 0],none,[]⟩])
 (.clean (.block 2 (.loop (y78_1 nE p kvB xA xB)))))
 (.clean (.seq (.seq (.reg false [
  ⟨some 50,.mv,[.t 4],none,[]⟩,
  ⟨some 51,.bin .lss,[.t 50,.int .i64 0],none,[]⟩])
 (.cond (.t 51)
  .ret
  .skip))
 (.seq (.reg false [
  ⟨some 52,.mv,[.t 0],none,[]⟩,
  ⟨some 53,.nilck,[.t 52],none,[]⟩,
  ⟨some 54,.faddr 1 (.sl .bool),[.t 53],none,[]⟩,
  ⟨some 55,.load (.sl .bool),[.t 54],none,[]⟩,
  ⟨some 56,.mv,[.t 4],none,[]⟩,
  ⟨some 57,.iaddr .bool,[.t 55,.t 56],none,[]⟩,
  ⟨none,.store .bool,[.t 57,.bool true],none,[]⟩])
 (.clean (.seq (.yld [
  ⟨some 58,.mv,[.t 1],none,[]⟩,
  ⟨some 59,.mv,[.t 4],none,[]⟩] ⟨some 60,.callv,[.t 58,.t 59],none,[]⟩ [
  ⟨some 61,.not,[.t 60],none,[]⟩] 1 nE p kvB xA xB)
 (.cond (.t 61)
  .ret
  .skip)))))))))
def y78_0d:List Nat:=[4,5,6,10,11,12]
def y78 (nE p:Nat) (kvB:List Nat) (xA xB:XC):XC :=
 (.block 0 (.loop (y78_0 nE p kvB xA xB)))
def x77:XF:=let i:Ty:=.int .i64;let c:Ty:=.st (.cons i i);let b:Ty:=.sl c;let a:Ty:=.st (.cons b (.cons (.sl .bool) .bool));let v (d x:Nat):XO:=⟨some d,.mv,[.t x],none,[]⟩;let o (d:Nat) (p:XOp) (l:List XA):XO:=⟨some d,p,l,none,[]⟩;let t:=XA.t;⟨28,[.tmp 8],[0,1,2,3,8,9],(.seq (.reg false [o 8 .mv [.nilp]]) (.seq (.reg true [⟨some 10,.build c [(0,i),(1,i)],[.int .i64 (-1),.int .i64 (-1)],none,[]⟩,⟨some 11,.bslice 135 c 1 [0],[t 10],none,[0]⟩,v 12 0,⟨some 13,.call 136,[t 11,t 12],none,[1,0,2]⟩,v 14 0,⟨some 15,.mkslice 4 .bool 1,[t 14,t 14],none,[4]⟩,v 16 3,⟨some 17,.build a [(0,b),(1,(.sl .bool)),(2,.bool)],[t 13,t 15,t 16],none,[3,1,0,2,5,4,6]⟩,⟨some 18,.box 138,[t 17],none,[7,3,1,0,2,5,4,6]⟩,⟨some 9,.mv,[t 18],none,[8,7,3,1,0,2,5,4,6]⟩]) (.clean (.seq (.reg false [v 19 9,o 20 .nilck [t 19],o 21 (.faddr 0 b) [t 20],o 22 (.load b) [t 21],v 23 1,v 24 2,o 25 (.iaddr c) [t 22,t 23],o 26 (.faddr 0 i) [t 25],⟨none,.store i,[t 26,t 24],none,[]⟩]) (.seq (.reg false [v 27 9,v 8 27]) .ret)))))⟩
def x79:XF:=let i:Ty:=.int .i64;let b:Ty:=.st (.cons i i);let a:Ty:=.sl b;let l (d:Nat) (t:Ty) (x:Nat):XO:=⟨some d,.load t,[.t x],none,[]⟩;let v (d x:Nat):XO:=⟨some d,.mv,[.t x],none,[]⟩;let o (d:Nat) (p:XOp) (l:List XA):XO:=⟨some d,p,l,none,[]⟩;let w (d:Nat) (p:XOp) (l:List XA) (j t:Nat) (b:Bool):XO:=⟨some d,p,l,some (j,t,b),[]⟩;let t:=XA.t;⟨55,[],[0,1,2,3,8],(.seq (.seq (.reg false [v 9 0,o 10 .nilck [t 9],o 11 (.faddr 1 (.sl .bool)) [t 10],l 12 (.sl .bool) 11,v 13 1,o 14 (.iaddr .bool) [t 12,t 13],l 15 .bool 14,v 16 15,w 17 .mv [t 2] 7 16 false,w 18 (.call 76) [t 17] 7 16 false,w 19 .not [t 18] 7 16 false,o 20 .pick [t 16,.bool true,t 19]]) (.cond (t 20) .ret .skip)) (.clean (.seq (.reg false [v 21 0,o 22 .nilck [t 21],o 23 (.faddr 0 a) [t 22],l 24 a 23,v 25 1,o 26 (.iaddr b) [t 24,t 25],v 8 26]) (.clean (.seq (.reg false [v 27 0,v 28 2,v 29 8,o 30 .nilck [t 29],o 31 (.faddr 0 i) [t 30],l 32 i 31,o 33 (.call 137) [t 27,t 28,t 32],v 34 33,w 35 .mv [t 2] 7 34 false,w 36 .mv [t 8] 7 34 false,w 37 .nilck [t 36] 7 34 false,w 38 (.faddr 0 i) [t 37] 7 34 false,w 39 (.load i) [t 38] 7 34 false,w 40 (.bin .eql) [t 35,t 39] 7 34 false,w 41 .mv [t 40] 7 34 false,w 42 .mv [t 3] 14 41 true,w 43 .mv [t 8] 14 41 true,w 44 .nilck [t 43] 14 41 true,w 45 (.faddr 1 i) [t 44] 14 41 true,w 46 (.load i) [t 45] 14 41 true,w 47 (.bin .lss) [t 42,t 46] 14 41 true,w 48 .pick [t 41,t 47,.bool false] 7 34 false,o 49 .pick [t 34,.bool true,t 48]]) (.cond (t 49) (.reg false [v 50 8,v 51 2,v 52 3,⟨some 53,.build b [(0,i),(1,i)],[t 51,t 52],none,[]⟩,o 54 .nilck [t 50],⟨none,.store b,[t 54,t 53],none,[]⟩]) .skip))))))⟩
def x81_0:XC:=let i:Ty:=.int .i64;let v (d x:Nat):XO:=⟨some d,.mv,[.t x],none,[]⟩;let u (d:Nat) (p:XOp) (l:List XA) (a:List Nat):XO:=⟨some d,p,l,none,a⟩;let t:=XA.t;(.seq (.seq (.reg false [v 7 2,v 8 3,u 9 (.bin .lss) [t 7,t 8] []]) (.cond (t 9) .skip (.exit 0))) (.seq (.block 1 (.reg true [v 14 0,v 15 2,v 16 0,v 17 3,v 18 0,v 19 3,u 20 (.iaddr i) [t 18,t 19] [4,5],u 21 (.load i) [t 20] [6,4,5],v 22 0,v 23 2,u 24 (.iaddr i) [t 22,t 23] [8,9],u 25 (.load i) [t 24] [10,8,9],u 26 (.iaddr i) [t 14,t 15] [0,1,4,5,6,7,11,10,8,9],⟨none,.store i,[t 26,t 21],none,[12,0,1,4,5,6,7,11,10,8,9]⟩,u 27 (.iaddr i) [t 16,t 17] [2,3,0,1,4,5,6,7,8,9,10,11,12,13],⟨none,.store i,[t 27,t 25],none,[14,2,3,0,1,4,5,6,7,8,9,10,11,12,13]⟩])) (.clean (.reg false [v 10 2,u 11 (.bin .add) [t 10,.int .i64 1] [],v 12 3,u 13 (.bin .sub) [t 12,.int .i64 1] [],v 2 11,v 3 13]))))
def x81_0d:List Nat:=[2,3]
def x81:XF:=let o (d:Nat) (p:XOp) (l:List XA):XO:=⟨some d,p,l,none,[]⟩;⟨28,[],[0,2,3],(.seq (.reg false [o 4 .mv [.t 0],o 5 (.len false) [.t 4],o 6 (.bin .sub) [.t 5,.int .i64 1],o 2 .mv [.int .i64 0],o 3 .mv [.t 6]]) (.block 0 (.loop x81_0)))⟩
def x176:XF:=let i:Ty:=.int .i64;let c:Ty:=.st (.cons i (.cons i i));let b:Ty:=.st (.cons i (.cons i (.cons i (.cons i (.cons i (.cons i (.cons i (.cons i (.cons i i)))))))));let a:Ty:=.sl b;⟨7,[.cell 3 c],[0,1,3],(.seq (.reg false [⟨some 3,.alloc 181 c,[],none,[]⟩]) (.seq (.reg false [⟨some 4,.mv,[.t 0],none,[]⟩,⟨some 5,.load a,[.t 1],none,[]⟩,⟨some 6,.call 177,[.t 4,.t 5],none,[]⟩,⟨none,.store c,[.t 3,.t 6],none,[]⟩]) .ret))⟩
def x145:XF:=let i:Ty:=.int .i64;let b:Ty:=.st (.cons i (.cons i (.cons i (.cons i (.cons i (.cons i (.cons i (.cons i (.cons i i)))))))));let a:Ty:=.sl b;let l (d:Nat) (t:Ty) (x:Nat):XO:=⟨some d,.load t,[.t x],none,[]⟩;let v (d x:Nat):XO:=⟨some d,.mv,[.t x],none,[]⟩;let o (d:Nat) (p:XOp) (l:List XA):XO:=⟨some d,p,l,none,[]⟩;let w (d:Nat) (p:XOp) (l:List XA) (j t:Nat) (b:Bool):XO:=⟨some d,p,l,some (j,t,b),[]⟩;let u (d:Nat) (p:XOp) (l:List XA) (a:List Nat):XO:=⟨some d,p,l,none,a⟩;let t:=XA.t;⟨34,[.tmp 6],[0,1,2,3,4,6,7,8],(.seq (.reg false [o 6 .mv [.bool false]]) (.seq (.reg true [v 9 0,o 10 (.faddr 0 i) [t 1],u 11 (.load i) [t 10] [1],l 12 a 2,u 13 (.call 146) [t 9,t 11,t 12] [0,2,1,3],v 14 0,o 15 (.faddr 1 i) [t 1],u 16 (.load i) [t 15] [6],l 17 a 2,u 18 (.call 146) [t 14,t 16,t 17] [5,7,6,8,4,0,2,1,3],u 7 .mv [t 13] [4,0,2,1,3,9,5,7,6,8],u 8 .mv [t 18] [9,5,7,6,8,4,0,2,1,3,10]]) (.clean (.seq (.reg false [l 19 .bool 3,v 20 19,w 21 .mv [t 7] 1 20 false,o 22 .pick [t 20,.bool true,t 21],v 23 22,w 24 .mv [t 8] 4 23 false,o 25 .pick [t 23,.bool true,t 24],l 26 .bool 4,v 27 26,w 28 .mv [t 7] 8 27 false,w 29 .mv [t 28] 8 27 false,w 30 .mv [t 8] 10 29 true,w 31 .pick [t 29,t 30,.bool false] 8 27 false,o 32 .pick [t 27,.bool true,t 31],⟨none,.store .bool,[t 3,t 25],none,[]⟩,⟨none,.store .bool,[t 4,t 32],none,[]⟩]) (.seq (.reg false [l 33 .bool 4,v 6 33]) .ret)))))⟩
def x179_0:XC:=let i:Ty:=.int .i64;let a:Ty:=.st (.cons i .bool);let l (d:Nat) (t:Ty) (x:Nat):XO:=⟨some d,.load t,[.t x],none,[]⟩;let o (d:Nat) (p:XOp) (l:List XA):XO:=⟨some d,p,l,none,[]⟩;let t:=XA.t;(.seq (.reg false [o 12 (.bin .lss) [t 11,t 10]]) (.seq (.cond (t 12) .skip (.exit 0)) (.seq (.block 1 (.seq (.reg false [o 13 (.iaddr a) [t 9,t 11],l 14 a 13,o 5 (.alloc 57 a) [],⟨none,.store a,[t 5,t 14],none,[]⟩]) (.seq (.reg false [o 15 (.faddr 1 .bool) [t 5],l 16 .bool 15,o 17 .not [t 16]]) (.cond (t 17) (.reg false [o 18 .mv [t 3],o 19 (.faddr 0 i) [t 5],l 20 i 19,⟨none,.mapset .i64 .bool,[t 18,t 20,.bool true],none,[]⟩]) .skip)))) (.reg false [o 21 (.bin .add) [t 11,.int .i64 1],o 11 .mv [t 21]]))))
def x179_0d:List Nat:=[5,11]
def x179_1:XC:=let i:Ty:=.int .i64;let a:Ty:=.st (.cons i .bool);let l (d:Nat) (t:Ty) (x:Nat):XO:=⟨some d,.load t,[.t x],none,[]⟩;let o (d:Nat) (p:XOp) (l:List XA):XO:=⟨some d,p,l,none,[]⟩;(.seq (.reg false [o 25 (.bin .lss) [.t 24,.t 23]]) (.seq (.cond (.t 25) .skip (.exit 2)) (.seq (.block 3 (.seq (.reg false [o 26 (.iaddr a) [.t 22,.t 24],l 27 a 26,o 7 (.alloc 57 a) [],⟨none,.store a,[.t 7,.t 27],none,[]⟩]) (.seq (.reg false [o 28 (.faddr 1 .bool) [.t 7],l 29 .bool 28]) (.cond (.t 29) (.reg false [o 30 .mv [.t 3],o 31 (.faddr 0 i) [.t 7],l 32 i 31,⟨none,.mapdel .i64 .bool,[.t 30,.t 32],none,[]⟩]) .skip)))) (.reg false [o 33 (.bin .add) [.t 24,.int .i64 1],o 24 .mv [.t 33]]))))
def x179_1d:List Nat:=[7,24]
def x179:XF:=let v (d x:Nat):XO:=⟨some d,.mv,[.t x],none,[]⟩;let o (d:Nat) (p:XOp) (l:List XA):XO:=⟨some d,p,l,none,[]⟩;let r (l:List XO) (c:XC):XC:=.seq (.reg false l) c;⟨35,[.tmp 2],[0,2,3,5,7,9,10,11,22,23,24],(r [o 2 .mv [.nilm]] (r [o 8 (.mkmap .i64 .bool) [],v 3 8] (.seq (r [v 9 0,o 10 (.len false) [.t 9],o 11 .mv [.int .i64 0]] (.block 0 (.loop x179_0))) (.clean (.seq (r [v 22 0,o 23 (.len false) [.t 22],o 24 .mv [.int .i64 0]] (.block 2 (.loop x179_1))) (r [v 34 3,v 2 34] .ret))))))⟩
def x180:XF:=let i:Ty:=.int .i64;let l (d:Nat) (t:Ty) (x:Nat):XO:=⟨some d,.load t,[.t x],none,[]⟩;let o (d:Nat) (p:XOp) (l:List XA):XO:=⟨some d,p,l,none,[]⟩;⟨12,[],[0,1,3],(.seq (.reg false [o 3 (.box 57) [.t 1]]) (.seq (.reg false [o 4 (.faddr 1 .bool) [.t 3],l 5 .bool 4]) (.cond (.t 5) (.reg false [o 6 .mv [.t 0],o 7 (.faddr 0 i) [.t 3],l 8 i 7,⟨none,.mapset .i64 .bool,[.t 6,.t 8,.bool true],none,[]⟩]) (.reg false [o 9 .mv [.t 0],o 10 (.faddr 0 i) [.t 3],l 11 i 10,⟨none,.mapdel .i64 .bool,[.t 9,.t 11],none,[]⟩]))))⟩
def x175_0:XC:=let i:Ty:=.int .i64;let b:Ty:=.st (.cons i .bool);let a:Ty:=.st (.cons i (.cons i i));let v (d x:Nat):XO:=⟨some d,.mv,[.t x],none,[]⟩;let o (d:Nat) (p:XOp) (l:List XA):XO:=⟨some d,p,l,none,[]⟩;let t:=XA.t;(.seq (.reg false [o 18 (.bin .lss) [t 17,t 16]]) (.seq (.cond (t 18) .skip (.exit 0)) (.seq (.block 1 (.seq (.reg false [o 19 (.iaddr b) [t 15,t 17],o 20 (.load b) [t 19],o 8 (.alloc 57 b) [],⟨none,.store b,[t 8,t 20],none,[]⟩]) (.seq (.icall false [v 21 5,o 22 (.load b) [t 8]] ⟨some 23,.callv,[.fn 180,t 21,t 22],none,[]⟩ [] 180 x180.n x180.res x180.kv x180.code) (.icall false [v 24 6,v 25 1,v 26 5] ⟨some 27,.callv,[t 25,t 26],none,[]⟩ [⟨some 28,.bslice 181 a 1 [0],[t 27],none,[]⟩,o 29 (.append 181 a 24) [t 24,t 28],v 6 29] 176 x176.n x176.res x176.kv x176.code)))) (.reg false [o 30 (.bin .add) [t 17,.int .i64 1],v 17 30]))))
def x175_0d:List Nat:=[6,8,17]
def x175:XF:=let i:Ty:=.int .i64;let a:Ty:=.st (.cons i (.cons i i));let v (d x:Nat):XO:=⟨some d,.mv,[.t x],none,[]⟩;⟨32,[.tmp 4],[0,1,4,5,6,8,15,16,17],(.seq (.reg false [⟨some 4,.nilrow 181 a,[],none,[]⟩]) (.seq (.icall false [v 9 0] ⟨some 10,.callv,[.fn 179,.t 9],none,[]⟩ [v 5 10] 179 x179.n x179.res x179.kv x179.code) (.seq (.icall false [v 11 1,v 12 5] ⟨some 13,.callv,[.t 11,.t 12],none,[]⟩ [⟨some 14,.bslice 181 a 1 [0],[.t 13],none,[]⟩,v 6 14] 176 x176.n x176.res x176.kv x176.code) (.seq (.seq (.reg false [v 15 0,⟨some 16,.len false,[.t 15],none,[]⟩,⟨some 17,.mv,[.int .i64 0],none,[]⟩]) (.block 0 (.loop x175_0))) (.seq (.reg false [v 31 6,v 4 31]) .ret)))))⟩
def x144_0:XC:=let i:Ty:=.int .i64;let a:Ty:=.st (.cons i .bool);let v (d x:Nat):XO:=⟨some d,.mv,[.t x],none,[]⟩;let o (d:Nat) (p:XOp) (l:List XA):XO:=⟨some d,p,l,none,[]⟩;let t:=XA.t;(.seq (.reg false [o 18 (.bin .lss) [t 17,t 16]]) (.seq (.cond (t 18) .skip (.exit 0)) (.seq (.block 1 (.seq (.reg false [o 19 (.iaddr a) [t 15,t 17],o 20 (.load a) [t 19],o 8 (.alloc 57 a) [],⟨none,.store a,[t 8,t 20],none,[]⟩]) (.seq (.icall false [v 21 5,o 22 (.load a) [t 8]] ⟨some 23,.callv,[.fn 180,t 21,t 22],none,[]⟩ [] 180 x180.n x180.res x180.kv x180.code) (.icall false [v 24 6,v 25 1,v 26 5] ⟨some 27,.callv,[t 25,t 26],none,[]⟩ [⟨some 28,.bslice 4 .bool 1 [0],[t 27],none,[]⟩,o 29 (.append 4 .bool 1) [t 24,t 28],v 6 29] 145 x145.n x145.res x145.kv x145.code)))) (.reg false [o 30 (.bin .add) [t 17,.int .i64 1],v 17 30]))))
def x144_0d:List Nat:=[6,8,17]
def x144:XF:=let v (d x:Nat):XO:=⟨some d,.mv,[.t x],none,[]⟩;⟨32,[.tmp 4],[0,1,4,5,6,8,15,16,17],(.seq (.reg false [⟨some 4,.nilrow 4 .bool,[],none,[]⟩]) (.seq (.icall false [v 9 0] ⟨some 10,.callv,[.fn 179,.t 9],none,[]⟩ [v 5 10] 179 x179.n x179.res x179.kv x179.code) (.seq (.icall false [v 11 1,v 12 5] ⟨some 13,.callv,[.t 11,.t 12],none,[]⟩ [⟨some 14,.bslice 4 .bool 1 [0],[.t 13],none,[]⟩,v 6 14] 145 x145.n x145.res x145.kv x145.code) (.seq (.seq (.reg false [v 15 0,⟨some 16,.len false,[.t 15],none,[]⟩,⟨some 17,.mv,[.int .i64 0],none,[]⟩]) (.block 0 (.loop x144_0))) (.seq (.reg false [v 31 6,v 4 31]) .ret)))))⟩
def x156_1:XC:=let i:Ty:=.int .i64;let a:Ty:=.st (.cons i (.cons i i));let v (d x:Nat):XO:=⟨some d,.mv,[.t x],none,[]⟩;let u (d:Nat) (p:XOp) (l:List XA) (a:List Nat):XO:=⟨some d,p,l,none,a⟩;let x (d:Nat) (p:XOp) (l:List XA) (j t:Nat) (b:Bool) (a:List Nat):XO:=⟨some d,p,l,some (j,t,b),a⟩;let t:=XA.t;(.seq (.seq (.reg true [v 18 9,v 19 1,u 20 (.bin .gtr) [t 18,t 19] [0,1],u 21 .mv [t 20] [2,0,1],x 22 .mv [t 3] 3 21 true [3,2,0,1],x 23 .mv [t 0] 3 21 true [3,2,0,1],x 24 .mv [t 9] 3 21 true [3,2,0,1],x 25 (.iaddr a) [t 23,t 24] 3 21 true [5,3,2,0,1,6],x 26 (.load a) [t 25] 3 21 true [7,5,3,2,0,1,6],x 27 .mv [t 0] 3 21 true [3,2,0,1],x 28 .mv [t 9] 3 21 true [3,2,0,1],x 29 (.bin .sub) [t 28,.int .i64 1] 3 21 true [10,3,2,0,1],x 30 (.iaddr a) [t 27,t 29] 3 21 true [9,3,2,0,1,11,10],x 31 (.load a) [t 30] 3 21 true [12,9,3,2,0,1,11,10],⟨some 32,.callv,[t 22,t 26,t 31],some (3,21,true),[4,3,2,0,1,8,7,5,6,13,12,9,11,10]⟩,x 33 (.bin .lss) [t 32,.int .i64 0] 3 21 true [14,4,3,2,0,1,8,7,5,6,13,12,9,11,10],u 34 .pick [t 21,t 33,.bool false] [3,2,0,1,15,14,4,8,7,5,6,13,12,9,11,10]]) (.cond (t 34) .skip (.exit 2))) (.clean (.seq (.block 3 (.reg true [v 37 0,v 38 9,v 39 0,v 40 9,u 41 (.bin .sub) [t 40,.int .i64 1] [3],v 42 0,v 43 9,u 44 (.bin .sub) [t 43,.int .i64 1] [6],u 45 (.iaddr a) [t 42,t 44] [5,7,6],u 46 (.load a) [t 45] [8,5,7,6],v 47 0,v 48 9,u 49 (.iaddr a) [t 47,t 48] [10,11],u 50 (.load a) [t 49] [12,10,11],u 51 (.iaddr a) [t 37,t 38] [0,1,5,6,7,8,9,13,12,10,11],⟨none,.store a,[t 51,t 46],none,[14,0,1,5,6,7,8,9,13,12,10,11]⟩,u 52 (.iaddr a) [t 39,t 41] [2,4,3,0,1,5,6,7,8,9,10,11,12,13,14,15],⟨none,.store a,[t 52,t 50],none,[16,2,4,3,0,1,5,6,7,8,9,10,11,12,13,14,15]⟩])) (.clean (.reg false [v 35 9,u 36 (.bin .sub) [t 35,.int .i64 1] [],v 9 36])))))
def x156_1d:List Nat:=[9]
def x156_0:XC:=let v (d x:Nat):XO:=⟨some d,.mv,[.t x],none,[]⟩;(.seq (.seq (.reg false [v 12 8,v 13 2,⟨some 14,.bin .lss,[.t 12,.t 13],none,[]⟩]) (.cond (.t 14) .skip (.exit 0))) (.seq (.block 1 (.seq (.reg false [v 17 8,v 9 17]) (.block 2 (.loop x156_1)))) (.clean (.reg false [v 15 8,⟨some 16,.bin .add,[.t 15,.int .i64 1],none,[]⟩,v 8 16]))))
def x156_0d:List Nat:=[8,9]
def x156:XF:=⟨53,[],[0,1,2,3,8,9],(.seq (.reg false [⟨some 10,.mv,[.t 1],none,[]⟩,⟨some 11,.bin .add,[.t 10,.int .i64 1],none,[]⟩,⟨some 8,.mv,[.t 11],none,[]⟩]) (.block 0 (.loop x156_0)))⟩
def x101_0:XC:=let i:Ty:=.int .i64;let a:Ty:=.st (.cons i (.cons i i));let v (d x:Nat):XO:=⟨some d,.mv,[.t x],none,[]⟩;let o (d:Nat) (p:XOp) (l:List XA):XO:=⟨some d,p,l,none,[]⟩;let x (d:Nat) (p:XOp) (l:List XA) (j t:Nat) (b:Bool) (a:List Nat):XO:=⟨some d,p,l,some (j,t,b),a⟩;let r (l:List XO) (c:XC):XC:=.seq (.reg false l) c;let t:=XA.t;(.block 1 (r [v 21 2,v 22 1,o 23 (.bin .sub) [t 21,t 22],v 12 23] (.seq (r [v 24 12,o 25 (.bin .leq) [t 24,.int .i64 12]] (.cond (t 25) (.seq (.icall false [v 26 0,v 27 1,v 28 2,v 29 4] ⟨some 30,.callv,[.fn 156,t 26,t 27,t 28,t 29],none,[]⟩ [] 156 x156.n x156.res x156.kv x156.code) .ret) .skip)) (.clean (.seq (r [v 31 3,o 32 (.bin .eql) [t 31,.int .i64 0]] (.cond (t 32) (r [v 33 0,v 34 1,v 35 2,v 36 4,o 37 (.call 157) [t 33,t 34,t 35,t 36]] .ret) .skip)) (.clean (.seq (r [v 38 10,o 39 .not [t 38]] (.cond (t 39) (r [v 40 0,v 41 1,v 42 2,v 43 4,o 44 (.call 158) [t 40,t 41,t 42,t 43]] (.reg false [v 45 3,o 46 (.bin .sub) [t 45,.int .i64 1],v 3 46])) .skip)) (.clean (r [v 48 0,v 49 1,v 50 2,v 51 4,o 52 (.call 159) [t 48,t 49,t 50,t 51],v 47 52,o 53 (.extract 0) [t 47],o 54 (.extract 1) [t 47],v 13 53,v 14 54] (.clean (.seq (r [v 55 14,o 56 (.bin .eql) [t 55,.int .i64 2]] (.cond (t 56) (r [v 57 0,v 58 1,v 59 2,v 60 4,o 61 (.call 160) [t 57,t 58,t 59,t 60]] (r [v 62 2,o 63 (.bin .sub) [t 62,.int .i64 1],v 64 13,v 65 1,o 66 (.bin .sub) [t 64,t 65],o 67 (.bin .sub) [t 63,t 66],v 13 67] (.reg false [o 14 .mv [.int .i64 1]]))) .skip)) (.clean (.seq (r [v 68 10,v 69 68,x 70 .mv [t 11] 1 69 true [],o 71 .pick [t 69,t 70,.bool false],v 72 71,x 73 .mv [t 14] 4 72 true [],x 74 (.bin .eql) [t 73,.int .i64 1] 4 72 true [],o 75 .pick [t 72,t 74,.bool false]] (.cond (t 75) (r [v 76 0,v 77 1,v 78 2,v 79 4,o 80 (.call 161) [t 76,t 77,t 78,t 79]] (.cond (t 80) .ret .skip)) .skip)) (.clean (.seq (.seq (.reg true [v 81 1,⟨some 82,.bin .gtr,[t 81,.int .i64 0],none,[0]⟩,⟨some 83,.mv,[t 82],none,[1,0]⟩,x 84 .mv [t 4] 2 83 true [2,1,0],x 85 .mv [t 0] 2 83 true [2,1,0],x 86 .mv [t 1] 2 83 true [2,1,0],x 87 (.bin .sub) [t 86,.int .i64 1] 2 83 true [5,2,1,0],x 88 (.iaddr a) [t 85,t 87] 2 83 true [4,2,1,0,6,5],x 89 (.load a) [t 88] 2 83 true [7,4,2,1,0,6,5],x 90 .mv [t 0] 2 83 true [2,1,0],x 91 .mv [t 13] 2 83 true [2,1,0],x 92 (.iaddr a) [t 90,t 91] 2 83 true [9,2,1,0,10],x 93 (.load a) [t 92] 2 83 true [11,9,2,1,0,10],⟨some 94,.callv,[t 84,t 89,t 93],some (2,83,true),[3,2,1,0,8,7,4,6,5,12,11,9,10]⟩,x 95 (.bin .lss) [t 94,.int .i64 0] 2 83 true [13,3,2,1,0,8,7,4,6,5,12,11,9,10],x 96 .not [t 95] 2 83 true [14,13,3,2,1,0,8,7,4,6,5,12,11,9,10],⟨some 97,.pick,[t 83,t 96,.bool false],none,[2,1,0,15,14,13,3,8,7,4,6,5,12,11,9,10]⟩]) (.cond (t 97) (r [v 98 0,v 99 1,v 100 2,v 101 13,v 102 4,o 103 (.call 162) [t 98,t 99,t 100,t 101,t 102],v 15 103] (r [v 104 15,v 1 104] (.exit 1))) .skip)) (.clean (r [v 106 0,v 107 1,v 108 2,v 109 13,v 110 4,o 111 (.call 163) [t 106,t 107,t 108,t 109,t 110],v 105 111,o 112 (.extract 0) [t 105],o 113 (.extract 1) [t 105],v 16 112,v 17 113] (.clean (r [v 114 17,v 11 114] (r [v 115 16,v 116 1,o 117 (.bin .sub) [t 115,t 116],v 118 2,v 119 16,o 120 (.bin .sub) [t 118,t 119],v 18 117,v 19 120] (.clean (r [v 121 12,o 122 (.bin .quo) [t 121,.int .i64 8],v 20 122] (r [v 123 18,v 124 19,o 125 (.bin .lss) [t 123,t 124]] (.cond (t 125) (r [v 126 18,v 127 20,o 128 (.bin .geq) [t 126,t 127],v 10 128] (r [v 129 0,v 130 1,v 131 16,v 132 3,v 133 4,o 134 (.call 101) [t 129,t 130,t 131,t 132,t 133]] (.clean (.reg false [v 135 16,o 136 (.bin .add) [t 135,.int .i64 1],v 1 136])))) (r [v 137 19,v 138 20,o 139 (.bin .geq) [t 137,t 138],v 10 139] (r [v 140 0,v 141 16,o 142 (.bin .add) [t 141,.int .i64 1],v 143 2,v 144 3,v 145 4,o 146 (.call 101) [t 140,t 142,t 143,t 144,t 145]] (.reg false [v 147 16,v 2 147])))))))))))))))))))))))))))
def x101_0d:List Nat:=[1,2,3,10,11,12,13,14,15,16,17,18,19,20]
def x101:XF:=⟨148,[],[0,1,2,3,4,10,11,12,13,14,15,16,17,18,19,20],(.seq (.reg false [⟨some 10,.mv,[.bool true],none,[]⟩]) (.seq (.reg false [⟨some 11,.mv,[.bool true],none,[]⟩]) (.block 0 (.loop x101_0))))⟩
def x43:XF:=let v (d x:Nat):XO:=⟨some d,.mv,[.t x],none,[]⟩;⟨14,[],[0,1,4],(.seq (.reg false [v 5 0,⟨some 6,.len false,[.t 5],none,[]⟩,v 4 6]) (.icall false [v 7 0,v 8 4,v 9 4,⟨some 10,.conv .u64,[.t 9],none,[]⟩,⟨some 11,.call 102,[.t 10],none,[]⟩,v 12 1] ⟨some 13,.callv,[.fn 101,.t 7,.int .i64 0,.t 8,.t 11,.t 12],none,[]⟩ [] 101 x101.n x101.res x101.kv x101.code))⟩
def x14_0:XC:=let i:Ty:=.int .i64;let a:Ty:=.st (.cons i i);let v (d x:Nat):XO:=⟨some d,.mv,[.t x],none,[]⟩;let o (d:Nat) (p:XOp) (l:List XA):XO:=⟨some d,p,l,none,[]⟩;let u (d:Nat) (p:XOp) (l:List XA) (a:List Nat):XO:=⟨some d,p,l,none,a⟩;let x (d:Nat) (p:XOp) (l:List XA) (j t:Nat) (b:Bool) (a:List Nat):XO:=⟨some d,p,l,some (j,t,b),a⟩;let t:=XA.t;(.seq (.reg false [o 26 (.bin .lss) [t 25,t 24]]) (.seq (.cond (t 26) .skip (.exit 0)) (.seq (.block 1 (.seq (.reg false [v 27 25,o 28 (.iaddr a) [t 23,t 25],o 29 (.load a) [t 28],o 9 (.alloc 72 a) [],v 8 27,⟨none,.store a,[t 9,t 29],none,[]⟩]) (.seq (.reg true [v 30 2,v 31 8,u 32 (.iaddr i) [t 30,t 31] [0,1],u 33 (.load i) [t 32] [2,0,1],o 34 (.faddr 0 i) [t 9],u 35 (.load i) [t 34] [4],u 36 (.bin .lss) [t 33,t 35] [3,2,0,1,5,4],u 37 .mv [t 36] [6,3,2,0,1,5,4],x 38 .mv [t 2] 7 37 false [7,6,3,2,0,1,5,4],x 39 .mv [t 8] 7 37 false [7,6,3,2,0,1,5,4],x 40 (.iaddr i) [t 38,t 39] 7 37 false [8,7,6,3,2,0,1,5,4,9],x 41 (.load i) [t 40] 7 37 false [10,8,7,6,3,2,0,1,5,4,9],x 42 (.faddr 1 i) [t 9] 7 37 false [7,6,3,2,0,1,5,4],x 43 (.load i) [t 42] 7 37 false [12,7,6,3,2,0,1,5,4],x 44 (.bin .gtr) [t 41,t 43] 7 37 false [11,10,8,7,6,3,2,0,1,5,4,9,13,12],u 45 .pick [t 37,.bool true,t 44] [7,6,3,2,0,1,5,4,14,11,10,8,9,13,12]]) (.cond (t 45) (.seq (.reg false [o 6 (.nilrow 3 i) [],o 7 .mv [.int .i64 1]]) .ret) .skip)))) (.reg false [o 46 (.bin .add) [t 25,.int .i64 1],v 25 46]))))
def x14_0d:List Nat:=[6,7,8,9,25]
def x14:XF:=let i:Ty:=.int .i64;let e:Ty:=.st (.cons i i);let d:Ty:=.sl e;let c:Ty:=.st (.cons i (.cons i i));let b:Ty:=.sl c;let a:Ty:=.st (.cons d (.cons d b));let v (d x:Nat):XO:=⟨some d,.mv,[.t x],none,[]⟩;let o (d:Nat) (p:XOp) (l:List XA):XO:=⟨some d,p,l,none,[]⟩;let w (d:Nat) (p:XOp) (l:List XA) (j t:Nat) (b:Bool):XO:=⟨some d,p,l,some (j,t,b),[]⟩;let r (l:List XO) (c:XC):XC:=.seq (.reg false l) c;let t:=XA.t;⟨50,[.tmp 6,.tmp 7],[0,1,2,3,6,7,8,9,23,24,25],(r [o 3 (.box 46) [t 0],o 6 (.nilrow 3 i) [],o 7 .mv [.int .i64 0]] (.seq (r [o 10 (.load a) [t 3],v 11 1,o 12 (.call 47) [t 10,t 11],o 13 .not [t 12],v 14 13,w 15 .mv [t 2] 4 14 false,w 16 (.len false) [t 15] 4 14 false,w 17 (.faddr 1 d) [t 3] 4 14 false,w 18 (.load d) [t 17] 4 14 false,w 19 (.len false) [t 18] 4 14 false,w 20 (.bin .neq) [t 16,t 19] 4 14 false,o 21 .pick [t 14,.bool true,t 20]] (.cond (t 21) (r [o 6 (.nilrow 3 i) [],o 7 .mv [.int .i64 1]] .ret) .skip)) (.clean (.seq (r [o 22 (.faddr 1 d) [t 3],o 23 (.load d) [t 22],o 24 (.len false) [t 23],o 25 .mv [.int .i64 0]] (.block 0 (.loop x14_0))) (.clean (r [v 47 1,v 48 2,o 49 (.call 48) [t 47,t 48],v 6 49,o 7 .mv [.int .i64 0]] .ret))))))⟩
def x20_0:XC:=let i:Ty:=.int .i64;let a:Ty:=.st (.cons i i);let v (d x:Nat):XO:=⟨some d,.mv,[.t x],none,[]⟩;let o (d:Nat) (p:XOp) (l:List XA):XO:=⟨some d,p,l,none,[]⟩;(.seq (.reg false [o 17 (.bin .lss) [.t 16,.t 15]]) (.seq (.cond (.t 17) .skip (.exit 0)) (.seq (.block 1 (.seq (.reg false [o 18 (.iaddr a) [.t 14,.t 16],o 19 (.load a) [.t 18],o 8 (.alloc 72 a) [],⟨none,.store a,[.t 8,.t 19],none,[]⟩]) (.reg false [v 20 6,o 21 (.faddr 1 i) [.t 8],o 22 (.load i) [.t 21],⟨some 23,.bslice 3 i 1 [0],[.t 22],none,[]⟩,o 24 (.append 3 i 8) [.t 20,.t 23],v 6 24]))) (.reg false [o 25 (.bin .add) [.t 16,.int .i64 1],v 16 25]))))
def x20_0d:List Nat:=[6,8,16]
def x20:XF:=let i:Ty:=.int .i64;let e:Ty:=.st (.cons i i);let d:Ty:=.sl e;let c:Ty:=.st (.cons i (.cons i i));let b:Ty:=.sl c;let a:Ty:=.st (.cons d (.cons d b));let v (d x:Nat):XO:=⟨some d,.mv,[.t x],none,[]⟩;let o (d:Nat) (p:XOp) (l:List XA):XO:=⟨some d,p,l,none,[]⟩;let r (l:List XO) (c:XC):XC:=.seq (.reg false l) c;⟨29,[.tmp 4,.tmp 5],[0,1,2,4,5,6,8,14,15,16],(r [o 2 (.box 46) [.t 0],o 4 (.nilrow 3 i) [],o 5 .mv [.int .i64 0]] (.seq (r [o 9 (.load a) [.t 2],v 10 1,o 11 (.call 47) [.t 9,.t 10],o 12 .not [.t 11]] (.cond (.t 12) (r [o 4 (.nilrow 3 i) [],o 5 .mv [.int .i64 1]] .ret) .skip)) (.clean (r [o 6 (.nilrow 3 i) []] (.seq (r [o 13 (.faddr 1 d) [.t 2],o 14 (.load d) [.t 13],o 15 (.len false) [.t 14],o 16 .mv [.int .i64 0]] (.block 0 (.loop x20_0))) (.clean (r [v 26 1,v 27 6,o 28 (.call 48) [.t 26,.t 27],v 4 28,o 5 .mv [.int .i64 0]] .ret)))))))⟩
def x22_0:XC:=let i:Ty:=.int .i64;let v (d x:Nat):XO:=⟨some d,.mv,[.t x],none,[]⟩;let u (d:Nat) (p:XOp) (l:List XA) (a:List Nat):XO:=⟨some d,p,l,none,a⟩;(.seq (.seq (.reg false [v 11 5,v 12 0,u 13 (.len false) [.t 12] [],u 14 (.bin .lss) [.t 11,.t 13] []]) (.cond (.t 14) .skip (.exit 0))) (.seq (.block 1 (.seq (.reg true [v 17 0,v 18 5,u 19 (.iaddr i) [.t 17,.t 18] [0,1],u 20 (.load i) [.t 19] [2,0,1],v 21 1,v 22 5,u 23 (.iaddr i) [.t 21,.t 22] [4,5],u 24 (.load i) [.t 23] [6,4,5],u 25 (.bin .neq) [.t 20,.t 24] [3,2,0,1,7,6,4,5]]) (.cond (.t 25) (.seq (.reg false [u 4 .mv [.bool false] []]) .ret) .skip))) (.clean (.reg false [v 15 5,u 16 (.bin .add) [.t 15,.int .i64 1] [],v 5 16]))))
def x22_0d:List Nat:=[4,5]
def x22:XF:=let o (d:Nat) (p:XOp) (l:List XA):XO:=⟨some d,p,l,none,[]⟩;let r (l:List XO) (c:XC):XC:=.seq (.reg false l) c;⟨26,[.tmp 4],[0,1,4,5],(r [o 4 .mv [.bool false]] (.seq (r [o 6 .mv [.t 0],o 7 (.len false) [.t 6],o 8 .mv [.t 1],o 9 (.len false) [.t 8],o 10 (.bin .neq) [.t 7,.t 9]] (.cond (.t 10) (r [o 4 .mv [.bool false]] .ret) .skip)) (.clean (.seq (r [o 5 .mv [.int .i64 0]] (.block 0 (.loop x22_0))) (r [o 4 .mv [.bool true]] .ret)))))⟩
def x33_0:XC:=let i:Ty:=.int .i64;let c:Ty:=.sl i;let b:Ty:=.sl c;let a:Ty:=.st (.cons i (.cons i (.cons c c)));let l (d:Nat) (t:Ty) (x:Nat):XO:=⟨some d,.load t,[.t x],none,[]⟩;let v (d x:Nat):XO:=⟨some d,.mv,[.t x],none,[]⟩;let o (d:Nat) (p:XOp) (l:List XA):XO:=⟨some d,p,l,none,[]⟩;let u (d:Nat) (p:XOp) (l:List XA) (a:List Nat):XO:=⟨some d,p,l,none,a⟩;let t:=XA.t;(.seq (.reg false [o 42 (.bin .lss) [t 41,t 40]]) (.seq (.cond (t 42) .skip (.exit 0)) (.seq (.block 1 (.seq (.reg false [v 43 41,o 44 (.iaddr a) [t 39,t 41],l 45 a 44,o 14 (.alloc 91 a) [],v 13 43,⟨none,.store a,[t 14,t 45],none,[]⟩]) (.reg true [l 46 b 12,o 47 (.faddr 0 i) [t 14],u 48 (.load i) [t 47] [1],l 49 b 12,o 50 (.faddr 0 i) [t 14],u 51 (.load i) [t 50] [4],u 52 (.iaddr c) [t 49,t 51] [3,5,4],u 53 (.load c) [t 52] [6,3,5,4],v 54 13,⟨some 55,.bslice 3 i 1 [0],[t 54],none,[8]⟩,u 56 (.append 3 i 8) [t 53,t 55] [7,6,3,5,4,9,8],u 57 (.iaddr c) [t 46,t 48] [0,2,1,3,4,5,6,7,8,9,10],⟨none,.store c,[t 57,t 56],none,[11,0,2,1,3,4,5,6,7,8,9,10]⟩]))) (.reg false [o 58 (.bin .add) [t 41,.int .i64 1],v 41 58]))))
def x33_0d:List Nat:=[13,14,41]
def x33_1:XC:=let i:Ty:=.int .i64;let g:Ty:=.sl i;let f:Ty:=.st (.cons i i);let e:Ty:=.sl f;let d:Ty:=.st (.cons e (.cons (.sl .bool) .bool));let c:Ty:=.st (.cons i (.cons i (.cons g g)));let b:Ty:=.ptr d;let a:Ty:=.sl c;let l (d:Nat) (t:Ty) (x:Nat):XO:=⟨some d,.load t,[.t x],none,[]⟩;let v (d x:Nat):XO:=⟨some d,.mv,[.t x],none,[]⟩;let u (d:Nat) (p:XOp) (l:List XA) (a:List Nat):XO:=⟨some d,p,l,none,a⟩;let t:=XA.t;(.seq (.reg false [u 72 (.bin .lss) [t 71,t 70] []]) (.seq (.cond (t 72) .skip (.exit 4)) (.seq (.block 5 (.seq (.reg false [u 73 (.iaddr i) [t 69,t 71] [],l 74 i 73,v 18 74]) (.icall true [l 75 b 15,l 76 a 6,v 77 18,u 78 (.iaddr c) [t 76,t 77] [1,2],u 79 (.faddr 1 i) [t 78] [3,1,2],u 80 (.load i) [t 79] [4,3,1,2],l 81 a 6,v 82 18,u 83 (.iaddr c) [t 81,t 82] [6,7],u 84 (.load c) [t 83] [8,6,7],l 85 b 15,u 86 .nilck [t 85] [10],u 87 (.faddr 0 e) [t 86] [11,10],u 88 (.load e) [t 87] [12,11,10],v 89 16,u 90 (.iaddr f) [t 88,t 89] [13,12,11,10,14],u 91 (.faddr 0 i) [t 90] [15,13,12,11,10,14],u 92 (.load i) [t 91] [16,15,13,12,11,10,14],l 93 .bool 9,u 94 (.call 80) [t 84,t 92,t 93] [9,8,6,7,17,16,15,13,12,11,10,14,18],v 95 18] ⟨some 96,.callv,[.fn 79,t 75,t 80,t 94,t 95],none,[0,5,4,3,1,2,19,9,8,6,7,17,16,15,13,12,11,10,14,18,20]⟩ [] 79 x79.n x79.res x79.kv x79.code))) (.reg false [u 97 (.bin .add) [t 71,.int .i64 1] [],v 71 97]))))
def x33_1d:List Nat:=[18,71]
def x33_A:XC:=(.reg false [⟨some 16,.mv,[.t 65],none,[]⟩])
def x33_B:XC:=let i:Ty:=.int .i64;let b:Ty:=.sl i;let a:Ty:=.sl b;let o (d:Nat) (p:XOp) (l:List XA):XO:=⟨some d,p,l,none,[]⟩;(.block 3 (.seq (.reg false [o 66 (.load a) [.t 12],o 67 .mv [.t 16],o 68 (.iaddr b) [.t 66,.t 67],o 69 (.load b) [.t 68],o 70 (.len false) [.t 69],o 71 .mv [.int .i64 0]]) (.clean (.block 4 (.loop x33_1)))))
def x33:XF:=let i:Ty:=.int .i64;let h:Ty:=.sl i;let g:Ty:=.sl h;let f:Ty:=.st (.cons i i);let e:Ty:=.sl f;let d:Ty:=.st (.cons e (.cons (.sl .bool) .bool));let c:Ty:=.st (.cons i (.cons i (.cons h h)));let b:Ty:=.ptr d;let a:Ty:=.sl c;let l (d:Nat) (t:Ty) (x:Nat):XO:=⟨some d,.load t,[.t x],none,[]⟩;let v (d x:Nat):XO:=⟨some d,.mv,[.t x],none,[]⟩;let o (d:Nat) (p:XOp) (l:List XA):XO:=⟨some d,p,l,none,[]⟩;let w (d:Nat) (p:XOp) (l:List XA) (j t:Nat) (b:Bool):XO:=⟨some d,p,l,some (j,t,b),[]⟩;let r (l:List XO) (c:XC):XC:=.seq (.reg false l) c;let t:=XA.t;⟨102,[.tmp 10,.tmp 11],[0,1,2,3,4,6,9,10,11,12,13,14,15,16,18,39,40,41,64,69,70,71],(r [o 6 (.box 22) [t 1],o 9 (.box 4) [t 4],o 10 (.nilrow 135 f) [],o 11 .mv [.int .i64 0]] (.seq (r [v 19 0,l 20 a 6,o 21 (.call 63) [t 19,t 20],o 22 .not [t 21],v 23 22,w 24 .mv [t 2] 4 23 false,w 25 (.bin .lss) [t 24,.int .i64 0] 4 23 false,o 26 .pick [t 23,.bool true,t 25],v 27 26,w 28 .mv [t 2] 8 27 false,w 29 .mv [t 0] 8 27 false,w 30 (.bin .geq) [t 28,t 29] 8 27 false,o 31 .pick [t 27,.bool true,t 30],v 32 31,w 33 .mv [t 3] 13 32 false,w 34 (.call 76) [t 33] 13 32 false,w 35 .not [t 34] 13 32 false,o 36 .pick [t 32,.bool true,t 35]] (.cond (t 36) (r [o 10 (.nilrow 135 f) [],o 11 .mv [.int .i64 1]] .ret) .skip)) (.clean (r [v 37 0,o 38 (.mkarr 32 24) [t 37,t 37],o 12 (.alloc 128 g) [],⟨none,.store g,[t 12,t 38],none,[]⟩] (.seq (r [l 39 a 6,o 40 (.len false) [t 39],o 41 .mv [.int .i64 0]] (.block 0 (.top (.loop x33_0)))) (.clean (.seq (.icall false [v 59 0,v 60 2,v 61 3] ⟨some 62,.callv,[.fn 77,t 59,t 60,t 61,.bool false],none,[]⟩ [o 15 (.allocz 129 0) [],⟨none,.store b,[t 15,t 62],none,[]⟩] 77 x77.n x77.res x77.kv x77.code) (.seq (r [l 63 b 15,o 64 (.mkbnd 78) [t 63]] (.block 2 (.rfor (t 64) 65 x33_A x33_B 78 62 [0,1,4,5,6,10,11,12] (y78 102 65 [0,1,2,3,4,6,9,10,11,12,13,14,15,16,18,39,40,41,64,69,70,71] x33_A x33_B)))) (.clean (r [l 98 b 15,o 99 .nilck [t 98],o 100 (.faddr 0 e) [t 99],l 101 e 100,v 10 101,o 11 .mv [.int .i64 0]] .ret))))))))))⟩
def x34_0:XC:=let i:Ty:=.int .i64;let c:Ty:=.sl i;let b:Ty:=.st (.cons i i);let a:Ty:=.st (.cons i (.cons i (.cons c c)));let l (d:Nat) (t:Ty) (x:Nat):XO:=⟨some d,.load t,[.t x],none,[]⟩;let v (d x:Nat):XO:=⟨some d,.mv,[.t x],none,[]⟩;let o (d:Nat) (p:XOp) (l:List XA):XO:=⟨some d,p,l,none,[]⟩;let w (d:Nat) (p:XOp) (l:List XA) (j t:Nat) (b:Bool):XO:=⟨some d,p,l,some (j,t,b),[]⟩;let r (l:List XO) (c:XC):XC:=.seq (.reg false l) c;let t:=XA.t;(.seq (r [v 25 0,v 26 2,o 27 (.iaddr b) [t 25,t 26],o 28 (.faddr 1 i) [t 27],l 29 i 28,o 30 (.bin .neq) [t 29,.int .i64 (-1)]] (.cond (t 30) .skip (.exit 0))) (.clean (.block 1 (r [v 31 0,v 32 2,o 33 (.iaddr b) [t 31,t 32],o 34 (.faddr 1 i) [t 33],l 35 i 34,v 8 35] (.clean (.seq (r [v 36 8,o 37 (.bin .lss) [t 36,.int .i64 0],v 38 37,w 39 .mv [t 8] 2 38 false,w 40 .mv [t 1] 2 38 false,w 41 (.len false) [t 40] 2 38 false,w 42 (.bin .geq) [t 39,t 41] 2 38 false,o 43 .pick [t 38,.bool true,t 42],v 44 43,w 45 .mv [t 1] 8 44 false,w 46 .mv [t 8] 8 44 false,w 47 (.iaddr a) [t 45,t 46] 8 44 false,w 48 (.faddr 1 i) [t 47] 8 44 false,w 49 (.load i) [t 48] 8 44 false,w 50 .mv [t 2] 8 44 false,w 51 (.bin .neq) [t 49,t 50] 8 44 false,o 52 .pick [t 44,.bool true,t 51],v 53 52,w 54 .mv [t 1] 17 53 false,w 55 .mv [t 8] 17 53 false,w 56 (.iaddr a) [t 54,t 55] 17 53 false,w 57 (.faddr 0 i) [t 56] 17 53 false,w 58 (.load i) [t 57] 17 53 false,w 59 (.bin .lss) [t 58,.int .i64 0] 17 53 false,o 60 .pick [t 53,.bool true,t 59],v 61 60,w 62 .mv [t 1] 25 61 false,w 63 .mv [t 8] 25 61 false,w 64 (.iaddr a) [t 62,t 63] 25 61 false,w 65 (.faddr 0 i) [t 64] 25 61 false,w 66 (.load i) [t 65] 25 61 false,w 67 .mv [t 0] 25 61 false,w 68 (.len false) [t 67] 25 61 false,w 69 (.bin .geq) [t 66,t 68] 25 61 false,o 70 .pick [t 61,.bool true,t 69],v 71 70,w 72 .mv [t 7] 35 71 false,w 73 (.len false) [t 72] 35 71 false,w 74 .mv [t 0] 35 71 false,w 75 (.len false) [t 74] 35 71 false,w 76 (.bin .eql) [t 73,t 75] 35 71 false,o 77 .pick [t 71,.bool true,t 76]] (.cond (t 77) (r [o 6 (.nilrow 3 i) []] .ret) .skip)) (.clean (r [v 78 7,v 79 8,⟨some 80,.bslice 3 i 1 [0],[t 79],none,[]⟩,o 81 (.append 3 i 8) [t 78,t 80],v 7 81] (.reg false [v 82 1,v 83 8,o 84 (.iaddr a) [t 82,t 83],o 85 (.faddr 0 i) [t 84],l 86 i 85,v 2 86])))))))))
def x34_0d:List Nat:=[2,6,7,8]
def x34:XF:=let i:Ty:=.int .i64;let a:Ty:=.st (.cons i i);let v (d x:Nat):XO:=⟨some d,.mv,[.t x],none,[]⟩;let o (d:Nat) (p:XOp) (l:List XA):XO:=⟨some d,p,l,none,[]⟩;let w (d:Nat) (p:XOp) (l:List XA) (j t:Nat) (b:Bool):XO:=⟨some d,p,l,some (j,t,b),[]⟩;let r (l:List XO) (c:XC):XC:=.seq (.reg false l) c;let t:=XA.t;⟨90,[.tmp 6],[0,1,2,6,7,8],(r [o 6 (.nilrow 3 i) []] (.seq (r [v 9 2,o 10 (.bin .lss) [t 9,.int .i64 0],v 11 10,w 12 .mv [t 2] 2 11 false,w 13 .mv [t 0] 2 11 false,w 14 (.len false) [t 13] 2 11 false,w 15 (.bin .geq) [t 12,t 14] 2 11 false,o 16 .pick [t 11,.bool true,t 15],v 17 16,w 18 .mv [t 0] 8 17 false,w 19 .mv [t 2] 8 17 false,w 20 (.iaddr a) [t 18,t 19] 8 17 false,w 21 (.faddr 0 i) [t 20] 8 17 false,w 22 (.load i) [t 21] 8 17 false,w 23 (.bin .eql) [t 22,.int .i64 (-1)] 8 17 false,o 24 .pick [t 17,.bool true,t 23]] (.cond (t 24) (r [o 6 (.nilrow 3 i) []] .ret) .skip)) (.clean (r [o 7 (.nilrow 3 i) []] (.seq (.block 0 (.loop x34_0)) (.clean (.seq (.icall false [v 87 7] ⟨some 88,.callv,[.fn 81,t 87],none,[]⟩ [] 81 x81.n x81.res x81.kv x81.code) (r [v 89 7,v 6 89] .ret))))))))⟩
def x37_0:XC:=let i:Ty:=.int .i64;let a:Ty:=.st (.cons i i);let v (d x:Nat):XO:=⟨some d,.mv,[.t x],none,[]⟩;let u (d:Nat) (p:XOp) (l:List XA) (a:List Nat):XO:=⟨some d,p,l,none,a⟩;(.seq (.reg false [u 14 (.bin .lss) [.t 13,.t 12] []]) (.seq (.cond (.t 14) .skip (.exit 0)) (.seq (.block 1 (.seq (.reg false [v 15 13,v 5 15]) (.seq (.reg true [v 16 0,v 17 5,u 18 (.iaddr a) [.t 16,.t 17] [0,1],u 19 (.load a) [.t 18] [2,0,1],v 20 1,v 21 5,u 22 (.iaddr a) [.t 20,.t 21] [4,5],u 23 (.load a) [.t 22] [6,4,5],u 24 (.steq true a) [.t 19,.t 23] [3,2,0,1,7,6,4,5]]) (.cond (.t 24) (.seq (.reg false [u 4 .mv [.bool false] []]) .ret) .skip)))) (.reg false [u 25 (.bin .add) [.t 13,.int .i64 1] [],v 13 25]))))
def x37_0d:List Nat:=[4,5,13]
def x37:XF:=let v (d x:Nat):XO:=⟨some d,.mv,[.t x],none,[]⟩;let o (d:Nat) (p:XOp) (l:List XA):XO:=⟨some d,p,l,none,[]⟩;let r (l:List XO) (c:XC):XC:=.seq (.reg false l) c;⟨26,[.tmp 4],[0,1,4,5,12,13],(r [o 4 .mv [.bool false]] (.seq (r [v 6 0,o 7 (.len false) [.t 6],v 8 1,o 9 (.len false) [.t 8],o 10 (.bin .neq) [.t 7,.t 9]] (.cond (.t 10) (r [o 4 .mv [.bool false]] .ret) .skip)) (.clean (.seq (r [v 11 0,o 12 (.len false) [.t 11],o 13 .mv [.int .i64 0]] (.block 0 (.loop x37_0))) (r [o 4 .mv [.bool true]] .ret)))))⟩
def x39:XF:=let i:Ty:=.int .i64;let d:Ty:=.st (.cons i i);let c:Ty:=.sl d;let b:Ty:=.st (.cons i (.cons i i));let a:Ty:=.sl b;let l (d:Nat) (t:Ty) (x:Nat):XO:=⟨some d,.load t,[.t x],none,[]⟩;let v (d x:Nat):XO:=⟨some d,.mv,[.t x],none,[]⟩;let o (d:Nat) (p:XOp) (l:List XA):XO:=⟨some d,p,l,none,[]⟩;let w (d:Nat) (p:XOp) (l:List XA) (j t:Nat) (b:Bool):XO:=⟨some d,p,l,some (j,t,b),[]⟩;let r (l:List XO) (c:XC):XC:=.seq (.reg false l) c;let t:=XA.t;⟨50,[.tmp 2],[0,1,2,3,4,5,6],(r [o 1 (.box 46) [t 0],o 2 .mv [.bool false]] (r [o 7 (.faddr 0 c) [t 1],l 8 c 7,o 9 (.len false) [t 8],o 3 (.alloc 3 i) [],⟨none,.store i,[t 3,t 9],none,[]⟩] (.seq (r [l 10 i 3,o 11 (.bin .lss) [t 10,.int .i64 1],v 12 11,w 13 (.load i) [t 3] 2 12 false,w 14 (.bin .gtr) [t 13,.int .i64 82] 2 12 false,o 15 .pick [t 12,.bool true,t 14],v 16 15,w 17 (.faddr 1 c) [t 1] 6 16 false,w 18 (.load c) [t 17] 6 16 false,w 19 (.len false) [t 18] 6 16 false,w 20 (.load i) [t 3] 6 16 false,w 21 (.bin .sub) [t 20,.int .i64 1] 6 16 false,w 22 (.bin .neq) [t 19,t 21] 6 16 false,o 23 .pick [t 16,.bool true,t 22],v 24 23,w 25 (.faddr 2 a) [t 1] 14 24 false,w 26 (.load a) [t 25] 14 24 false,w 27 (.len false) [t 26] 14 24 false,w 28 (.bin .gtr) [t 27,.int .i64 200] 14 24 false,o 29 .pick [t 24,.bool true,t 28]] (.cond (t 29) (r [o 2 .mv [.bool false]] .ret) .skip)) (.clean (r [o 4 .mv [.fn 87]] (r [o 5 .mv [.fn 88]] (r [o 30 (.mkfn 89) [t 3],v 6 30] (r [o 31 (.faddr 0 c) [t 1],l 32 c 31,v 33 4,o 34 (.call 90) [t 32,t 33],o 35 .not [t 34],v 36 35,w 37 (.faddr 1 c) [t 1] 5 36 true,w 38 (.load c) [t 37] 5 36 true,w 39 .mv [t 5] 5 36 true,w 40 (.call 91) [t 38,t 39] 5 36 true,w 41 .not [t 40] 5 36 true,o 42 .pick [t 36,t 41,.bool false],v 43 42,w 44 (.faddr 2 a) [t 1] 12 43 true,w 45 (.load a) [t 44] 12 43 true,w 46 .mv [t 6] 12 43 true,w 47 (.call 92) [t 45,t 46] 12 43 true,w 48 .not [t 47] 12 43 true,o 49 .pick [t 43,t 48,.bool false],v 2 49] .ret))))))))⟩
def x47:XF:=let i:Ty:=.int .i64;let e:Ty:=.st (.cons i i);let d:Ty:=.sl e;let c:Ty:=.st (.cons i (.cons i i));let b:Ty:=.sl c;let a:Ty:=.st (.cons d (.cons d b));let v (d x:Nat):XO:=⟨some d,.mv,[.t x],none,[]⟩;let o (d:Nat) (p:XOp) (l:List XA):XO:=⟨some d,p,l,none,[]⟩;let w (d:Nat) (p:XOp) (l:List XA) (j t:Nat) (b:Bool):XO:=⟨some d,p,l,some (j,t,b),[]⟩;let t:=XA.t;⟨22,[.tmp 4],[0,1,2,4,5],(.seq (.reg false [o 2 (.box 46) [t 0],o 4 .mv [.bool false]]) (.seq (.reg false [o 5 .mv [.fn 104]]) (.seq (.reg false [o 6 (.load a) [t 2],o 7 (.call 39) [t 6],v 8 7,w 9 .mv [t 1] 2 8 true,w 10 (.len false) [t 9] 2 8 true,w 11 (.faddr 0 d) [t 2] 2 8 true,w 12 (.load d) [t 11] 2 8 true,w 13 (.len false) [t 12] 2 8 true,w 14 (.bin .eql) [t 10,t 13] 2 8 true,o 15 .pick [t 8,t 14,.bool false],v 16 15,w 17 .mv [t 1] 10 16 true,w 18 .mv [t 5] 10 16 true,w 19 (.call 85) [t 17,t 18] 10 16 true,w 20 .not [t 19] 10 16 true,o 21 .pick [t 16,t 20,.bool false],v 4 21]) .ret)))⟩
def x48_0:XC:=let i:Ty:=.int .i64;let v (d x:Nat):XO:=⟨some d,.mv,[.t x],none,[]⟩;let u (d:Nat) (p:XOp) (l:List XA) (a:List Nat):XO:=⟨some d,p,l,none,a⟩;let t:=XA.t;(.seq (.reg false [u 16 (.bin .lss) [t 15,t 14] []]) (.seq (.cond (t 16) .skip (.exit 0)) (.seq (.block 1 (.seq (.reg false [v 17 15,u 18 (.iaddr i) [t 13,t 15] [],u 19 (.load i) [t 18] [],v 6 17,v 7 19]) (.reg true [v 20 5,v 21 5,v 22 6,u 23 (.iaddr i) [t 21,t 22] [1,2],u 24 (.load i) [t 23] [3,1,2],v 25 7,u 26 (.bin .add) [t 24,t 25] [4,3,1,2,5],v 27 0,v 28 6,u 29 (.bin .add) [t 28,.int .i64 1] [8],u 30 (.iaddr i) [t 27,t 29] [7,9,8],u 31 (.load i) [t 30] [10,7,9,8],u 32 .max [t 26,t 31] [6,4,3,1,2,5,11,10,7,9,8],⟨some 33,.bslice 3 i 1 [0],[t 32],none,[12,6,4,3,1,2,5,11,10,7,9,8]⟩,u 34 (.append 3 i 8) [t 20,t 33] [0,13,12,6,4,3,1,2,5,11,10,7,9,8],u 5 .mv [t 34] [14,0,13,12,6,4,3,1,2,5,11,10,7,9,8]]))) (.reg false [u 35 (.bin .add) [t 15,.int .i64 1] [],v 15 35]))))
def x48_0d:List Nat:=[5,6,7,15]
def x48:XF:=let i:Ty:=.int .i64;let v (d x:Nat):XO:=⟨some d,.mv,[.t x],none,[]⟩;let o (d:Nat) (p:XOp) (l:List XA):XO:=⟨some d,p,l,none,[]⟩;let r (l:List XO) (c:XC):XC:=.seq (.reg false l) c;⟨37,[.tmp 4],[0,1,4,5,6,7,13,14,15],(r [o 4 (.nilrow 3 i) []] (r [v 8 0,o 9 (.iaddr i) [.t 8,.int .i64 0],o 10 (.load i) [.t 9],o 11 .max [.int .i64 0,.t 10],⟨some 12,.bslice 3 i 1 [0],[.t 11],none,[]⟩,v 5 12] (.clean (.seq (r [v 13 1,o 14 (.len false) [.t 13],o 15 .mv [.int .i64 0]] (.block 0 (.loop x48_0))) (r [v 36 5,v 4 36] .ret)))))⟩
def x50:XF:=let i:Ty:=.int .i64;let a:Ty:=.st (.cons i .bool);let v (d x:Nat):XO:=⟨some d,.mv,[.t x],none,[]⟩;let r (l:List XO) (c:XC):XC:=.seq (.reg false l) c;⟨8,[.tmp 2],[0,2],(r [⟨some 2,.nilrow 57 a,[],none,[]⟩] (.seq (r [v 3 0,⟨some 4,.isnil false a,[.t 3],none,[]⟩] (.cond (.t 4) (r [⟨some 2,.nilrow 57 a,[],none,[]⟩] .ret) .skip)) (r [⟨some 5,.bslice 57 a 0 [],[],none,[]⟩,v 6 0,⟨some 7,.append 57 a 16,[.t 5,.t 6],none,[]⟩,v 2 7] .ret)))⟩
def x63:XF:=let i:Ty:=.int .i64;let v (d x:Nat):XO:=⟨some d,.mv,[.t x],none,[]⟩;let o (d:Nat) (p:XOp) (l:List XA):XO:=⟨some d,p,l,none,[]⟩;let w (d:Nat) (p:XOp) (l:List XA) (j t:Nat) (b:Bool):XO:=⟨some d,p,l,some (j,t,b),[]⟩;let t:=XA.t;⟨24,[.tmp 4],[0,1,2,4,5],(.seq (.reg false [o 2 (.box 3) [t 0],o 4 .mv [.bool false]]) (.seq (.reg false [o 6 (.mkfn 123) [t 2],v 5 6]) (.seq (.reg false [o 7 (.load i) [t 2],o 8 (.bin .geq) [t 7,.int .i64 1],v 9 8,w 10 (.load i) [t 2] 2 9 true,w 11 (.bin .leq) [t 10,.int .i64 2000] 2 9 true,o 12 .pick [t 9,t 11,.bool false],v 13 12,w 14 .mv [t 1] 6 13 true,w 15 (.len false) [t 14] 6 13 true,w 16 (.bin .leq) [t 15,.int .i64 20000] 6 13 true,o 17 .pick [t 13,t 16,.bool false],v 18 17,w 19 .mv [t 1] 11 18 true,w 20 .mv [t 5] 11 18 true,w 21 (.call 125) [t 19,t 20] 11 18 true,w 22 .not [t 21] 11 18 true,o 23 .pick [t 18,t 22,.bool false],v 4 23]) .ret)))⟩
def x67:XF:=let v (d x:Nat):XO:=⟨some d,.mv,[.t x],none,[]⟩;⟨9,[.tmp 4],[0,1,4],(.seq (.reg false [⟨some 4,.mv,[.bool false],none,[]⟩]) (.seq (.reg false [v 5 0,v 6 1,⟨some 7,.call 126,[.t 5,.t 6],none,[]⟩,⟨some 8,.bin .geq,[.t 7,.int .i64 0],none,[]⟩,v 4 8]) .ret))⟩
def x68:XF:=let v (d x:Nat):XO:=⟨some d,.mv,[.t x],none,[]⟩;⟨9,[.tmp 4],[0,1,4],(.seq (.reg false [⟨some 4,.mv,[.bool false],none,[]⟩]) (.seq (.reg false [v 5 0,v 6 1,⟨some 7,.call 127,[.t 5,.t 6],none,[]⟩,⟨some 8,.bin .geq,[.t 7,.int .i64 0],none,[]⟩,v 4 8]) .ret))⟩
def x69:XF:=let v (d x:Nat):XO:=⟨some d,.mv,[.t x],none,[]⟩;⟨9,[.tmp 4],[0,1,4],(.seq (.reg false [⟨some 4,.mv,[.bool false],none,[]⟩]) (.seq (.reg false [v 5 0,v 6 1,⟨some 7,.call 128,[.t 5,.t 6],none,[]⟩,⟨some 8,.bin .geq,[.t 7,.int .i64 0],none,[]⟩,v 4 8]) .ret))⟩
def x70:XF:=let i:Ty:=.int .i64;let v (d x:Nat):XO:=⟨some d,.mv,[.t x],none,[]⟩;let o (d:Nat) (p:XOp) (l:List XA):XO:=⟨some d,p,l,none,[]⟩;let w (d:Nat) (p:XOp) (l:List XA) (j t:Nat) (b:Bool):XO:=⟨some d,p,l,some (j,t,b),[]⟩;let r (l:List XO) (c:XC):XC:=.seq (.reg false l) c;let t:=XA.t;⟨47,[.tmp 6],[0,1,2,3,6,7,8],(r [o 3 (.box 27) [t 0],o 6 .mv [.bool false]] (r [o 7 .mv [.fn 129]] (r [o 9 (.faddr 0 i) [t 3],o 10 (.load i) [t 9],o 11 (.call 130) [t 10,.int .i64 1,.int .i64 1048576],v 12 11,w 13 (.faddr 1 i) [t 3] 3 12 true,w 14 (.load i) [t 13] 3 12 true,w 15 (.call 130) [t 14,.int .i64 1,.int .i64 1048576] 3 12 true,o 16 .pick [t 12,t 15,.bool false],v 17 16,w 18 (.faddr 2 i) [t 3] 8 17 true,w 19 (.load i) [t 18] 8 17 true,w 20 (.call 130) [t 19,.int .i64 1,.int .i64 1048576] 8 17 true,o 21 .pick [t 17,t 20,.bool false],v 8 21] (.clean (r [v 22 8,v 23 22,w 24 .mv [t 1] 1 23 true,w 25 (.len false) [t 24] 1 23 true,w 26 (.bin .leq) [t 25,.int .i64 80] 1 23 true,o 27 .pick [t 23,t 26,.bool false],v 28 27,w 29 .mv [t 2] 6 28 true,w 30 (.len false) [t 29] 6 28 true,w 31 .mv [t 1] 6 28 true,w 32 (.len false) [t 31] 6 28 true,w 33 (.bin .eql) [t 30,t 32] 6 28 true,o 34 .pick [t 28,t 33,.bool false],v 35 34,w 36 .mv [t 1] 13 35 true,w 37 .mv [t 7] 13 35 true,w 38 (.call 91) [t 36,t 37] 13 35 true,w 39 .not [t 38] 13 35 true,o 40 .pick [t 35,t 39,.bool false],v 41 40,w 42 .mv [t 2] 19 41 true,w 43 .mv [t 7] 19 41 true,w 44 (.call 91) [t 42,t 43] 19 41 true,w 45 .not [t 44] 19 41 true,o 46 .pick [t 41,t 45,.bool false],v 6 46] .ret)))))⟩
def x76:XF:=let v (d x:Nat):XO:=⟨some d,.mv,[.t x],none,[]⟩;⟨9,[.tmp 2],[0,2],(.seq (.reg false [⟨some 2,.mv,[.bool false],none,[]⟩]) (.seq (.reg false [v 3 0,⟨some 4,.bin .geq,[.t 3,.int .i64 0],none,[]⟩,v 5 4,⟨some 6,.mv,[.t 0],some (2,5,true),[]⟩,⟨some 7,.bin .leq,[.t 6,.int .i64 1048576],some (2,5,true),[]⟩,⟨some 8,.pick,[.t 5,.t 7,.bool false],none,[]⟩,v 2 8]) .ret))⟩
def x83:XF:=let i:Ty:=.int .i64;let a:Ty:=.st (.cons i (.cons i i));let v (d x:Nat):XO:=⟨some d,.mv,[.t x],none,[]⟩;let o (d:Nat) (p:XOp) (l:List XA):XO:=⟨some d,p,l,none,[]⟩;let w (d:Nat) (p:XOp) (l:List XA) (j t:Nat) (b:Bool):XO:=⟨some d,p,l,some (j,t,b),[]⟩;let r (l:List XO) (c:XC):XC:=.seq (.reg false l) c;let t:=XA.t;⟨36,[.tmp 6,.tmp 7],[0,1,2,3,6,7,8,9,10],(r [o 3 (.box 53) [t 0],o 6 .mv [.int .i64 0],o 7 .mv [.int .i64 0]] (r [v 12 1,v 13 2,o 14 (.call 140) [t 12,t 13],v 11 14,o 15 (.extract 0) [t 11],o 16 (.extract 1) [t 11],v 8 15,v 9 16] (.clean (.seq (r [v 17 9,o 18 (.bin .neq) [t 17,.int .i64 0],v 19 18,w 20 (.faddr 4 i) [t 3] 2 19 false,w 21 (.load i) [t 20] 2 19 false,w 22 (.faddr 5 i) [t 3] 2 19 false,w 23 (.load i) [t 22] 2 19 false,w 24 (.faddr 6 i) [t 3] 2 19 false,w 25 (.load i) [t 24] 2 19 false,⟨some 26,.build a [(0,i),(1,i),(2,i)],[t 21,t 23,t 25],some (2,19,false),[]⟩,w 27 (.call 141) [t 26] 2 19 false,w 28 .not [t 27] 2 19 false,o 29 .pick [t 19,.bool true,t 28]] (.cond (t 29) (r [o 6 .mv [.int .i64 0],o 7 .mv [.int .i64 1]] .ret) .skip)) (.clean (r [v 30 8,o 31 (.mkfn 143) [t 3],o 32 (.call 142) [t 30,t 31],v 10 32] (.seq (r [v 33 10,o 34 (.bin .geq) [t 33,.int .i64 0]] (.cond (t 34) (r [v 35 10,v 6 35,o 7 .mv [.int .i64 27]] .ret) .skip)) (r [o 6 .mv [.int .i64 0],o 7 .mv [.int .i64 0]] .ret))))))))⟩
def x84_0:XC:=let i:Ty:=.int .i64;let a:Ty:=.st (.cons i (.cons i .bool));let v (d x:Nat):XO:=⟨some d,.mv,[.t x],none,[]⟩;let o (d:Nat) (p:XOp) (l:List XA):XO:=⟨some d,p,l,none,[]⟩;let w (d:Nat) (p:XOp) (l:List XA) (j t:Nat) (b:Bool):XO:=⟨some d,p,l,some (j,t,b),[]⟩;let r (l:List XO) (c:XC):XC:=.seq (.reg false l) c;let t:=XA.t;(r [o 18 (.bin .lss) [t 17,t 16]] (.seq (.cond (t 18) .skip (.exit 0)) (.seq (.block 1 (r [o 19 (.iaddr a) [t 15,t 17],o 20 (.load a) [t 19],o 8 (.alloc 122 a) [],⟨none,.store a,[t 8,t 20],none,[]⟩] (r [o 9 (.alloc 4 .bool) [],o 10 (.alloc 4 .bool) [],⟨none,.store .bool,[t 9,.bool false],none,[]⟩,⟨none,.store .bool,[t 10,.bool false],none,[]⟩] (.seq (.icall false [v 21 1,o 22 (.mkfn 145) [t 8,t 5,t 9,t 10]] ⟨some 23,.callv,[.fn 144,t 21,t 22],none,[]⟩ [] 144 x144.n x144.res x144.kv x144.code) (r [o 24 (.faddr 2 .bool) [t 8],o 25 (.load .bool) [t 24],v 26 25,w 27 (.load .bool) [t 9] 2 26 true,o 28 .pick [t 26,t 27,.bool false],v 29 28,w 30 (.load .bool) [t 10] 5 29 true,w 31 .not [t 30] 5 29 true,o 32 .pick [t 29,t 31,.bool false],v 33 32,w 34 (.faddr 2 .bool) [t 8] 9 33 false,w 35 (.load .bool) [t 34] 9 33 false,w 36 .not [t 35] 9 33 false,w 37 .mv [t 36] 9 33 false,w 38 (.load .bool) [t 10] 13 37 true,w 39 .pick [t 37,t 38,.bool false] 9 33 false,o 40 .pick [t 33,.bool true,t 39]] (.cond (t 40) (r [o 6 .mv [.bool false]] .ret) .skip)))))) (.reg false [o 41 (.bin .add) [t 17,.int .i64 1],v 17 41]))))
def x84_0d:List Nat:=[6,8,9,10,17]
def x84:XF:=let i:Ty:=.int .i64;let b:Ty:=.st (.cons i (.cons i (.cons i (.cons i (.cons i (.cons i (.cons i (.cons i (.cons i i)))))))));let a:Ty:=.sl b;let o (d:Nat) (p:XOp) (l:List XA):XO:=⟨some d,p,l,none,[]⟩;let r (l:List XO) (c:XC):XC:=.seq (.reg false l) c;⟨42,[.tmp 6],[0,1,2,5,6,8,9,10,15,16,17],(r [o 5 (.box 24) [.t 2],o 6 .mv [.bool false]] (.seq (r [o 11 .mv [.t 1],o 12 (.load a) [.t 5],o 13 (.call 100) [.t 11,.t 12],o 14 .not [.t 13]] (.cond (.t 14) (r [o 6 .mv [.bool false]] .ret) .skip)) (.clean (.seq (r [o 15 .mv [.t 0],o 16 (.len false) [.t 15],o 17 .mv [.int .i64 0]] (.block 0 (.loop x84_0))) (r [o 6 .mv [.bool true]] .ret)))))⟩
def x85:XF:=let v (d x:Nat):XO:=⟨some d,.mv,[.t x],none,[]⟩;⟨9,[.tmp 4],[0,1,4],(.seq (.reg false [⟨some 4,.mv,[.bool false],none,[]⟩]) (.seq (.reg false [v 5 0,v 6 1,⟨some 7,.call 147,[.t 5,.t 6],none,[]⟩,⟨some 8,.bin .geq,[.t 7,.int .i64 0],none,[]⟩,v 4 8]) .ret))⟩
def x87:XF:=let i:Ty:=.int .i64;let v (d x:Nat):XO:=⟨some d,.mv,[.t x],none,[]⟩;let o (d:Nat) (p:XOp) (l:List XA):XO:=⟨some d,p,l,none,[]⟩;let w (d:Nat) (p:XOp) (l:List XA) (j t:Nat) (b:Bool):XO:=⟨some d,p,l,some (j,t,b),[]⟩;let t:=XA.t;⟨18,[.tmp 2],[0,1,2],(.seq (.reg false [o 1 (.box 70) [t 0],o 2 .mv [.bool false]]) (.seq (.reg false [o 3 (.faddr 0 i) [t 1],o 4 (.load i) [t 3],o 5 (.bin .lss) [t 4,.int .i64 0],v 6 5,w 7 (.faddr 0 i) [t 1] 3 6 false,w 8 (.load i) [t 7] 3 6 false,w 9 (.faddr 1 i) [t 1] 3 6 false,w 10 (.load i) [t 9] 3 6 false,w 11 (.bin .gtr) [t 8,t 10] 3 6 false,o 12 .pick [t 6,.bool true,t 11],v 13 12,w 14 (.faddr 1 i) [t 1] 10 13 false,w 15 (.load i) [t 14] 10 13 false,w 16 (.bin .gtr) [t 15,.int .i64 1048576] 10 13 false,o 17 .pick [t 13,.bool true,t 16],v 2 17]) .ret))⟩
def x88:XF:=let i:Ty:=.int .i64;let v (d x:Nat):XO:=⟨some d,.mv,[.t x],none,[]⟩;let o (d:Nat) (p:XOp) (l:List XA):XO:=⟨some d,p,l,none,[]⟩;let w (d:Nat) (p:XOp) (l:List XA) (j t:Nat) (b:Bool):XO:=⟨some d,p,l,some (j,t,b),[]⟩;let t:=XA.t;⟨18,[.tmp 2],[0,1,2],(.seq (.reg false [o 1 (.box 72) [t 0],o 2 .mv [.bool false]]) (.seq (.reg false [o 3 (.faddr 0 i) [t 1],o 4 (.load i) [t 3],o 5 (.bin .lss) [t 4,.int .i64 0],v 6 5,w 7 (.faddr 0 i) [t 1] 3 6 false,w 8 (.load i) [t 7] 3 6 false,w 9 (.faddr 1 i) [t 1] 3 6 false,w 10 (.load i) [t 9] 3 6 false,w 11 (.bin .gtr) [t 8,t 10] 3 6 false,o 12 .pick [t 6,.bool true,t 11],v 13 12,w 14 (.faddr 1 i) [t 1] 10 13 false,w 15 (.load i) [t 14] 10 13 false,w 16 (.bin .gtr) [t 15,.int .i64 1048576] 10 13 false,o 17 .pick [t 13,.bool true,t 16],v 2 17]) .ret))⟩
def x89:XF:=let i:Ty:=.int .i64;let v (d x:Nat):XO:=⟨some d,.mv,[.t x],none,[]⟩;let o (d:Nat) (p:XOp) (l:List XA):XO:=⟨some d,p,l,none,[]⟩;let w (d:Nat) (p:XOp) (l:List XA) (j t:Nat) (b:Bool):XO:=⟨some d,p,l,some (j,t,b),[]⟩;let t:=XA.t;⟨30,[.tmp 3],[0,1,2,3],(.seq (.reg false [o 2 (.box 102) [t 0],o 3 .mv [.bool false]]) (.seq (.reg false [o 4 (.faddr 0 i) [t 2],o 5 (.load i) [t 4],o 6 (.bin .lss) [t 5,.int .i64 0],v 7 6,w 8 (.faddr 0 i) [t 2] 3 7 false,w 9 (.load i) [t 8] 3 7 false,w 10 (.faddr 1 i) [t 2] 3 7 false,w 11 (.load i) [t 10] 3 7 false,w 12 (.bin .geq) [t 9,t 11] 3 7 false,o 13 .pick [t 7,.bool true,t 12],v 14 13,w 15 (.faddr 1 i) [t 2] 10 14 false,w 16 (.load i) [t 15] 10 14 false,w 17 (.load i) [t 1] 10 14 false,w 18 (.bin .geq) [t 16,t 17] 10 14 false,o 19 .pick [t 14,.bool true,t 18],v 20 19,w 21 (.faddr 2 i) [t 2] 16 20 false,w 22 (.load i) [t 21] 16 20 false,w 23 (.bin .lss) [t 22,.int .i64 0] 16 20 false,o 24 .pick [t 20,.bool true,t 23],v 25 24,w 26 (.faddr 2 i) [t 2] 21 25 false,w 27 (.load i) [t 26] 21 25 false,w 28 (.bin .gtr) [t 27,.int .i64 1048576] 21 25 false,o 29 .pick [t 25,.bool true,t 28],v 3 29]) .ret))⟩
def x90:XF:=let v (d x:Nat):XO:=⟨some d,.mv,[.t x],none,[]⟩;⟨9,[.tmp 4],[0,1,4],(.seq (.reg false [⟨some 4,.mv,[.bool false],none,[]⟩]) (.seq (.reg false [v 5 0,v 6 1,⟨some 7,.call 148,[.t 5,.t 6],none,[]⟩,⟨some 8,.bin .geq,[.t 7,.int .i64 0],none,[]⟩,v 4 8]) .ret))⟩
def x91:XF:=let v (d x:Nat):XO:=⟨some d,.mv,[.t x],none,[]⟩;⟨9,[.tmp 4],[0,1,4],(.seq (.reg false [⟨some 4,.mv,[.bool false],none,[]⟩]) (.seq (.reg false [v 5 0,v 6 1,⟨some 7,.call 149,[.t 5,.t 6],none,[]⟩,⟨some 8,.bin .geq,[.t 7,.int .i64 0],none,[]⟩,v 4 8]) .ret))⟩
def x92:XF:=let v (d x:Nat):XO:=⟨some d,.mv,[.t x],none,[]⟩;⟨9,[.tmp 4],[0,1,4],(.seq (.reg false [⟨some 4,.mv,[.bool false],none,[]⟩]) (.seq (.reg false [v 5 0,v 6 1,⟨some 7,.call 150,[.t 5,.t 6],none,[]⟩,⟨some 8,.bin .geq,[.t 7,.int .i64 0],none,[]⟩,v 4 8]) .ret))⟩
def x96_0:XC:=let i:Ty:=.int .i64;let a:Ty:=.sl i;let v (d x:Nat):XO:=⟨some d,.mv,[.t x],none,[]⟩;let o (d:Nat) (p:XOp) (l:List XA):XO:=⟨some d,p,l,none,[]⟩;let r (l:List XO) (c:XC):XC:=.seq (.reg false l) c;(r [o 12 (.bin .lss) [.t 11,.t 10]] (.seq (.cond (.t 12) .skip (.exit 0)) (.seq (.block 1 (r [o 13 (.iaddr a) [.t 9,.t 11],o 14 (.load a) [.t 13],v 5 14] (r [v 15 3,v 16 5,o 17 (.len false) [.t 16],o 18 (.bin .add) [.t 15,.t 17],v 3 18] (r [v 19 3,o 20 (.bin .lss) [.t 19,.int .i64 0]] (.cond (.t 20) .dead  .skip))))) (.reg false [o 22 (.bin .add) [.t 11,.int .i64 1],v 11 22]))))
def x96_0d:List Nat:=[3,5,11]
def x96_1:XC:=let i:Ty:=.int .i64;let a:Ty:=.sl i;let v (d x:Nat):XO:=⟨some d,.mv,[.t x],none,[]⟩;let o (d:Nat) (p:XOp) (l:List XA):XO:=⟨some d,p,l,none,[]⟩;(.seq (.reg false [o 28 (.bin .lss) [.t 27,.t 26]]) (.seq (.cond (.t 28) .skip (.exit 2)) (.seq (.block 3 (.seq (.reg false [o 29 (.iaddr a) [.t 25,.t 27],o 30 (.load a) [.t 29],v 8 30]) (.reg false [v 31 6,v 32 8,o 33 (.append 3 i 8) [.t 31,.t 32],v 6 33]))) (.reg false [o 34 (.bin .add) [.t 27,.int .i64 1],v 27 34]))))
def x96_1d:List Nat:=[6,8,27]
def x96:XF:=let i:Ty:=.int .i64;let v (d x:Nat):XO:=⟨some d,.mv,[.t x],none,[]⟩;let o (d:Nat) (p:XOp) (l:List XA):XO:=⟨some d,p,l,none,[]⟩;let r (l:List XO) (c:XC):XC:=.seq (.reg false l) c;⟨36,[.tmp 2],[0,2,3,5,6,8,9,10,11,25,26,27],(r [o 2 (.nilrow 3 i) []] (r [o 3 .mv [.int .i64 0]] (.seq (r [v 9 0,o 10 (.len false) [.t 9],o 11 .mv [.int .i64 0]] (.block 0 (.loop x96_0))) (.clean (r [v 23 3,o 24 (.call 151) [.nil,.t 23],v 6 24] (.seq (r [v 25 0,o 26 (.len false) [.t 25],o 27 .mv [.int .i64 0]] (.block 2 (.loop x96_1))) (r [v 35 6,v 2 35] .ret)))))))⟩
def x99:XF:=let i:Ty:=.int .i64;let a:Ty:=.st (.cons i (.cons i i));let v (d x:Nat):XO:=⟨some d,.mv,[.t x],none,[]⟩;let o (d:Nat) (p:XOp) (l:List XA):XO:=⟨some d,p,l,none,[]⟩;let r (l:List XO) (c:XC):XC:=.seq (.reg false l) c;let t:=XA.t;⟨27,[.tmp 6,.tmp 7],[0,1,2,3,6,7,10],(r [o 3 (.box 27) [t 0],o 6 .mv [.int .i64 0],o 7 .mv [.int .i64 0]] (.seq (r [o 11 (.load a) [t 3],v 12 1,v 13 2,o 14 (.call 70) [t 11,t 12,t 13],o 15 .not [t 14]] (.cond (t 15) (r [o 6 .mv [.int .i64 0],o 7 .mv [.int .i64 1]] .ret) .skip)) (.clean (.seq (r [o 17 (.load a) [t 3],v 18 1,v 19 2,o 20 (.call 153) [t 17,t 18,t 19],v 16 20,o 21 (.extract 0) [t 16],o 22 (.extract 1) [t 16],o 23 (.extract 2) [t 16],v 8 21,v 9 22,v 10 23] (.clean (r [v 24 10,o 25 (.bin .geq) [t 24,.int .i64 0]] (.cond (t 25) (r [v 26 10,v 6 26,o 7 .mv [.int .i64 29]] .ret) .skip)))) (r [o 6 .mv [.int .i64 0],o 7 .mv [.int .i64 0]] .ret)))))⟩
def x100_0:XC:=let i:Ty:=.int .i64;let b:Ty:=.st (.cons i .bool);let a:Ty:=.st (.cons i (.cons i (.cons i (.cons i (.cons i (.cons i (.cons i (.cons i (.cons i i)))))))));let l (d:Nat) (t:Ty) (x:Nat):XO:=⟨some d,.load t,[.t x],none,[]⟩;let v (d x:Nat):XO:=⟨some d,.mv,[.t x],none,[]⟩;let o (d:Nat) (p:XOp) (l:List XA):XO:=⟨some d,p,l,none,[]⟩;let u (d:Nat) (p:XOp) (l:List XA) (a:List Nat):XO:=⟨some d,p,l,none,a⟩;let x (d:Nat) (p:XOp) (l:List XA) (j t:Nat) (b:Bool) (a:List Nat):XO:=⟨some d,p,l,some (j,t,b),a⟩;let r (l:List XO) (c:XC):XC:=.seq (.reg false l) c;let t:=XA.t;(.seq (r [v 20 6,o 21 (.bin .geq) [t 20,.int .i64 0]] (.cond (t 21) .skip (.exit 0))) (.seq (.block 1 (r [v 24 0,v 25 6,o 26 (.iaddr b) [t 24,t 25],l 27 b 26,o 7 (.alloc 57 b) [],⟨none,.store b,[t 7,t 27],none,[]⟩] (.seq (.seq (.reg true [o 28 (.faddr 0 i) [t 7],u 29 (.load i) [t 28] [0],u 30 (.bin .lss) [t 29,.int .i64 0] [1,0],u 31 .mv [t 30] [2,1,0],x 32 (.faddr 0 i) [t 7] 3 31 false [3,2,1,0],x 33 (.load i) [t 32] 3 31 false [4,3,2,1,0],x 34 .mv [t 1] 3 31 false [3,2,1,0],x 35 (.len false) [t 34] 3 31 false [6,3,2,1,0],x 36 (.bin .geq) [t 33,t 35] 3 31 false [5,4,3,2,1,0,7,6],u 37 .pick [t 31,.bool true,t 36] [3,2,1,0,8,5,4,7,6],u 38 .mv [t 37] [9,3,2,1,0,8,5,4,7,6],x 39 .mv [t 1] 10 38 false [10,9,3,2,1,0,8,5,4,7,6],x 40 (.faddr 0 i) [t 7] 10 38 false [10,9,3,2,1,0,8,5,4,7,6],x 41 (.load i) [t 40] 10 38 false [12,10,9,3,2,1,0,8,5,4,7,6],x 42 (.iaddr a) [t 39,t 41] 10 38 false [11,10,9,3,2,1,0,8,5,4,7,6,13,12],x 43 (.load a) [t 42] 10 38 false [14,11,10,9,3,2,1,0,8,5,4,7,6,13,12],x 44 (.call 154) [t 43] 10 38 false [15,14,11,10,9,3,2,1,0,8,5,4,7,6,13,12],x 45 (.call 141) [t 44] 10 38 false [16,15,14,11,10,9,3,2,1,0,8,5,4,7,6,13,12],x 46 .not [t 45] 10 38 false [17,16,15,14,11,10,9,3,2,1,0,8,5,4,7,6,13,12],u 47 .pick [t 38,.bool true,t 46] [10,9,3,2,1,0,8,5,4,7,6,18,17,16,15,14,11,13,12],u 48 .mv [t 47] [19,10,9,3,2,1,0,8,5,4,7,6,18,17,16,15,14,11,13,12],x 49 .mv [t 0] 20 48 false [20,19,10,9,3,2,1,0,8,5,4,7,6,18,17,16,15,14,11,13,12],x 50 .mv [t 6] 20 48 false [20,19,10,9,3,2,1,0,8,5,4,7,6,18,17,16,15,14,11,13,12],x 51 (.slice b false true false) [t 49,t 50] 20 48 false [21,20,19,10,9,3,2,1,0,8,5,4,7,6,18,17,16,15,14,11,13,12,22],x 52 (.load b) [t 7] 20 48 false [20,19,10,9,3,2,1,0,8,5,4,7,6,18,17,16,15,14,11,13,12],x 53 (.call 155) [t 51,t 52] 20 48 false [23,21,20,19,10,9,3,2,1,0,8,5,4,7,6,18,17,16,15,14,11,13,12,22,24],u 54 .pick [t 48,.bool true,t 53] [20,19,10,9,3,2,1,0,8,5,4,7,6,18,17,16,15,14,11,13,12,25,23,21,22,24],u 55 .mv [t 54] [26,20,19,10,9,3,2,1,0,8,5,4,7,6,18,17,16,15,14,11,13,12,25,23,21,22,24],x 56 (.faddr 1 .bool) [t 7] 27 55 false [27,26,20,19,10,9,3,2,1,0,8,5,4,7,6,18,17,16,15,14,11,13,12,25,23,21,22,24],x 57 (.load .bool) [t 56] 27 55 false [28,27,26,20,19,10,9,3,2,1,0,8,5,4,7,6,18,17,16,15,14,11,13,12,25,23,21,22,24],x 58 .mv [t 57] 27 55 false [29,28,27,26,20,19,10,9,3,2,1,0,8,5,4,7,6,18,17,16,15,14,11,13,12,25,23,21,22,24],x 59 .mv [t 5] 30 58 true [30,29,28,27,26,20,19,10,9,3,2,1,0,8,5,4,7,6,18,17,16,15,14,11,13,12,25,23,21,22,24],x 60 (.faddr 0 i) [t 7] 30 58 true [30,29,28,27,26,20,19,10,9,3,2,1,0,8,5,4,7,6,18,17,16,15,14,11,13,12,25,23,21,22,24],x 61 (.load i) [t 60] 30 58 true [32,30,29,28,27,26,20,19,10,9,3,2,1,0,8,5,4,7,6,18,17,16,15,14,11,13,12,25,23,21,22,24],x 62 (.mapget .i64 .bool false) [t 59,t 61] 30 58 true [31,30,29,28,27,26,20,19,10,9,3,2,1,0,8,5,4,7,6,18,17,16,15,14,11,13,12,25,23,21,22,24,33,32],x 63 .not [t 62] 30 58 true [34,31,30,29,28,27,26,20,19,10,9,3,2,1,0,8,5,4,7,6,18,17,16,15,14,11,13,12,25,23,21,22,24,33,32],x 64 .pick [t 58,t 63,.bool false] 27 55 false [30,29,28,27,26,20,19,10,9,3,2,1,0,8,5,4,7,6,18,17,16,15,14,11,13,12,25,23,21,22,24,35,34,31,33,32],u 65 .pick [t 55,.bool true,t 64] [27,26,20,19,10,9,3,2,1,0,8,5,4,7,6,18,17,16,15,14,11,13,12,25,23,21,22,24,36,30,29,28,35,34,31,33,32]]) (.cond (t 65) (r [o 4 .mv [.bool false]] .ret) .skip)) (.clean (r [o 66 (.faddr 1 .bool) [t 7],l 67 .bool 66,o 68 .not [t 67]] (.cond (t 68) (.reg false [v 69 5,o 70 (.faddr 0 i) [t 7],l 71 i 70,⟨none,.mapset .i64 .bool,[t 69,t 71,.bool true],none,[]⟩]) .skip)))))) (.clean (.reg false [v 22 6,o 23 (.bin .sub) [t 22,.int .i64 1],v 6 23]))))
def x100_0d:List Nat:=[4,6,7]
def x100:XF:=let v (d x:Nat):XO:=⟨some d,.mv,[.t x],none,[]⟩;let o (d:Nat) (p:XOp) (l:List XA):XO:=⟨some d,p,l,none,[]⟩;let r (l:List XO) (c:XC):XC:=.seq (.reg false l) c;⟨72,[.tmp 4],[0,1,4,5,6,7],(r [o 4 .mv [.bool false]] (.seq (r [v 8 0,o 9 (.len false) [.t 8],o 10 (.bin .gtr) [.t 9,.int .i64 80],v 11 10,⟨some 12,.mv,[.t 1],some (3,11,false),[]⟩,⟨some 13,.len false,[.t 12],some (3,11,false),[]⟩,⟨some 14,.bin .gtr,[.t 13,.int .i64 30000],some (3,11,false),[]⟩,o 15 .pick [.t 11,.bool true,.t 14]] (.cond (.t 15) (r [o 4 .mv [.bool false]] .ret) .skip)) (.clean (r [o 16 (.mkmap .i64 .bool) [],v 5 16] (.seq (r [v 17 0,o 18 (.len false) [.t 17],o 19 (.bin .sub) [.t 18,.int .i64 1],v 6 19] (.block 0 (.loop x100_0))) (r [o 4 .mv [.bool true]] .ret))))))⟩
def x104:XF:=let v (d x:Nat):XO:=⟨some d,.mv,[.t x],none,[]⟩;⟨9,[.tmp 2],[0,2],(.seq (.reg false [⟨some 2,.mv,[.bool false],none,[]⟩]) (.seq (.reg false [v 3 0,⟨some 4,.bin .lss,[.t 3,.int .i64 0],none,[]⟩,v 5 4,⟨some 6,.mv,[.t 0],some (2,5,false),[]⟩,⟨some 7,.bin .gtr,[.t 6,.int .i64 2097152],some (2,5,false),[]⟩,⟨some 8,.pick,[.t 5,.bool true,.t 7],none,[]⟩,v 2 8]) .ret))⟩
def x105:XF:=let i:Ty:=.int .i64;let a:Ty:=.sl i;let o (d:Nat) (p:XOp) (l:List XA):XO:=⟨some d,p,l,none,[]⟩;let u (d:Nat) (p:XOp) (l:List XA) (a:List Nat):XO:=⟨some d,p,l,none,a⟩;⟨15,[.tmp 5],[0,1,2,5],(.seq (.reg false [o 5 .mv [.int .i64 0]]) (.seq (.reg true [o 6 (.load a) [.t 2],o 7 .mv [.t 1],u 8 (.iaddr i) [.t 6,.t 7] [0,1],u 9 (.load i) [.t 8] [2,0,1],o 10 (.load a) [.t 2],o 11 .mv [.t 0],u 12 (.iaddr i) [.t 10,.t 11] [4,5],u 13 (.load i) [.t 12] [6,4,5],u 14 (.bin .sub) [.t 9,.t 13] [3,2,0,1,7,6,4,5],u 5 .mv [.t 14] [8,3,2,0,1,7,6,4,5]]) .ret))⟩
def x123:XF:=let i:Ty:=.int .i64;let b:Ty:=.sl i;let a:Ty:=.st (.cons i (.cons i (.cons b b)));let v (d x:Nat):XO:=⟨some d,.mv,[.t x],none,[]⟩;let o (d:Nat) (p:XOp) (l:List XA):XO:=⟨some d,p,l,none,[]⟩;let w (d:Nat) (p:XOp) (l:List XA) (j t:Nat) (b:Bool):XO:=⟨some d,p,l,some (j,t,b),[]⟩;let t:=XA.t;⟨19,[.tmp 3],[0,1,2,3],(.seq (.reg false [o 2 (.box 91) [t 0],o 3 .mv [.bool false]]) (.seq (.reg false [o 4 (.load a) [t 2],o 5 (.call 124) [t 4],o 6 .not [t 5],v 7 6,w 8 (.faddr 0 i) [t 2] 3 7 false,w 9 (.load i) [t 8] 3 7 false,w 10 (.load i) [t 1] 3 7 false,w 11 (.bin .geq) [t 9,t 10] 3 7 false,o 12 .pick [t 7,.bool true,t 11],v 13 12,w 14 (.faddr 1 i) [t 2] 9 13 false,w 15 (.load i) [t 14] 9 13 false,w 16 (.load i) [t 1] 9 13 false,w 17 (.bin .geq) [t 15,t 16] 9 13 false,o 18 .pick [t 13,.bool true,t 17],v 3 18]) .ret))⟩
def x125:XF:=let v (d x:Nat):XO:=⟨some d,.mv,[.t x],none,[]⟩;⟨9,[.tmp 4],[0,1,4],(.seq (.reg false [⟨some 4,.mv,[.bool false],none,[]⟩]) (.seq (.reg false [v 5 0,v 6 1,⟨some 7,.call 172,[.t 5,.t 6],none,[]⟩,⟨some 8,.bin .geq,[.t 7,.int .i64 0],none,[]⟩,v 4 8]) .ret))⟩
def x126_0:XC:=let i:Ty:=.int .i64;let a:Ty:=.st (.cons i (.cons i (.cons i (.cons i (.cons i (.cons i (.cons i (.cons i i))))))));let v (d x:Nat):XO:=⟨some d,.mv,[.t x],none,[]⟩;let r (l:List XO) (c:XC):XC:=.seq (.reg false l) c;(r [⟨some 9,.bin .lss,[.t 8,.t 7],none,[]⟩] (.seq (.cond (.t 9) .skip (.exit 0)) (.seq (.block 1 (r [v 10 8,v 5 10] (r [v 11 1,v 12 0,v 13 5,⟨some 14,.iaddr a,[.t 12,.t 13],none,[]⟩,⟨some 15,.load a,[.t 14],none,[]⟩,⟨some 16,.callv,[.t 11,.t 15],none,[]⟩] (.cond (.t 16) (r [v 17 5,v 4 17] .ret) .skip)))) (.reg false [⟨some 18,.bin .add,[.t 8,.int .i64 1],none,[]⟩,v 8 18]))))
def x126_0d:List Nat:=[4,5,8]
def x126:XF:=let o (d:Nat) (p:XOp) (l:List XA):XO:=⟨some d,p,l,none,[]⟩;⟨19,[.tmp 4],[0,1,4,5,7,8],(.seq (.reg false [o 4 .mv [.int .i64 0]]) (.seq (.seq (.reg false [o 6 .mv [.t 0],o 7 (.len false) [.t 6],o 8 .mv [.int .i64 0]]) (.block 0 (.loop x126_0))) (.seq (.reg false [o 4 .mv [.int .i64 (-1)]]) .ret)))⟩
def x127_0:XC:=let i:Ty:=.int .i64;let a:Ty:=.st (.cons i (.cons i (.cons i (.cons i (.cons i (.cons i (.cons i (.cons i (.cons i i)))))))));let v (d x:Nat):XO:=⟨some d,.mv,[.t x],none,[]⟩;let r (l:List XO) (c:XC):XC:=.seq (.reg false l) c;(r [⟨some 9,.bin .lss,[.t 8,.t 7],none,[]⟩] (.seq (.cond (.t 9) .skip (.exit 0)) (.seq (.block 1 (r [v 10 8,v 5 10] (r [v 11 1,v 12 0,v 13 5,⟨some 14,.iaddr a,[.t 12,.t 13],none,[]⟩,⟨some 15,.load a,[.t 14],none,[]⟩,⟨some 16,.callv,[.t 11,.t 15],none,[]⟩] (.cond (.t 16) (r [v 17 5,v 4 17] .ret) .skip)))) (.reg false [⟨some 18,.bin .add,[.t 8,.int .i64 1],none,[]⟩,v 8 18]))))
def x127_0d:List Nat:=[4,5,8]
def x127:XF:=let o (d:Nat) (p:XOp) (l:List XA):XO:=⟨some d,p,l,none,[]⟩;⟨19,[.tmp 4],[0,1,4,5,7,8],(.seq (.reg false [o 4 .mv [.int .i64 0]]) (.seq (.seq (.reg false [o 6 .mv [.t 0],o 7 (.len false) [.t 6],o 8 .mv [.int .i64 0]]) (.block 0 (.loop x127_0))) (.seq (.reg false [o 4 .mv [.int .i64 (-1)]]) .ret)))⟩
def x128_0:XC:=let i:Ty:=.int .i64;let a:Ty:=.st (.cons i (.cons i .bool));let v (d x:Nat):XO:=⟨some d,.mv,[.t x],none,[]⟩;let r (l:List XO) (c:XC):XC:=.seq (.reg false l) c;(r [⟨some 9,.bin .lss,[.t 8,.t 7],none,[]⟩] (.seq (.cond (.t 9) .skip (.exit 0)) (.seq (.block 1 (r [v 10 8,v 5 10] (r [v 11 1,v 12 0,v 13 5,⟨some 14,.iaddr a,[.t 12,.t 13],none,[]⟩,⟨some 15,.load a,[.t 14],none,[]⟩,⟨some 16,.callv,[.t 11,.t 15],none,[]⟩] (.cond (.t 16) (r [v 17 5,v 4 17] .ret) .skip)))) (.reg false [⟨some 18,.bin .add,[.t 8,.int .i64 1],none,[]⟩,v 8 18]))))
def x128_0d:List Nat:=[4,5,8]
def x128:XF:=let o (d:Nat) (p:XOp) (l:List XA):XO:=⟨some d,p,l,none,[]⟩;⟨19,[.tmp 4],[0,1,4,5,7,8],(.seq (.reg false [o 4 .mv [.int .i64 0]]) (.seq (.seq (.reg false [o 6 .mv [.t 0],o 7 (.len false) [.t 6],o 8 .mv [.int .i64 0]]) (.block 0 (.loop x128_0))) (.seq (.reg false [o 4 .mv [.int .i64 (-1)]]) .ret)))⟩
def x129:XF:=let i:Ty:=.int .i64;let o (d:Nat) (p:XOp) (l:List XA):XO:=⟨some d,p,l,none,[]⟩;⟨14,[.tmp 2],[0,1,2],(.seq (.reg false [o 1 (.box 72) [.t 0],o 2 .mv [.bool false]]) (.seq (.reg false [o 3 (.faddr 0 i) [.t 1],o 4 (.load i) [.t 3],o 5 (.faddr 1 i) [.t 1],o 6 (.load i) [.t 5],o 7 (.call 130) [.t 4,.int .i64 0,.t 6],o 8 .not [.t 7],o 9 .mv [.t 8],⟨some 10,.faddr 1 i,[.t 1],some (6,9,false),[]⟩,⟨some 11,.load i,[.t 10],some (6,9,false),[]⟩,⟨some 12,.bin .gtr,[.t 11,.int .i64 1048576],some (6,9,false),[]⟩,o 13 .pick [.t 9,.bool true,.t 12],o 2 .mv [.t 13]]) .ret))⟩
def x130:XF:=let v (d x:Nat):XO:=⟨some d,.mv,[.t x],none,[]⟩;⟨15,[.tmp 6],[0,1,2,6],(.seq (.reg false [⟨some 6,.mv,[.bool false],none,[]⟩]) (.seq (.reg false [v 7 0,v 8 1,⟨some 9,.bin .geq,[.t 7,.t 8],none,[]⟩,v 10 9,⟨some 11,.mv,[.t 0],some (3,10,true),[]⟩,⟨some 12,.mv,[.t 2],some (3,10,true),[]⟩,⟨some 13,.bin .leq,[.t 11,.t 12],some (3,10,true),[]⟩,⟨some 14,.pick,[.t 10,.t 13,.bool false],none,[]⟩,v 6 14]) .ret))⟩
def x136_0:XC:=let i:Ty:=.int .i64;let a:Ty:=.st (.cons i i);let v (d x:Nat):XO:=⟨some d,.mv,[.t x],none,[]⟩;let u (d:Nat) (p:XOp) (l:List XA) (a:List Nat):XO:=⟨some d,p,l,none,a⟩;(.seq (.seq (.reg false [v 34 8,v 35 7,u 36 (.len false) [.t 35] [],u 37 (.bin .lss) [.t 34,.t 36] []]) (.cond (.t 37) .skip (.exit 0))) (.block 1 (.reg true [v 38 8,v 39 7,v 40 8,u 41 (.slice a true false true) [.t 39,.t 40] [1,2],v 42 7,v 43 8,u 44 (.slice a false true true) [.t 42,.t 43] [4,5],u 45 (.copy 135 a) [.t 41,.t 44] [3,1,2,6,4,5],u 46 (.bin .add) [.t 38,.t 45] [0,7,3,1,2,6,4,5],u 8 .mv [.t 46] [8,0,7,3,1,2,6,4,5]])))
def x136_0d:List Nat:=[8]
def x136:XF:=let i:Ty:=.int .i64;let a:Ty:=.st (.cons i i);let v (d x:Nat):XO:=⟨some d,.mv,[.t x],none,[]⟩;let o (d:Nat) (p:XOp) (l:List XA):XO:=⟨some d,p,l,none,[]⟩;let r (l:List XO) (c:XC):XC:=.seq (.reg false l) c;let t:=XA.t;⟨48,[.tmp 4],[0,1,4,5,6,7,8],(r [o 4 (.nilrow 135 a) []] (.seq (r [v 9 1,o 10 (.bin .lss) [t 9,.int .i64 0]] (.cond (t 10) .dead  .skip)) (r [v 13 0,o 14 (.len false) [t 13],o 15 (.conv .u64) [t 14],v 16 1,o 17 (.conv .u64) [t 16],o 18 (.call 173) [t 15,t 17],v 12 18,o 19 (.extract 0) [t 12],o 20 (.extract 1) [t 12],v 5 19,v 6 20] (.clean (.seq (r [v 21 5,o 22 (.bin .gtr) [t 21,.int .u64 0],v 23 22,⟨some 24,.mv,[t 6],some (2,23,false),[]⟩,⟨some 25,.bin .gtr,[t 24,.int .u64 9223372036854775807],some (2,23,false),[]⟩,o 26 .pick [t 23,.bool true,t 25]] (.cond (t 26) .dead  .skip)) (.clean (r [v 28 6,o 29 (.conv .i64) [t 28],o 30 (.mkslice 135 a 16) [t 29,t 29],v 7 30] (r [v 31 7,v 32 0,o 33 (.copy 135 a) [t 31,t 32],v 8 33] (.seq (.block 0 (.loop x136_0)) (r [v 47 7,v 4 47] .ret))))))))))⟩
def x137:XF:=let v (d x:Nat):XO:=⟨some d,.mv,[.t x],none,[]⟩;let o (d:Nat) (p:XOp) (l:List XA):XO:=⟨some d,p,l,none,[]⟩;let r (l:List XO) (c:XC):XC:=.seq (.reg false l) c;⟨19,[.tmp 6],[0,1,2,6],(r [o 6 .mv [.bool false]] (.seq (r [v 7 2,o 8 (.bin .lss) [.t 7,.int .i64 0]] (.cond (.t 8) (r [o 6 .mv [.bool true]] .ret) .skip)) (.seq (r [v 9 0,o 10 .nilck [.t 9],o 11 (.faddr 2 .bool) [.t 10],o 12 (.load .bool) [.t 11]] (.cond (.t 12) (r [v 13 1,v 14 2,o 15 (.bin .gtr) [.t 13,.t 14],v 6 15] .ret) .skip)) (.clean (r [v 16 1,v 17 2,o 18 (.bin .lss) [.t 16,.t 17],v 6 18] .ret)))))⟩
def x140:XF:=let i:Ty:=.int .i64;let c:Ty:=.st (.cons i (.cons i i));let b:Ty:=.st (.cons i (.cons i (.cons i (.cons i (.cons i (.cons i (.cons i (.cons i (.cons i i)))))))));let a:Ty:=.sl b;let v (d x:Nat):XO:=⟨some d,.mv,[.t x],none,[]⟩;let o (d:Nat) (p:XOp) (l:List XA):XO:=⟨some d,p,l,none,[]⟩;⟨13,[.tmp 4,.tmp 5],[0,1,3,4,5],(.seq (.reg false [o 3 (.box 24) [.t 1],o 4 (.nilrow 181 c) [],o 5 .mv [.int .i64 0]]) (.seq (.seq (.reg false [v 6 0,o 7 (.load a) [.t 3],o 8 (.call 100) [.t 6,.t 7],o 9 .not [.t 8]]) (.cond (.t 9) (.seq (.reg false [o 4 (.nilrow 181 c) [],o 5 .mv [.int .i64 1]]) .ret) .skip)) (.clean (.seq (.icall false [v 10 0,o 11 (.mkfn 176) [.t 3]] ⟨some 12,.callv,[.fn 175,.t 10,.t 11],none,[]⟩ [v 4 12,o 5 .mv [.int .i64 0]] 175 x175.n x175.res x175.kv x175.code) .ret))))⟩
def x141:XF:=let i:Ty:=.int .i64;let v (d x:Nat):XO:=⟨some d,.mv,[.t x],none,[]⟩;let o (d:Nat) (p:XOp) (l:List XA):XO:=⟨some d,p,l,none,[]⟩;let w (d:Nat) (p:XOp) (l:List XA) (j t:Nat) (b:Bool):XO:=⟨some d,p,l,some (j,t,b),[]⟩;let t:=XA.t;⟨20,[.tmp 2],[0,1,2,3],(.seq (.reg false [o 1 (.box 181) [t 0],o 2 .mv [.bool false]]) (.seq (.reg false [o 3 .mv [.fn 178]]) (.seq (.reg false [v 4 3,o 5 (.faddr 0 i) [t 1],o 6 (.load i) [t 5],⟨some 7,.callv,[t 4,t 6],none,[]⟩,v 8 7,w 9 .mv [t 3] 4 8 true,w 10 (.faddr 1 i) [t 1] 4 8 true,w 11 (.load i) [t 10] 4 8 true,⟨some 12,.callv,[t 9,t 11],some (4,8,true),[]⟩,o 13 .pick [t 8,t 12,.bool false],v 14 13,w 15 .mv [t 3] 10 14 true,w 16 (.faddr 2 i) [t 1] 10 14 true,w 17 (.load i) [t 16] 10 14 true,⟨some 18,.callv,[t 15,t 17],some (10,14,true),[]⟩,o 19 .pick [t 14,t 18,.bool false],v 2 19]) .ret)))⟩
def x142_0:XC:=let i:Ty:=.int .i64;let a:Ty:=.st (.cons i (.cons i i));let v (d x:Nat):XO:=⟨some d,.mv,[.t x],none,[]⟩;let r (l:List XO) (c:XC):XC:=.seq (.reg false l) c;(r [⟨some 9,.bin .lss,[.t 8,.t 7],none,[]⟩] (.seq (.cond (.t 9) .skip (.exit 0)) (.seq (.block 1 (r [v 10 8,v 5 10] (r [v 11 1,v 12 0,v 13 5,⟨some 14,.iaddr a,[.t 12,.t 13],none,[]⟩,⟨some 15,.load a,[.t 14],none,[]⟩,⟨some 16,.callv,[.t 11,.t 15],none,[]⟩] (.cond (.t 16) (r [v 17 5,v 4 17] .ret) .skip)))) (.reg false [⟨some 18,.bin .add,[.t 8,.int .i64 1],none,[]⟩,v 8 18]))))
def x142_0d:List Nat:=[4,5,8]
def x142:XF:=let o (d:Nat) (p:XOp) (l:List XA):XO:=⟨some d,p,l,none,[]⟩;⟨19,[.tmp 4],[0,1,4,5,7,8],(.seq (.reg false [o 4 .mv [.int .i64 0]]) (.seq (.seq (.reg false [o 6 .mv [.t 0],o 7 (.len false) [.t 6],o 8 .mv [.int .i64 0]]) (.block 0 (.loop x142_0))) (.seq (.reg false [o 4 .mv [.int .i64 (-1)]]) .ret)))⟩
def x143:XF:=let i:Ty:=.int .i64;let v (d x:Nat):XO:=⟨some d,.mv,[.t x],none,[]⟩;let o (d:Nat) (p:XOp) (l:List XA):XO:=⟨some d,p,l,none,[]⟩;let w (d:Nat) (p:XOp) (l:List XA) (j t:Nat) (b:Bool):XO:=⟨some d,p,l,some (j,t,b),[]⟩;let t:=XA.t;⟨23,[.tmp 3],[0,1,2,3],(.seq (.reg false [o 2 (.box 181) [t 0],o 3 .mv [.bool false]]) (.seq (.reg false [o 4 (.faddr 0 i) [t 2],o 5 (.load i) [t 4],o 6 (.faddr 4 i) [t 1],o 7 (.load i) [t 6],o 8 (.bin .gtr) [t 5,t 7],v 9 8,w 10 (.faddr 1 i) [t 2] 5 9 false,w 11 (.load i) [t 10] 5 9 false,w 12 (.faddr 5 i) [t 1] 5 9 false,w 13 (.load i) [t 12] 5 9 false,w 14 (.bin .gtr) [t 11,t 13] 5 9 false,o 15 .pick [t 9,.bool true,t 14],v 16 15,w 17 (.faddr 2 i) [t 2] 12 16 false,w 18 (.load i) [t 17] 12 16 false,w 19 (.faddr 6 i) [t 1] 12 16 false,w 20 (.load i) [t 19] 12 16 false,w 21 (.bin .gtr) [t 18,t 20] 12 16 false,o 22 .pick [t 16,.bool true,t 21],v 3 22]) .ret))⟩
def x146_0:XC:=let i:Ty:=.int .i64;let a:Ty:=.st (.cons i (.cons i (.cons i (.cons i (.cons i (.cons i (.cons i (.cons i (.cons i i)))))))));let v (d x:Nat):XO:=⟨some d,.mv,[.t x],none,[]⟩;let o (d:Nat) (p:XOp) (l:List XA):XO:=⟨some d,p,l,none,[]⟩;(.seq (.nxt 10 9 [o 11 (.extract 0) [.t 10]]) (.seq (.cond (.t 11) .skip (.exit 0)) (.block 1 (.seq (.reg false [o 12 .entry [.t 9],o 13 (.extract 0) [.t 12],v 7 13]) (.seq (.reg false [v 14 2,v 15 7,o 16 (.iaddr a) [.t 14,.t 15],o 17 (.faddr 0 i) [.t 16],o 18 (.load i) [.t 17],v 19 1,o 20 (.bin .eql) [.t 18,.t 19]]) (.cond (.t 20) (.seq (.reg false [o 6 .mv [.bool true]]) .ret) .skip))))))
def x146_0d:List Nat:=[6,7]
def x146:XF:=let o (d:Nat) (p:XOp) (l:List XA):XO:=⟨some d,p,l,none,[]⟩;⟨21,[.tmp 6],[0,1,2,6,7,9],(.seq (.reg false [o 6 .mv [.bool false]]) (.seq (.seq (.reg false [o 8 .mv [.t 0],o 9 (.mrange .i64 .bool) [.t 8]]) (.block 0 (.loop x146_0))) (.seq (.reg false [o 6 .mv [.bool false]]) .ret)))⟩
def x147_0:XC:=let i:Ty:=.int .i64;let v (d x:Nat):XO:=⟨some d,.mv,[.t x],none,[]⟩;let r (l:List XO) (c:XC):XC:=.seq (.reg false l) c;(r [⟨some 9,.bin .lss,[.t 8,.t 7],none,[]⟩] (.seq (.cond (.t 9) .skip (.exit 0)) (.seq (.block 1 (r [v 10 8,v 5 10] (r [v 11 1,v 12 0,v 13 5,⟨some 14,.iaddr i,[.t 12,.t 13],none,[]⟩,⟨some 15,.load i,[.t 14],none,[]⟩,⟨some 16,.callv,[.t 11,.t 15],none,[]⟩] (.cond (.t 16) (r [v 17 5,v 4 17] .ret) .skip)))) (.reg false [⟨some 18,.bin .add,[.t 8,.int .i64 1],none,[]⟩,v 8 18]))))
def x147_0d:List Nat:=[4,5,8]
def x147:XF:=let o (d:Nat) (p:XOp) (l:List XA):XO:=⟨some d,p,l,none,[]⟩;⟨19,[.tmp 4],[0,1,4,5,7,8],(.seq (.reg false [o 4 .mv [.int .i64 0]]) (.seq (.seq (.reg false [o 6 .mv [.t 0],o 7 (.len false) [.t 6],o 8 .mv [.int .i64 0]]) (.block 0 (.loop x147_0))) (.seq (.reg false [o 4 .mv [.int .i64 (-1)]]) .ret)))⟩
def x148_0:XC:=let i:Ty:=.int .i64;let a:Ty:=.st (.cons i i);let v (d x:Nat):XO:=⟨some d,.mv,[.t x],none,[]⟩;let r (l:List XO) (c:XC):XC:=.seq (.reg false l) c;(r [⟨some 9,.bin .lss,[.t 8,.t 7],none,[]⟩] (.seq (.cond (.t 9) .skip (.exit 0)) (.seq (.block 1 (r [v 10 8,v 5 10] (r [v 11 1,v 12 0,v 13 5,⟨some 14,.iaddr a,[.t 12,.t 13],none,[]⟩,⟨some 15,.load a,[.t 14],none,[]⟩,⟨some 16,.callv,[.t 11,.t 15],none,[]⟩] (.cond (.t 16) (r [v 17 5,v 4 17] .ret) .skip)))) (.reg false [⟨some 18,.bin .add,[.t 8,.int .i64 1],none,[]⟩,v 8 18]))))
def x148_0d:List Nat:=[4,5,8]
def x148:XF:=let o (d:Nat) (p:XOp) (l:List XA):XO:=⟨some d,p,l,none,[]⟩;⟨19,[.tmp 4],[0,1,4,5,7,8],(.seq (.reg false [o 4 .mv [.int .i64 0]]) (.seq (.seq (.reg false [o 6 .mv [.t 0],o 7 (.len false) [.t 6],o 8 .mv [.int .i64 0]]) (.block 0 (.loop x148_0))) (.seq (.reg false [o 4 .mv [.int .i64 (-1)]]) .ret)))⟩
def x149_0:XC:=let i:Ty:=.int .i64;let a:Ty:=.st (.cons i i);let v (d x:Nat):XO:=⟨some d,.mv,[.t x],none,[]⟩;let r (l:List XO) (c:XC):XC:=.seq (.reg false l) c;(r [⟨some 9,.bin .lss,[.t 8,.t 7],none,[]⟩] (.seq (.cond (.t 9) .skip (.exit 0)) (.seq (.block 1 (r [v 10 8,v 5 10] (r [v 11 1,v 12 0,v 13 5,⟨some 14,.iaddr a,[.t 12,.t 13],none,[]⟩,⟨some 15,.load a,[.t 14],none,[]⟩,⟨some 16,.callv,[.t 11,.t 15],none,[]⟩] (.cond (.t 16) (r [v 17 5,v 4 17] .ret) .skip)))) (.reg false [⟨some 18,.bin .add,[.t 8,.int .i64 1],none,[]⟩,v 8 18]))))
def x149_0d:List Nat:=[4,5,8]
def x149:XF:=let o (d:Nat) (p:XOp) (l:List XA):XO:=⟨some d,p,l,none,[]⟩;⟨19,[.tmp 4],[0,1,4,5,7,8],(.seq (.reg false [o 4 .mv [.int .i64 0]]) (.seq (.seq (.reg false [o 6 .mv [.t 0],o 7 (.len false) [.t 6],o 8 .mv [.int .i64 0]]) (.block 0 (.loop x149_0))) (.seq (.reg false [o 4 .mv [.int .i64 (-1)]]) .ret)))⟩
def x150_0:XC:=let i:Ty:=.int .i64;let a:Ty:=.st (.cons i (.cons i i));let v (d x:Nat):XO:=⟨some d,.mv,[.t x],none,[]⟩;let r (l:List XO) (c:XC):XC:=.seq (.reg false l) c;(r [⟨some 9,.bin .lss,[.t 8,.t 7],none,[]⟩] (.seq (.cond (.t 9) .skip (.exit 0)) (.seq (.block 1 (r [v 10 8,v 5 10] (r [v 11 1,v 12 0,v 13 5,⟨some 14,.iaddr a,[.t 12,.t 13],none,[]⟩,⟨some 15,.load a,[.t 14],none,[]⟩,⟨some 16,.callv,[.t 11,.t 15],none,[]⟩] (.cond (.t 16) (r [v 17 5,v 4 17] .ret) .skip)))) (.reg false [⟨some 18,.bin .add,[.t 8,.int .i64 1],none,[]⟩,v 8 18]))))
def x150_0d:List Nat:=[4,5,8]
def x150:XF:=let o (d:Nat) (p:XOp) (l:List XA):XO:=⟨some d,p,l,none,[]⟩;⟨19,[.tmp 4],[0,1,4,5,7,8],(.seq (.reg false [o 4 .mv [.int .i64 0]]) (.seq (.seq (.reg false [o 6 .mv [.t 0],o 7 (.len false) [.t 6],o 8 .mv [.int .i64 0]]) (.block 0 (.loop x150_0))) (.seq (.reg false [o 4 .mv [.int .i64 (-1)]]) .ret)))⟩
def x152:XF:=let i:Ty:=.int .i64;let a:Ty:=.sl i;let o (d:Nat) (p:XOp) (l:List XA):XO:=⟨some d,p,l,none,[]⟩;let u (d:Nat) (p:XOp) (l:List XA) (a:List Nat):XO:=⟨some d,p,l,none,a⟩;let t:=XA.t;⟨18,[.tmp 3],[0,1,2,3],(.seq (.reg false [o 2 (.box 102) [t 0],o 3 .mv [.bool false]]) (.seq (.reg true [o 4 (.load a) [t 1],o 5 (.faddr 1 i) [t 2],u 6 (.load i) [t 5] [1],u 7 (.iaddr i) [t 4,t 6] [0,2,1],u 8 (.load i) [t 7] [3,0,2,1],o 9 (.load a) [t 1],o 10 (.faddr 0 i) [t 2],u 11 (.load i) [t 10] [6],u 12 (.iaddr i) [t 9,t 11] [5,7,6],u 13 (.load i) [t 12] [8,5,7,6],u 14 (.bin .sub) [t 8,t 13] [4,3,0,2,1,9,8,5,7,6],o 15 (.faddr 2 i) [t 2],u 16 (.load i) [t 15] [11],u 17 (.bin .gtr) [t 14,t 16] [10,4,3,0,2,1,9,8,5,7,6,12,11],u 3 .mv [t 17] [13,10,4,3,0,2,1,9,8,5,7,6,12,11]]) .ret))⟩
def x153_0:XC:=let i:Ty:=.int .i64;let a:Ty:=.st (.cons i i);let l (d:Nat) (t:Ty) (x:Nat):XO:=⟨some d,.load t,[.t x],none,[]⟩;let v (d x:Nat):XO:=⟨some d,.mv,[.t x],none,[]⟩;let o (d:Nat) (p:XOp) (l:List XA):XO:=⟨some d,p,l,none,[]⟩;let r (l:List XO) (c:XC):XC:=.seq (.reg false l) c;let t:=XA.t;(r [o 14 (.bin .lss) [t 13,t 12]] (.seq (.cond (t 14) .skip (.exit 0)) (.seq (.block 1 (r [v 15 13,o 16 (.iaddr a) [t 11,t 13],l 17 a 16,o 10 (.alloc 72 a) [],v 9 15,⟨none,.store a,[t 10,t 17],none,[]⟩] (.seq (.seq (.reg true [v 18 2,v 19 9,⟨some 20,.iaddr a,[t 18,t 19],none,[0,1]⟩,⟨some 21,.faddr 0 i,[t 20],none,[2,0,1]⟩,⟨some 22,.load i,[t 21],none,[3,2,0,1]⟩,o 23 (.faddr 1 i) [t 3],⟨some 24,.load i,[t 23],none,[5]⟩,⟨some 25,.bin .geq,[t 22,t 24],none,[4,3,2,0,1,6,5]⟩]) (.cond (t 25) (.reg false [o 6 .mv [.int .i64 0]]) .skip)) (.clean (.seq (r [v 26 9,o 27 (.bin .gtr) [t 26,.int .i64 0]] (.cond (t 27) (.reg false [v 28 7,v 29 2,v 30 9,o 31 (.iaddr a) [t 29,t 30],o 32 (.faddr 1 i) [t 31],l 33 i 32,o 34 (.bin .add) [t 28,t 33],v 7 34]) .skip)) (.clean (r [v 35 6,o 36 (.faddr 1 i) [t 10],l 37 i 36,o 38 (.bin .add) [t 35,t 37],v 6 38] (r [v 39 7,o 40 (.faddr 1 i) [t 10],l 41 i 40,o 42 (.bin .add) [t 39,t 41],v 7 42] (r [v 43 6,o 44 (.faddr 0 i) [t 3],l 45 i 44,o 46 (.bin .gtr) [t 43,t 45],v 47 46,⟨some 48,.mv,[t 7],some (4,47,false),[]⟩,⟨some 49,.faddr 2 i,[t 3],some (4,47,false),[]⟩,⟨some 50,.load i,[t 49],some (4,47,false),[]⟩,⟨some 51,.bin .gtr,[t 48,t 50],some (4,47,false),[]⟩,o 52 .pick [t 47,.bool true,t 51]] (.cond (t 52) (r [v 53 9,o 6 .mv [.int .i64 0],o 7 .mv [.int .i64 0],v 8 53] .ret) .skip)))))))))) (.reg false [o 54 (.bin .add) [t 13,.int .i64 1],v 13 54]))))
def x153_0d:List Nat:=[6,7,8,9,10,13]
def x153:XF:=let v (d x:Nat):XO:=⟨some d,.mv,[.t x],none,[]⟩;let o (d:Nat) (p:XOp) (l:List XA):XO:=⟨some d,p,l,none,[]⟩;⟨57,[.tmp 6,.tmp 7,.tmp 8],[0,1,2,3,6,7,8,9,10,11,12,13],(.seq (.reg false [o 3 (.box 27) [.t 0],o 6 .mv [.int .i64 0],o 7 .mv [.int .i64 0],o 8 .mv [.int .i64 0]]) (.seq (.seq (.reg false [v 11 1,o 12 (.len false) [.t 11],o 13 .mv [.int .i64 0]]) (.block 0 (.loop x153_0))) (.clean (.seq (.reg false [v 55 6,v 56 7,v 6 55,v 7 56,o 8 .mv [.int .i64 (-1)]]) .ret))))⟩
def x154:XF:=let i:Ty:=.int .i64;let a:Ty:=.st (.cons i (.cons i i));let l (d:Nat) (t:Ty) (x:Nat):XO:=⟨some d,.load t,[.t x],none,[]⟩;let o (d:Nat) (p:XOp) (l:List XA):XO:=⟨some d,p,l,none,[]⟩;⟨10,[.cell 2 a],[0,1,2],(.seq (.reg false [o 1 (.box 55) [.t 0],o 2 (.alloc 181 a) []]) (.seq (.reg false [o 3 (.faddr 7 i) [.t 1],l 4 i 3,o 5 (.faddr 8 i) [.t 1],l 6 i 5,o 7 (.faddr 9 i) [.t 1],l 8 i 7,⟨some 9,.build a [(0,i),(1,i),(2,i)],[.t 4,.t 6,.t 8],none,[]⟩,⟨none,.store a,[.t 2,.t 9],none,[]⟩]) .ret))⟩
def x155:XF:=let i:Ty:=.int .i64;let a:Ty:=.st (.cons i .bool);let o (d:Nat) (p:XOp) (l:List XA):XO:=⟨some d,p,l,none,[]⟩;⟨9,[.tmp 4],[0,1,3,4],(.seq (.reg false [o 3 (.box 57) [.t 1],o 4 .mv [.bool false]]) (.seq (.reg false [o 5 .mv [.t 0],o 6 (.load a) [.t 3],o 7 (.call 181) [.t 5,.t 6],o 8 (.bin .geq) [.t 7,.int .i64 0],o 4 .mv [.t 8]]) .ret))⟩
def x172_0:XC:=let i:Ty:=.int .i64;let b:Ty:=.sl i;let a:Ty:=.st (.cons i (.cons i (.cons b b)));let v (d x:Nat):XO:=⟨some d,.mv,[.t x],none,[]⟩;let r (l:List XO) (c:XC):XC:=.seq (.reg false l) c;(r [⟨some 9,.bin .lss,[.t 8,.t 7],none,[]⟩] (.seq (.cond (.t 9) .skip (.exit 0)) (.seq (.block 1 (r [v 10 8,v 5 10] (r [v 11 1,v 12 0,v 13 5,⟨some 14,.iaddr a,[.t 12,.t 13],none,[]⟩,⟨some 15,.load a,[.t 14],none,[]⟩,⟨some 16,.callv,[.t 11,.t 15],none,[]⟩] (.cond (.t 16) (r [v 17 5,v 4 17] .ret) .skip)))) (.reg false [⟨some 18,.bin .add,[.t 8,.int .i64 1],none,[]⟩,v 8 18]))))
def x172_0d:List Nat:=[4,5,8]
def x172:XF:=let o (d:Nat) (p:XOp) (l:List XA):XO:=⟨some d,p,l,none,[]⟩;⟨19,[.tmp 4],[0,1,4,5,7,8],(.seq (.reg false [o 4 .mv [.int .i64 0]]) (.seq (.seq (.reg false [o 6 .mv [.t 0],o 7 (.len false) [.t 6],o 8 .mv [.int .i64 0]]) (.block 0 (.loop x172_0))) (.seq (.reg false [o 4 .mv [.int .i64 (-1)]]) .ret)))⟩
def x173:XF:=let v (d x:Nat):XO:=⟨some d,.mv,[.t x],none,[]⟩;let o (d:Nat) (p:XOp) (l:List XA):XO:=⟨some d,p,l,none,[]⟩;let r (l:List XO) (c:XC):XC:=.seq (.reg false l) c;⟨30,[.tmp 4,.tmp 5],[0,1,4,5,6,7,8,9],(r [o 4 .mv [.int .u64 0],o 5 .mv [.int .u64 0]] (.seq (.cond (.bool false) (r [v 11 0,o 12 (.conv .u32) [.t 11],v 13 1,o 14 (.conv .u32) [.t 13],o 15 (.call 188) [.t 12,.t 14],v 10 15,o 16 (.extract 0) [.t 10],o 17 (.extract 1) [.t 10],v 6 16,v 7 17] (.clean (r [v 18 6,o 19 (.conv .u64) [.t 18],v 20 7,o 21 (.conv .u64) [.t 20],v 4 19,v 5 21] .ret))) .skip) (.clean (r [v 23 0,v 24 1,o 25 (.call 189) [.t 23,.t 24],v 22 25,o 26 (.extract 0) [.t 22],o 27 (.extract 1) [.t 22],v 8 26,v 9 27] (.clean (r [v 28 8,v 29 9,v 4 28,v 5 29] .ret))))))⟩
def x177_0:XC:=let i:Ty:=.int .i64;let b:Ty:=.st (.cons i (.cons i i));let a:Ty:=.st (.cons i (.cons i (.cons i (.cons i (.cons i (.cons i (.cons i (.cons i (.cons i i)))))))));let l (d:Nat) (t:Ty) (x:Nat):XO:=⟨some d,.load t,[.t x],none,[]⟩;let s (t:Ty) (x y:Nat):XO:=⟨none,.store t,[.t x,.t y],none,[]⟩;let v (d x:Nat):XO:=⟨some d,.mv,[.t x],none,[]⟩;let o (d:Nat) (p:XOp) (l:List XA):XO:=⟨some d,p,l,none,[]⟩;let r (l:List XO) (c:XC):XC:=.seq (.reg false l) c;let t:=XA.t;(.seq (.nxt 10 9 [o 11 (.extract 0) [t 10]]) (.seq (.cond (t 11) .skip (.exit 0)) (.block 1 (r [o 12 .entry [t 9],o 13 (.extract 0) [t 12],v 6 13] (r [v 14 1,v 15 6,o 16 (.iaddr a) [t 14,t 15],l 17 a 16,o 18 (.call 154) [t 17],o 7 (.alloc 181 b) [],s b 7 18] (.clean (r [o 19 (.faddr 0 i) [t 5],l 20 i 19,o 21 (.faddr 0 i) [t 7],l 22 i 21,o 23 (.bin .add) [t 20,t 22],o 24 (.faddr 0 i) [t 5],s i 24 23] (.clean (r [o 25 (.faddr 1 i) [t 5],l 26 i 25,o 27 (.faddr 1 i) [t 7],l 28 i 27,o 29 (.bin .add) [t 26,t 28],o 30 (.faddr 1 i) [t 5],s i 30 29] (.clean (.reg false [o 31 (.faddr 2 i) [t 5],l 32 i 31,o 33 (.faddr 2 i) [t 7],l 34 i 33,o 35 (.bin .add) [t 32,t 34],o 36 (.faddr 2 i) [t 5],s i 36 35])))))))))))
def x177_0d:List Nat:=[6,7]
def x177:XF:=let i:Ty:=.int .i64;let a:Ty:=.st (.cons i (.cons i i));let o (d:Nat) (p:XOp) (l:List XA):XO:=⟨some d,p,l,none,[]⟩;let r (l:List XO) (c:XC):XC:=.seq (.reg false l) c;⟨38,[.cell 4 a],[0,1,4,5,6,7,9],(r [o 4 (.alloc 181 a) []] (r [o 5 (.alloc 181 a) []] (.seq (r [o 8 .mv [.t 0],o 9 (.mrange .i64 .bool) [.t 8]] (.block 0 (.loop x177_0))) (r [o 37 (.load a) [.t 5],⟨none,.store a,[.t 4,.t 37],none,[]⟩] .ret))))⟩
def x178:XF:=let v (d x:Nat):XO:=⟨some d,.mv,[.t x],none,[]⟩;⟨9,[.tmp 2],[0,2],(.seq (.reg false [⟨some 2,.mv,[.bool false],none,[]⟩]) (.seq (.reg false [v 3 0,⟨some 4,.bin .leq,[.int .i64 0,.t 3],none,[]⟩,v 5 4,⟨some 6,.mv,[.t 0],some (2,5,true),[]⟩,⟨some 7,.bin .leq,[.t 6,.int .i64 60],some (2,5,true),[]⟩,⟨some 8,.pick,[.t 5,.t 7,.bool false],none,[]⟩,v 2 8]) .ret))⟩
def x181_0:XC:=let i:Ty:=.int .i64;let a:Ty:=.st (.cons i .bool);let v (d x:Nat):XO:=⟨some d,.mv,[.t x],none,[]⟩;let u (d:Nat) (p:XOp) (l:List XA) (a:List Nat):XO:=⟨some d,p,l,none,a⟩;(.seq (.reg false [u 9 (.bin .lss) [.t 8,.t 7] []]) (.seq (.cond (.t 9) .skip (.exit 0)) (.seq (.block 1 (.seq (.reg false [v 10 8,v 5 10]) (.seq (.reg true [u 11 (.load a) [.t 3] [],v 12 0,v 13 5,u 14 (.iaddr a) [.t 12,.t 13] [1,2],u 15 (.load a) [.t 14] [3,1,2],u 16 (.steq false a) [.t 11,.t 15] [0,4,3,1,2]]) (.cond (.t 16) (.seq (.reg false [v 17 5,v 4 17]) .ret) .skip)))) (.reg false [u 18 (.bin .add) [.t 8,.int .i64 1] [],v 8 18]))))
def x181_0d:List Nat:=[4,5,8]
def x181:XF:=let o (d:Nat) (p:XOp) (l:List XA):XO:=⟨some d,p,l,none,[]⟩;⟨19,[.tmp 4],[0,1,3,4,5,7,8],(.seq (.reg false [o 3 (.box 57) [.t 1],o 4 .mv [.int .i64 0]]) (.seq (.seq (.reg false [o 6 .mv [.t 0],o 7 (.len false) [.t 6],o 8 .mv [.int .i64 0]]) (.block 0 (.loop x181_0))) (.seq (.reg false [o 4 .mv [.int .i64 (-1)]]) .ret)))⟩
def x189:XF:=let v (d x:Nat):XO:=⟨some d,.mv,[.t x],none,[]⟩;let o (d:Nat) (p:XOp) (l:List XA):XO:=⟨some d,p,l,none,[]⟩;let r (l:List XO) (c:XC):XC:=.seq (.reg false l) c;let t:=XA.t;⟨51,[.tmp 4,.tmp 5],[0,1,4,5,6,7,8,9,10,11,12,13],(r [o 4 .mv [.int .u64 0],o 5 .mv [.int .u64 0]] (r [v 14 0,o 15 (.bin .and) [t 14,.int .u64 4294967295],v 6 15] (r [v 16 0,o 17 (.bin .shr) [t 16,.int .u64 32],v 7 17] (r [v 18 1,o 19 (.bin .and) [t 18,.int .u64 4294967295],v 8 19] (r [v 20 1,o 21 (.bin .shr) [t 20,.int .u64 32],v 9 21] (r [v 22 6,v 23 8,o 24 (.bin .mul) [t 22,t 23],v 10 24] (r [v 25 7,v 26 8,o 27 (.bin .mul) [t 25,t 26],v 28 10,o 29 (.bin .shr) [t 28,.int .u64 32],o 30 (.bin .add) [t 27,t 29],v 11 30] (.clean (r [v 31 11,o 32 (.bin .and) [t 31,.int .u64 4294967295],v 12 32] (r [v 33 11,o 34 (.bin .shr) [t 33,.int .u64 32],v 13 34] (r [v 35 12,v 36 6,v 37 9,o 38 (.bin .mul) [t 36,t 37],o 39 (.bin .add) [t 35,t 38],v 12 39] (.clean (r [v 40 7,v 41 9,o 42 (.bin .mul) [t 40,t 41],v 43 13,o 44 (.bin .add) [t 42,t 43],v 45 12,o 46 (.bin .shr) [t 45,.int .u64 32],o 47 (.bin .add) [t 44,t 46],v 4 47] (.clean (r [v 48 0,v 49 1,o 50 (.bin .mul) [t 48,t 49],v 5 50] .ret)))))))))))))))⟩
end T
end Go.Proofs.YtecdcopihghnaaaGreat
end
section
namespace Go.Proofs.YtecdcopihghnaaaGreat
set_option linter.unusedVariables false
set_option linter.unusedSimpArgs false
open Go.RowKit
namespace T
abbrev DArc:=Int × Int × List Int × List Int
@[reducible] def toArc (x:DArc):Arc:=⟨x.1,x.2.1,x.2.2.1,x.2.2.2⟩
section
variable {P:Program} {w:World} {M:Nat→Prop}
theorem ints_is {d:List Int} {cs:List Value} (q:Rd P (.sl (.int .i64)) w M d cs):∃ A n c,cs=[.slice A n c]∧IsInts w A n d:=by
 obtain ⟨A,n,c,e,h1,h2,h3,h4⟩:=q
 refine ⟨A,n,c,e,h1,by simp only [maxLen] at h3;omega,?_⟩
 rcases h4 with h4 | ⟨b,off,cc,rfl,hb,_,hc,hr⟩
 ·exact .inl h4
 ·refine .inr ⟨b,off,rfl,hb,fun i hi=>?_⟩
  have hi':i < d.length:=by omega
  obtain ⟨c1,c0,c2,rfl,r1,r2,_⟩:=hr.at hi'
  have hl:c1.length=i:=by rw [RowsBy.len (n:=1) (fun _ _ q=>q.len) r1,List.length_take,Nat.min_eq_left (by omega)];omega
  obtain rfl:=r2.1
  have:=hc.left.right 0 _ rfl
  rw [hl] at this
  rw [List.getD_eq_getElem?_getD,List.getElem?_eq_getElem hi']
  simpa using this
theorem arc_is {x:DArc} {v:Value} (q:RdV P (.st (.cons (.int .i64) (.cons (.int .i64) (.cons (.sl (.int .i64)) (.sl (.int .i64)))))) w M x v):IsArc w v (toArc x)∧(IntKind.i64.min≤x.1∧x.1≤IntKind.i64.max)∧IntKind.i64.min≤x.2.1∧x.2.1≤IntKind.i64.max:=by
 obtain ⟨hs,c1,c2,e,⟨rfl,r1⟩,c3,c4,rfl,⟨rfl,r2⟩,c5,c6,rfl,q3,q4⟩:=q
 obtain ⟨cs,rfl⟩:=hs.2 rfl
 obtain ⟨A,n,c,rfl,h3⟩:=ints_is q3
 obtain ⟨A',n',c',rfl,h4⟩:=ints_is q4
 refine ⟨⟨A,n,c,A',n',c',?_,h3,h4⟩,r1,r2⟩
 congr 1
 apply Array.ext'
 simpa [Value.cells,toArc] using e
theorem small_i64 {x:Int} (h:-9223372036854775808≤x∧x≤9223372036854775807):IntKind.i64.min≤x∧x≤IntKind.i64.max:=h
end
def entClockRight:Ent:=⟨124,.cons (.st (.cons (.int .i64) (.cons (.int .i64) (.cons (.sl (.int .i64)) (.sl (.int .i64)))))) .nil,.bool,false,none,fun _=>True,fun x=>(toArc x.1).rightB⟩
theorem conClockRight:Con Tryz.prog entClockRight:=by
 refine ⟨by kernel_rfl,?_⟩
 rintro ⟨x,_⟩ _ w M vs hM ⟨v,_,rfl,q,rfl⟩
 refine (Clock.right_any (arc_is q).1).mono ?_
 rintro e w' ⟨rfl,hb⟩
 exact ⟨_,rfl,hb,bool_avr (hp:=fun _=>none) (ψ:=fun _=>undef)⟩
theorem passF_range (a:Arc) (hi:Bool) (t:Int):IntKind.i64.min≤a.passF hi t∧a.passF hi t≤IntKind.i64.max:=by
 unfold Arc.passF
 split
 ·rename_i h
  obtain ⟨⟨h1,h2⟩,h3⟩:=Arc.validB_true h
  have:=a.pass_bd h3 hi h2
  have:=a.tk_bd h3 hi t
  exact small_i64 (by omega)
 ·exact small_i64 (by omega)
def entPass:Ent:=⟨80,.cons (.st (.cons (.int .i64) (.cons (.int .i64) (.cons (.sl (.int .i64)) (.sl (.int .i64)))))) (.cons (.int .i64) (.cons .bool .nil)),(.int .i64),false,none,fun _=>True,fun x=>(toArc x.1).passF x.2.2.1 x.2.1⟩
theorem conPass:Con Tryz.prog entPass:=by
 refine ⟨by kernel_rfl,?_⟩
 rintro ⟨x,t,hi,_⟩ _ w M vs hM ⟨v,_,rfl,q,v1,_,rfl,q1,v2,_,rfl,q2,rfl⟩
 obtain ⟨rfl,_⟩:=avr_int (hp:=fun _=>none) (ψ:=fun _=>undef) q1
 obtain rfl:=avr_bool (hp:=fun _=>none) (ψ:=fun _=>undef) q2
 refine (Clock.pass_any (arc_is q).1 t hi).mono ?_
 rintro e w' ⟨rfl,hb⟩
 exact ⟨_,rfl,hb,int_avr (hp:=fun _=>none) (ψ:=fun _=>undef) (passF_range _ _ _)⟩
end T
end Go.Proofs.YtecdcopihghnaaaGreat
end
section
namespace Go.Proofs.YtecdcopihghnaaaGreat
set_option linter.unusedVariables false
set_option linter.unusedSimpArgs false
open Go.RowKit
namespace T
section
variable {P:Program} {B:Nat} {M M':Nat→Prop} {hp hp':Hp} {ψ ψ':Nat→Value} {w:World} {n:Nat} {st:AS} {w0:Fix} {a:Act}
theorem OBR.move {Mw Mw':Nat→Prop} {fr l:Nat} {ob:OB} (h:OBR P B hp ψ w Mw l ob) (hl:Later w Mw w Mw') (hψ:∀ l,l≠fr→ψ' l=ψ l) (hk:∀ l ob',l≠fr→hp' l=some ob'→∃ ob,hp l=some ob∧ob.like ob') (hlf:l≠fr) (hf:fr ∉ ob.locs):OBR P B hp' ψ' w Mw' l ob:=by
 cases ob with
 | box T cs =>
  obtain ⟨b,cells,e,hB,hg,q,q1⟩:=h
  exact ⟨b,cells,by rw [hψ l hlf];exact e,hB,hg,AVRs.later hl hψ hk hf q,q1⟩
 | row e ty xs =>
  obtain ⟨cells,h1,h2⟩:=h
  exact ⟨cells,by rw [hψ l hlf];exact h1,h2.mono fun x _ c q=>q.later hl⟩
 | mp k ty xs =>
  obtain ⟨b,es,clock,e,q⟩:=h
  exact ⟨b,es,clock,by rw [hψ l hlf];exact e,q⟩
 | lp bs r =>
  obtain ⟨b,e,q⟩:=h
  exact ⟨b,by rw [hψ l hlf];exact e,q⟩
 | it k ty left cur =>
  obtain ⟨b,e,hB,q⟩:=h
  exact ⟨b,by rw [hψ l hlf];exact e,hB,q.later hl rfl⟩
theorem Sim.move (s:Sim P B M n st ψ w0 a w) {h2:List (Nat × OB)} {nx' fr:Nat} (hfr:fr=st.nx) (hnx:st.nx≤nx') (hsub:∀ b,Mu M' (look h2) ψ' b→Mu M (look st.hp) ψ b) (hψ:∀ l,l≠fr→ψ' l=ψ l) (hk:∀ l ob',l≠fr→look h2 l=some ob'→look st.hp l=some ob')
  (hfo:∀ ob,look h2 fr=some ob→fr < nx'∧(∀ k ∈ ob.locs,k < nx')∧OBR P B (look h2) ψ' w (Mu M' (look h2) ψ') fr ob) (hdj:∀ l ob b,l≠fr→look st.hp l=some ob→look h2 l=some ob→blk (ψ l)=some b→∀ ob',look h2 fr=some ob'→blk (ψ' fr)≠some b)
  (hmb:∀ b,M' b→b < w.heap.size) (hmd:∀ l ob b,look h2 l=some ob→blk (ψ' l)=some b→¬ M' b):Sim P B M' n ⟨st.tm,h2,nx',st.kv⟩ ψ' ⟨w,w0.vs,w0.dm,w0.ms⟩ a w:=by
 subst hfr
 have hbd:∀ b,Mu M' (look h2) ψ' b→b < w.heap.size:=fun b q=>s.hok.mu b (hsub b q)
 have hl:Later w (Mu M (look st.hp) ψ) w (Mu M' (look h2) ψ'):=⟨Nat.le_refl _,fun _ _ _=>rfl,fun b _ q=>hsub b q,hbd⟩
 have hk':∀ l ob',l≠st.nx→look h2 l=some ob'→∃ ob,look st.hp l=some ob∧ob.like ob':=fun l ob' h1 h2=>⟨ob',hk l ob' h1 h2,like_refl _⟩
 have hfresh:∀ l ob,look st.hp l=some ob→st.nx ∉ ob.locs:=fun l ob q hm=>Nat.lt_irrefl _ ((s.hlt l ob q).2 _ hm)
 have av:∀ {av:AV} {v:Value},st.nx ∉ av.locs→AVR P (look st.hp) ψ w (Mu M (look st.hp) ψ) av v→AVR P (look h2) ψ' w (Mu M' (look h2) ψ') av v:=fun hf q=>AVR.later hl hψ hk' hf q
 refine ⟨⟨fun l ob q=>?_,fun l l' ob ob' b q1 q2 q3 q4=>?_,hmb,hmd,s.hok.bz⟩,fun t=>av (fun hm=>Nat.lt_irrefl _ (s.lt t _ hm)) (s.av t),s.size,⟨s.defers.1,s.defers.2.map fun u q=>av (by simp [AV.locs]) q⟩,fun t l q=>Nat.lt_of_lt_of_le (s.lt t l q) hnx,fun l ob q=>?_,Stay.refl⟩
 ·by_cases e:l=st.nx
  ·subst e;exact (hfo ob q).2.2
  ·have q0:=hk l ob e q
   exact (s.hok.ob l ob q0).move hl hψ hk' e (hfresh l ob q0)
 ·by_cases e:l=st.nx
  ·by_cases e':l' = st.nx
   ·rw [e,e']
   ·exfalso
    subst e
    rw [hψ l' e'] at q4
    exact hdj l' ob' b e' (hk l' ob' e' q2) q2 q4 ob q1 q3
  ·by_cases e':l' = st.nx
   ·exfalso
    subst e'
    rw [hψ l e] at q3
    exact hdj l ob b e (hk l ob e q1) q1 q3 ob' q2 q4
   ·rw [hψ l e] at q3
    rw [hψ l' e'] at q4
    exact s.hok.dj l l' ob ob' b (hk l ob e q1) (hk l' ob' e' q2) q3 q4
 ·by_cases e:l=st.nx
  ·subst e;exact ⟨(hfo ob q).1,(hfo ob q).2.1⟩
  ·have:=s.hlt l ob (hk l ob e q)
   exact ⟨Nat.lt_of_lt_of_le this.1 hnx,fun k hk=>Nat.lt_of_lt_of_le (this.2 k hk) hnx⟩
theorem look_cons {l:Nat} {ob:OB} {h:List (Nat × OB)}:look ((l,ob) :: h)=putHp (look h) l ob:=by
 funext x
 simp only [look,putHp]
theorem Sim.adopt (s:Sim P B M n st ψ w0 a w) {ob:OB} {u:Value} (hu:∀ b,blk u=some b→M b∧B≤b) (hlocs:∀ k ∈ ob.locs,k < st.nx+1)
  (hob:OBR P B (putHp (look st.hp) st.nx ob) (upd' ψ st.nx u) w (Mu M (look st.hp) ψ) st.nx ob):Sim P B (fun x=>M x∧blk u≠some x) n ⟨st.tm,(st.nx,ob) :: st.hp,st.nx+1,st.kv⟩ (upd' ψ st.nx u) ⟨w,w0.vs,w0.dm,w0.ms⟩ a w:=by
 have hnew:look st.hp st.nx=none:=(sim_ctx s).new
 have hmu:Mu (fun x=>M x∧blk u≠some x) (look ((st.nx,ob) :: st.hp)) (upd' ψ st.nx u)=Mu M (look st.hp) ψ:=by
  funext x
  apply propext
  rw [look_cons]
  constructor
  ·rintro (q | ⟨l,ob',h1,h2⟩)
   ·exact .inl q.1
   ·by_cases e:l=st.nx
    ·subst e;rw [upd'_same] at h2;exact .inl (hu x h2).1
    ·rw [putHp_other _ _ e] at h1;rw [upd'_other _ _ e] at h2;exact .inr ⟨l,ob',h1,h2⟩
  ·rintro (q | ⟨l,ob',h1,h2⟩)
   ·by_cases c:blk u=some x
    ·exact .inr ⟨st.nx,ob,by simp,by rw [upd'_same];exact c⟩
    ·exact .inl ⟨q,c⟩
   ·have e:l≠st.nx:=fun e=>by rw [e,hnew] at h1;cases h1
    exact .inr ⟨l,ob',by rw [putHp_other _ _ e];exact h1,by rw [upd'_other _ _ e];exact h2⟩
 refine s.move rfl (Nat.le_succ _) (fun b q=>by rw [hmu] at q;exact q) (fun l e=>upd'_other _ _ e) (fun l ob' e q=>by rw [look_cons,putHp_other _ _ e] at q;exact q) (fun ob' q=>?_) (fun l ob' b e h1 _ h3 ob2 _ h4=>?_) (fun b q=>s.hok.mb b q.1) (fun l ob' b q1 q2 q3=>?_)
 ·rw [look_cons,putHp_same] at q
  injection q with q;subst q
  refine ⟨Nat.lt_succ_self _,hlocs,?_⟩
  rw [hmu,look_cons];exact hob
 ·rw [upd'_same] at h4
  exact s.hok.md l ob' b h1 h3 (hu b h4).1
 ·by_cases e:l=st.nx
  ·subst e;rw [upd'_same] at q2;exact q3.2 q2
  ·rw [look_cons,putHp_other _ _ e] at q1
   rw [upd'_other _ _ e] at q2
   exact s.hok.md l ob' b q1 q2 q3.1
theorem Sim.release (s:Sim P B M n st ψ w0 a w) {l:Nat} {ob:OB} (hl:look st.hp l=some ob):Sim P B (fun x=>M x∨blk (ψ l)=some x) n ⟨st.tm,killL st.hp [l],st.nx,st.kv⟩ ψ ⟨w,w0.vs,w0.dm,w0.ms⟩ a w:=by
 have hnew:look st.hp st.nx=none:=(sim_ctx s).new
 have hin:∀ l' ob',look (killL st.hp [l]) l' = some ob'→l' ≠ l∧look st.hp l' = some ob':=fun l' ob' q=>by
  rw [look_kill] at q
  obtain ⟨h1,h2⟩:=kill_some q
  exact ⟨fun e=>h1 (by simp [e]),h2⟩
 refine s.move rfl (Nat.le_refl _) (fun b q=>?_) (fun _ _=>rfl) (fun l' ob' _ q=>(hin l' ob' q).2) (fun ob' q=>?_) (fun l' ob' b _ _ _ _ ob2 q _=>?_) (fun b q=>?_) (fun l' ob' b q1 q2 q3=>?_)
 ·rcases q with (q | q) | ⟨l',ob',h1,h2⟩
  ·exact .inl q
  ·exact .inr ⟨l,ob,hl,q⟩
  ·exact .inr ⟨l',ob',(hin l' ob' h1).2,h2⟩
 ·rw [(hin _ _ q).2] at hnew;cases hnew
 ·rw [(hin _ _ q).2] at hnew;cases hnew
 ·rcases q with q | q
  ·exact s.hok.mb b q
  ·exact ((s.hok.ob l ob hl).bk q).2
 ·obtain ⟨h1,h2⟩:=hin l' ob' q1
  rcases q3 with q3 | q3
  ·exact s.hok.md l' ob' b h2 q2 q3
  ·exact h1 (s.hok.dj l' l ob' ob b h2 hl q2 q3)
theorem Sim.fewer (s:Sim P B M n st ψ w0 a w) (h:∀ b,M' b→M b):Sim P B M' n st ψ ⟨w,w0.vs,w0.dm,w0.ms⟩ a w:=by
 have hnew:look st.hp st.nx=none:=(sim_ctx s).new
 exact s.move (h2:=st.hp) (nx':=st.nx) rfl (Nat.le_refl _) (fun b q=>by
  rcases q with q | q
  ·exact .inl (h b q)
  ·exact .inr q) (fun _ _=>rfl) (fun _ _ _ q=>q) (fun ob q=>by rw [hnew] at q;cases q) (fun _ _ _ _ _ _ _ ob q=>by rw [hnew] at q;cases q) (fun b q=>s.hok.mb b (h b q)) (fun l ob b q1 q2 q3=>s.hok.md l ob b q1 q2 (h b q3))
theorem Sim.base {w1:World} (s:Sim P B M n st ψ ⟨w1,w0.vs,w0.dm,w0.ms⟩ a w) (h:Stay B M w0.w w1):Sim P B M n st ψ w0 a w:=⟨s.hok,s.av,s.size,s.defers,s.lt,s.hlt,h.trans s.bel⟩
theorem Sim.slot (s:Sim P B M n st ψ w0 a w) {t:Nat} {av:AV} (h:AVR P (look st.hp) ψ w (Mu M (look st.hp) ψ) av (sval w0 n a t)) (hl:∀ l ∈ av.locs,l < st.nx):Sim P B M n ⟨(t,av) :: st.tm,st.hp,st.nx,st.kv⟩ ψ w0 a w:=by
 refine ⟨s.hok,fun t'=>?_,s.size,s.defers,fun t' l q=>?_,s.hlt,s.bel⟩
 ·show AVR P _ ψ w _ (if t' = t then av else tmG st.tm t') _
  split
  ·rename_i e;subst e;exact h
  ·exact s.av t'
 ·have q':l ∈ (if t' = t then av else tmG st.tm t').locs:=q
  split at q'
  ·exact hl l q'
  ·exact s.lt t' l q'
theorem Sim.only (s:Sim P B M n st ψ w0 a w) (ks:List Nat):Sim P B M n ⟨ks.map fun k=>(k,tmG st.tm k),st.hp,st.nx,st.kv⟩ ψ w0 a w:=by
 refine ⟨s.hok,fun t=>?_,s.size,s.defers,fun t l q=>?_,s.hlt,s.bel⟩
 ·show AVR P _ ψ w _ (tmG (ks.map fun k=>(k,tmG st.tm k)) t) _
  rw [tmG_map (fun k=>tmG st.tm k)]
  split
  ·exact s.av t
  ·exact trivial
 ·have q':l ∈ (tmG (ks.map fun k=>(k,tmG st.tm k)) t).locs:=q
  rw [tmG_map (fun k=>tmG st.tm k)] at q'
  split at q'
  ·exact s.lt t l q'
  ·cases q'
theorem XW_top {P:Program} {C:List Ent} {n:Nat} {c:XC} {Q:XQ} {st:AS} (h:XW P C n c Q st):XW P C n (.top c) Q st:=by
 intro code hc hC B M w0 ψ a w s ro hR
 exact h code (by unfold codeChk at hc;exact hc) hC B M w0 ψ a w s ro (fun q=>hR rfl)
theorem AVRs.put {P:Program} {hp:Hp} {ψ:Nat→Value} {w:World} {M:Nat→Prop} {av:AV} {v:Value}:∀ {avs:List AV} {vs:List Value} {u:Nat},AVRs P hp ψ w M avs vs→vs[u]? = some v→AVR P hp ψ w M av v→AVRs P hp ψ w M (avs.set u av) vs
 | [],_,_,h,_,_=>h
 | x :: r,_,0,⟨v',vs,e,h1,h2⟩,hv,h=>by
  subst e
  simp only [List.getElem?_cons_zero,Option.some.injEq] at hv
  subst hv
  exact ⟨_,vs,rfl,h,h2⟩
 | x :: r,_,u+1,⟨v',vs,e,h1,h2⟩,hv,h=>by
  subst e
  simp only [List.getElem?_cons_succ] at hv
  exact ⟨v',vs,rfl,h1,AVRs.put h2 hv h⟩
theorem XW_frz {P:Program} {C:List Ent} {n:Nat} {c:XC} {Q:XQ} {st:AS} (z l:Nat) {e:TypeId} {t:Ty} {xs:List t.den} (h1:tmG st.tm z = .own l) (h2:look st.hp l=some (.row e t xs))
  (h:XW P C n c Q ⟨(z,.val (.sl t) xs) :: st.tm,killL st.hp [l],st.nx,st.kv⟩):XW P C n c Q st:=by
 intro code hc hC B M w0 ψ a w s ro hR
 have s3:Sim P B M n ⟨st.tm,killL st.hp [l],st.nx,st.kv⟩ ψ w0 a w:=Sim.base (w1:=w) ((s.release h2).fewer (M':=M) (fun b h=>.inl h)) s.bel
 refine h code hc hC B M w0 ψ a w (s3.slot (t:=z) (av:=.val (.sl t) xs) ?_ (fun l q=>absurd q (by simp [AV.locs]))) ro hR
 have hv:=s.av z
 rw [h1] at hv
 have e1:sval w0 n a z=ψ l:=hv _ h2
 rw [e1]
 show RdV P (.sl t) w (Mu M (look (killL st.hp [l])) ψ) xs (ψ l)
 rw [look_kill]
 exact rd_own s.hok h2 (by simp)
end
section
variable {P:Program} {B:Nat} {n:Nat} {C:List Ent}
structure RowsAt (B:Nat) (M M':Nat→Prop) (w:World) (T1 T0 et:TypeId) (n0 b1 b2 c:Nat) (vs:List Value) (D:List (List Int)):Prop where
 h1:w.heap[b1]? = some (.cells #[.slice (some ⟨b2,0,none⟩) n0 c] T1 (0,0))
 h2:w.heap[b2]? = some (.cells vs.toArray T0 (0,0))
 len:vs.length=n0
 lenD:D.length=n0
 cap:n0≤c∧c≤maxLen
 o1:B≤b1
 o2:B≤b2
 ne:b1≠b2
 m:∀ b,M' b ↔ M b∨b=b1∨b=b2∨∃ v ∈ vs,blk v=some b
 m1:¬ M b1
 m2:¬ M b2
 rm:∀ v ∈ vs,∀ b,blk v=some b→¬ M b∧b≠b1∧b≠b2
 dj:∀ (u u':Nat) (v v':Value) (b:Nat),vs[u]? = some v→vs[u']? = some v'→blk v=some b→blk v' = some b→u=u'
 row:∀ (u:Nat) (v:Value),vs[u]? = some v→∃ zs,w.ownsRow B et 1 v (D.getD u []).length zs∧RowsBy (fun (x:Int) c=>Rd P (.int .i64) w M x c) (D.getD u []) zs
 one:∀ v ∈ vs,v.oneCell' = true
theorem rd_int {w w':World} {M M':Nat→Prop} {x:Int} {c:List Value} (h:Rd P (.int .i64) w M x c):Rd P (.int .i64) w' M' x c:=h
theorem ownsRow_at {w w':World} {e:TypeId} {s:Nat} {v:Value} {k:Nat} {zs:List Value} (h:w.ownsRow B e s v k zs) (hb:∀ b,blk v=some b→w'.heap[b]? = w.heap[b]?):w'.ownsRow B e s v k zs:=by
 refine ⟨h.1,?_⟩
 rcases h.2 with q | ⟨g,cap,cur,q1,q2,q3,q4⟩
 ·exact .inl q
 ·exact .inr ⟨g,cap,cur,q1,q2,by rw [hb g (by rw [q1];rfl)];exact q3,q4⟩
theorem RowsAt.stay {M M':Nat→Prop} {w w':World} {T1 T0 et:TypeId} {n0 b1 b2 c:Nat} {vs:List Value} {D:List (List Int)} (r:RowsAt (P:=P) B M M' w T1 T0 et n0 b1 b2 c vs D) (h:∀ b,M' b→w'.heap[b]? = w.heap[b]?):RowsAt (P:=P) B M M' w' T1 T0 et n0 b1 b2 c vs D :=
 { r with
  h1:=by rw [h b1 ((r.m b1).2 (.inr (.inl rfl)))];exact r.h1
  h2:=by rw [h b2 ((r.m b2).2 (.inr (.inr (.inl rfl))))];exact r.h2
  row:=fun u v hv=>by
   obtain ⟨zs,q1,q2⟩:=r.row u v hv
   refine ⟨zs,ownsRow_at q1 fun b hb=>h b ((r.m b).2 (.inr (.inr (.inr ⟨v,List.mem_of_getElem? hv,hb⟩)))),q2.mono fun x _ c q=>rd_int q⟩ }
theorem RowsAt.data {M M':Nat→Prop} {Mu:Nat→Prop} {w:World} {T1 T0 et:TypeId} {n0 b1 b2 c:Nat} {vs:List Value} {D:List (List Int)} (r:RowsAt (P:=P) B M M' w T1 T0 et n0 b1 b2 c vs D) (hmu:∀ b,M' b→¬ M b→¬ Mu b):RdV P (.ptr (.sl (.sl (.int .i64)))) w Mu D (.pointer (some ⟨b1,0,none⟩)):=by
 have n1:¬ Mu b1:=hmu b1 ((r.m b1).2 (.inr (.inl rfl))) r.m1
 have n2:¬ Mu b2:=hmu b2 ((r.m b2).2 (.inr (.inr (.inl rfl)))) r.m2
 have cell:∀ {b:Nat} {cs:Array Value} {T:TypeId},w.heap[b]? = some (.cells cs T (0,0))→CellsAt w b 0 cs.toList:=by
  intro b cs T hb j v hj
  rw [Nat.zero_add]
  simp only [World.cell?,hb]
  simpa using hj
 have rows:∀ (us:List Value) (E:List (List Int)),us.length=E.length→(∀ (u:Nat) (v:Value),us[u]? = some v→v ∈ vs∧∃ zs,w.ownsRow B et 1 v (E.getD u []).length zs∧RowsBy (fun (x:Int) c=>Rd P (.int .i64) w M x c) (E.getD u []) zs)→RowsBy (fun (x:List Int) c=>Rd P (.sl (.int .i64)) w Mu x c) E us:=by
  intro us
  induction us with
  | nil=>intro E hl _;cases E with
   | nil=>rfl
   | cons _ _=>cases hl
  | cons v us ih =>
   intro E hl h
   cases E with
   | nil=>cases hl
   | cons x E =>
    refine ⟨[v],us,rfl,?_,ih E (by simpa using hl) fun u v' hv=>?_⟩
    ·obtain ⟨hv,zs,q1,q2⟩:=h 0 v rfl
     simp only [List.getD_cons_zero] at q1 q2
     rcases q1.2 with ⟨rfl,q⟩ | ⟨g,cp,cur,rfl,k1,k2,k3,k4,k5,k6⟩
     ·exact ⟨none,0,0,rfl,q,Nat.le_refl _,Nat.zero_le _,.inl rfl⟩
     ·refine ⟨_,_,cp,rfl,rfl,k3,k4,.inr ⟨g,0,zs,rfl,lt_of_block k2,?_,?_,q2.mono fun x _ c q=>rd_int q⟩⟩
      ·exact hmu g ((r.m g).2 (.inr (.inr (.inr ⟨_,hv,rfl⟩)))) (r.rm _ hv g rfl).1
      ·intro j z hj
       refine cell k2 j z ?_
       rw [← k6,List.getElem?_take] at hj
       split at hj
       ·exact hj
       ·cases hj
    ·have:=h (u+1) v' (by simpa using hv)
     simpa using this
 have hb1:=r.h1
 refine ⟨by unfold Ty.shape Ty.isSt;simp,?_⟩
 exact ⟨b1,0,[.slice (some ⟨b2,0,none⟩) n0 c],rfl,lt_of_block r.h1,n1,cell r.h1,some ⟨b2,0,none⟩,n0,c,rfl,r.lenD,r.cap.1,r.cap.2,.inr ⟨b2,0,vs,rfl,lt_of_block r.h2,n2,cell r.h2,rows vs D (by rw [r.len,r.lenD]) fun u v hv=>⟨List.mem_of_getElem? hv,r.row u v hv⟩⟩⟩
theorem avrs_set {hp:Hp} {ψ:Nat→Value} {w:World} {M:Nat→Prop} {av:AV}:∀ (vs:List Value) (u:Nat),(∀ v,vs[u]? = some v→AVR P hp ψ w M av v)→AVRs P hp ψ w M ((vs.map .cst).set u av) vs
 | [],_,_=>rfl
 | v :: vs,0,h=>⟨v,vs,rfl,h v rfl,by
   have:∀ us:List Value,AVRs P hp ψ w M (us.map .cst) us:=fun us=>by
    induction us with
    | nil=>rfl
    | cons x r ih=>exact ⟨x,r,rfl,rfl,ih⟩
   exact this vs⟩
 | v :: vs,u+1,h=>⟨v,vs,rfl,rfl,avrs_set vs u fun x hx=>h x (by simpa using hx)⟩
theorem set_avrs {hp:Hp} {ψ:Nat→Value} {w:World} {M:Nat→Prop} {av:AV}:∀ (vs:List Value) (u:Nat) (us:List Value),AVRs P hp ψ w M ((vs.map .cst).set u av) us→us.length=vs.length∧(∀ v,us[u]? = some v→AVR P hp ψ w M av v)∧∀ i,i≠u→us[i]? = vs[i]?
 | [],u,us,h=>by obtain rfl:us=[]:=h;exact ⟨rfl,fun v q=>by simp at q,fun _ _=>rfl⟩
 | v :: vs,0,us,h=>by
  obtain ⟨x,r,rfl,h1,h2⟩:=h
  have:∀ (vs us:List Value),AVRs P hp ψ w M (vs.map .cst) us→us=vs:=fun vs=>by
   induction vs with
   | nil=>intro us q;exact q
   | cons y s ih=>rintro us ⟨z,t,rfl,q1,q2⟩;rw [ih t q2,show z=y from q1]
  rw [this vs r h2]
  exact ⟨rfl,fun v' q=>by simp at q;subst q;exact h1,fun i hi=>by
   cases i with
   | zero=>exact absurd rfl hi
   | succ i=>rfl⟩
 | v :: vs,u+1,us,h=>by
  obtain ⟨x,r,rfl,h1,h2⟩:=h
  obtain ⟨q1,q2,q3⟩:=set_avrs vs u r h2
  have:x=v:=h1
  subst this
  exact ⟨by simp [q1],fun v' q=>q2 v' (by simpa using q),fun i hi=>by
   cases i with
   | zero=>rfl
   | succ i=>simpa using q3 i (by omega)⟩
theorem tmG_over {d:Nat} {x y:AV} {tm:List (Nat × AV)}:tmG ((d,x) :: (d,y) :: tm)=tmG ((d,x) :: tm):=by
 funext t
 simp only [tmG]
 split <;> rfl
theorem rows_take {M M':Nat→Prop} {tm:List (Nat × AV)} {hp:List (Nat × OB)} {N:Nat} {kv:List Nat} {ψ:Nat→Value} {w0:Fix} {a:Act} {w:World} {T1 T0 et:TypeId} {n0 b1 b2 c d u:Nat} {vs:List Value} {D:List (List Int)}
  (s:Sim P B M' n ⟨(d,.cst (.pointer (some ⟨b1,0,none⟩))) :: tm,hp,N,kv⟩ ψ w0 a w) (r:RowsAt (P:=P) B M M' w T1 T0 et n0 b1 b2 c vs D) (hu:u < n0) :
  ∃ ψ',Sim P B (fun x=>((M' x∧blk (vs.getD u undef)≠some x)∧b2≠x)∧b1≠x) n ⟨(d,.ptr (N+2) 0) :: tm,(N+2,.box T1 [.arr (N+1) n0]) :: (N+1,.box T0 ((vs.map .cst).set u (.own N))) :: (N,.row et (.int .i64) (D.getD u [])) :: hp,N+3,kv⟩ ψ' ⟨w,w0.vs,w0.dm,w0.ms⟩ a w:=by
 have hul:u < vs.length:=by rw [r.len];exact hu
 have eu:vs[u]? = some (vs.getD u undef):=by rw [List.getD_eq_getElem?_getD,List.getElem?_eq_getElem hul];rfl
 generalize vs.getD u undef=v at eu
 have hv:v ∈ vs:=List.mem_of_getElem? eu
 obtain ⟨zs,q1,q2⟩:=r.row u v eu
 have s1:=s.adopt (ob:=.row et (.int .i64) (D.getD u [])) (u:=v) (fun b hb=>⟨(r.m b).2 (.inr (.inr (.inr ⟨v,hv,hb⟩))),(ownsRow_blk q1 hb).1⟩) (by simp [OB.locs]) ⟨zs,by rw [upd'_same];exact q1,q2.mono fun x _ c q=>rd_int q⟩
 dsimp only at s1
 have s2:=s1.adopt (ob:=.box T0 ((vs.map .cst).set u (.own N))) (u:=.pointer (some ⟨b2,0,none⟩)) (fun b hb=>by
  simp only [blk,Option.some.injEq] at hb;subst hb
  exact ⟨⟨(r.m b2).2 (.inr (.inr (.inl rfl))),fun e=>(r.rm v hv b2 e).2.2 rfl⟩,r.o2⟩) (by
  intro k hk
  simp only [OB.locs] at hk
  obtain ⟨x,hx,hl⟩:=locsL_of hk
  rcases List.mem_or_eq_of_mem_set hx with hx | rfl
  ·obtain ⟨y,_,rfl⟩:=List.mem_map.1 hx;cases hl
  ·simp only [AV.locs,List.mem_singleton] at hl;rw [hl];show N < N+1+1;omega) ⟨b2,vs.toArray,upd'_same _ _ _,r.o2,r.h2,by
   refine avrs_set vs u fun x hx ob hob=>?_
   rw [eu] at hx;injection hx with hx;subst hx
   rw [upd'_other _ _ (show N≠N+1 by omega),upd'_same],r.one⟩
 dsimp only at s2
 have s3:=s2.adopt (ob:=.box T1 [.arr (N+1) n0]) (u:=.pointer (some ⟨b1,0,none⟩)) (fun b hb=>by
  simp only [blk,Option.some.injEq] at hb;subst hb
  exact ⟨⟨⟨(r.m b1).2 (.inr (.inl rfl)),fun e=>(r.rm v hv b1 e).2.1 rfl⟩,fun e=>by simp only [blk,Option.some.injEq] at e;exact r.ne e.symm⟩,r.o1⟩) (by
  intro k hk
  simp [OB.locs,AV.locsL,AV.locs] at hk;rw [hk];show N+1 < N+1+1+1;omega) ⟨b1,#[.slice (some ⟨b2,0,none⟩) n0 c],upd'_same _ _ _,r.o1,r.h1,by
   refine ⟨_,[],rfl,fun ob hob=>⟨b2,c,?_,rfl,r.cap⟩,rfl⟩
   show upd' _ (N+1+1) _ (N+1)=_
   rw [upd'_other _ _ (show N+1≠N+1+1 by omega),upd'_same],fun x hx=>by simp at hx;subst hx;rfl⟩
 dsimp only at s3
 have s4:=s3.slot (t:=d) (av:=.ptr (N+2) 0) (fun ob hob=>⟨b1,upd'_same _ _ _,by
  have:=s3.av d
  simp only [tmG,if_true] at this
  exact this⟩) (by intro l hl;simp only [AV.locs,List.mem_singleton] at hl;rw [hl];show N+2 < N+1+1+1;omega)
 refine ⟨upd' (upd' (upd' ψ N v) (N+1) (.pointer (some ⟨b2,0,none⟩))) (N+2) (.pointer (some ⟨b1,0,none⟩)),?_⟩
 have e:(fun x=>((M' x∧blk v≠some x)∧b2≠x)∧b1≠x)=(fun x=>((M' x∧blk v≠some x)∧blk (.pointer (some ⟨b2,0,none⟩))≠some x)∧blk (.pointer (some ⟨b1,0,none⟩))≠some x):=by
  funext x;simp [blk]
 rw [e]
 unfold Sim at s4 ⊢
 rw [← tmG_over (y:=.cst (.pointer (some ⟨b1,0,none⟩)))]
 exact s4
theorem rows_give {M M':Nat→Prop} {s0:AS} {ψ:Nat→Value} {w0:Fix} {a:Act} {w':World} {T1 T0 et:TypeId} {n0 b1 b2 c d u na nb nr:Nat} {vs:List Value} {D:List (List Int)} {ys:List Int}
  (s:Sim P B (fun x=>((M' x∧blk (vs.getD u undef)≠some x)∧b2≠x)∧b1≠x) n s0 ψ w0 a w') (r:RowsAt (P:=P) B M M' w0.w T1 T0 et n0 b1 b2 c vs D) (hM:∀ b,M' b→b < w0.w.heap.size) (hu:u < n0)
  (ht:tmG s0.tm d = .ptr nb 0) (hb:look s0.hp nb=some (.box T1 [.arr na n0])) (ha:look s0.hp na=some (.box T0 ((vs.map .cst).set u (.own nr)))) (hr:look s0.hp nr=some (.row et (.int .i64) ys)) (hne:na≠nb) :
  ∃ b1' b2' c' vs' M3,Sim P B M3 n ⟨(d,.cst (.pointer (some ⟨b1',0,none⟩))) :: s0.tm,killL (killL (killL s0.hp [nb]) [na]) [nr],s0.nx,s0.kv⟩ ψ ⟨w',w0.vs,w0.dm,w0.ms⟩ a w'∧RowsAt (P:=P) B M M3 w' T1 T0 et n0 b1' b2' c' vs' (D.set u ys):=by
 have hrb:nr≠nb:=fun e=>by rw [e,hb] at hr;cases hr
 have hra:nr≠na:=fun e=>by rw [e,ha] at hr;cases hr
 have hul:u < vs.length:=by rw [r.len];exact hu
 have eu:vs[u]? = some (vs.getD u undef):=by rw [List.getD_eq_getElem?_getD,List.getElem?_eq_getElem hul];rfl
 obtain ⟨b1',cells1,e1,o1,h1,a1,on1⟩:=s.hok.ob nb _ hb
 obtain ⟨x1,y1,ex,a2,a3⟩:=a1
 obtain rfl:y1=[]:=a3
 obtain ⟨b2',c',e2,rfl,hc1,hc2⟩:=a2 _ ha
 obtain ⟨b2x,cells2,e2',o2,h2,a4,on2⟩:=s.hok.ob na _ ha
 rw [e2] at e2'
 simp only [Value.pointer.injEq,Option.some.injEq,Addr.mk.injEq,and_true] at e2'
 subst e2'
 obtain ⟨zs,q1,q2⟩:=s.hok.ob nr _ hr
 obtain ⟨hl,hnew,hold⟩:=set_avrs vs u cells2.toList a4
 have bb1:blk (ψ nb)=some b1':=by rw [e1];rfl
 have bb2:blk (ψ na)=some b2':=by rw [e2];rfl
 have enu:cells2.toList[u]? = some (ψ nr):=by
  have:u < cells2.toList.length:=by rw [hl];exact hul
  rw [List.getElem?_eq_getElem this]
  exact congrArg some (hnew _ (List.getElem?_eq_getElem this) _ hr)
 have keep:∀ (i:Nat) (v:Value) (g:Nat),i≠u→vs[i]? = some v→blk v=some g→((M' g∧blk (vs.getD u undef)≠some g)∧b2≠g)∧b1≠g:=fun i v g hi hv hg=>by
  have:=r.rm v (List.mem_of_getElem? hv) g hg
  exact ⟨⟨⟨(r.m g).2 (.inr (.inr (.inr ⟨v,List.mem_of_getElem? hv,hg⟩))),fun e=>hi (r.dj i u v _ g hv eu hg e)⟩,fun e=>this.2.2 e.symm⟩,fun e=>this.2.1 e.symm⟩
 have hsub:∀ b,M b→((M' b∧blk (vs.getD u undef)≠some b)∧b2≠b)∧b1≠b:=fun b hb=>⟨⟨⟨(r.m b).2 (.inl hb),fun e=>(r.rm _ (List.mem_of_getElem? eu) b e).1 hb⟩,fun e=>r.m2 (e ▸ hb)⟩,fun e=>r.m1 (e ▸ hb)⟩
 have s1:=s.release hb
 have s2:=s1.release (l:=na) (ob:=.box T0 ((vs.map .cst).set u (.own nr))) (by rw [look_kill,kill_not (by simpa using hne)];exact ha)
 have s3:=s2.release (l:=nr) (ob:=.row et (.int .i64) ys) (by rw [look_kill,kill_not (by simpa using hra),look_kill,kill_not (by simpa using hrb)];exact hr)
 have s4:=s3.slot (t:=d) (av:=.cst (.pointer (some ⟨b1',0,none⟩))) (by
  obtain ⟨b,q3,q4⟩:=(show AVR P _ ψ w' _ (.ptr nb 0) _ from ht ▸ s.av d) _ hb
  rw [e1] at q3
  simp only [Value.pointer.injEq,Option.some.injEq,Addr.mk.injEq,and_true] at q3
  subst q3
  exact q4) (by intro l hl;cases hl)
 refine ⟨b1',b2',c',cells2.toList,_,s4,?_⟩
 have vold:∀ (i:Nat) (v:Value),i≠u→cells2.toList[i]? = some v→vs[i]? = some v:=fun i v hi hv=>by rw [← hold i hi];exact hv
 have hnr:∀ b,blk (ψ nr)=some b→¬ (((M' b∧blk (vs.getD u undef)≠some b)∧b2≠b)∧b1≠b):=fun b hb=>s.hok.md nr _ b hr hb
 refine { h1:=?_,h2:=by simpa using h2,len:=by rw [hl,r.len],lenD:=by rw [List.length_set,r.lenD],cap:=⟨hc1,hc2⟩,o1:=o1,o2:=o2,ne:=fun e=>?_,m:=fun b=>?_,m1:=fun q=>s.hok.md nb _ _ hb bb1 (hsub _ q),m2:=fun q=>s.hok.md na _ _ ha bb2 (hsub _ q),rm:=fun v hv b hb'=>?_,dj:=fun i i' v v' b hi hi' q q'=>?_,row:=fun i v hi=>?_,one:=on2 }
 ·have:cells1 = #[.slice (some ⟨b2',0,none⟩) n0 c']:=by rw [← Array.toArray_toList (xs:=cells1),ex]
  rw [← this];exact h1
 ·exact hne (s.hok.dj na nb _ _ b1' ha hb (e ▸ bb2) bb1)
 ·constructor
  ·rintro (((q | q) | q) | q)
   ·rcases (r.m b).1 q.1.1.1 with k | k | k | ⟨v,hv,hg⟩
    ·exact .inl k
    ·exact absurd k.symm q.2
    ·exact absurd k.symm q.1.2
    ·obtain ⟨i,hi⟩:=List.mem_iff_getElem?.1 hv
     by_cases e:i=u
     ·subst e;rw [eu] at hi;injection hi with hi;subst hi;exact absurd hg q.1.1.2
     ·exact .inr (.inr (.inr ⟨v,List.mem_of_getElem? (by rw [hold i e];exact hi),hg⟩))
   ·rw [bb1] at q;injection q with q;exact .inr (.inl q.symm)
   ·rw [bb2] at q;injection q with q;exact .inr (.inr (.inl q.symm))
   ·exact .inr (.inr (.inr ⟨_,List.mem_of_getElem? enu,q⟩))
  ·rintro (q | q | q | ⟨v,hv,hg⟩)
   ·exact .inl (.inl (.inl (hsub b q)))
   ·exact .inl (.inl (.inr (by rw [bb1,q])))
   ·exact .inl (.inr (by rw [bb2,q]))
   ·obtain ⟨i,hi⟩:=List.mem_iff_getElem?.1 hv
    by_cases e:i=u
    ·subst e;rw [enu] at hi;injection hi with hi;subst hi;exact .inr hg
    ·exact .inl (.inl (.inl (keep i v b e (vold i v e hi) hg)))
 ·obtain ⟨i,hi⟩:=List.mem_iff_getElem?.1 hv
  by_cases e:i=u
  ·subst e;rw [enu] at hi;injection hi with hi;subst hi
   exact ⟨fun q=>hnr b hb' (hsub b q),fun e=>hrb (s.hok.dj nr nb _ _ b hr hb hb' (e ▸ bb1)),fun e=>hra (s.hok.dj nr na _ _ b hr ha hb' (e ▸ bb2))⟩
  ·have k:=keep i v b e (vold i v e hi) hb'
   exact ⟨(r.rm v (List.mem_of_getElem? (vold i v e hi)) b hb').1,fun e=>s.hok.md nb _ _ hb bb1 (e ▸ k),fun e=>s.hok.md na _ _ ha bb2 (e ▸ k)⟩
 ·by_cases e:i=u
  ·by_cases e':i' = u
   ·rw [e,e']
   ·subst e;rw [enu] at hi;injection hi with hi;subst hi
    exact absurd (keep i' v' b e' (vold i' v' e' hi') q') (hnr b q)
  ·by_cases e':i' = u
   ·subst e';rw [enu] at hi';injection hi' with hi';subst hi'
    exact absurd (keep i v b e (vold i v e hi) q) (hnr b q')
   ·exact r.dj i i' v v' b (vold i v e hi) (vold i' v' e' hi') q q'
 ·by_cases e:i=u
  ·subst e;rw [enu] at hi;injection hi with hi;subst hi
   have:(D.set i ys).getD i []=ys:=by rw [List.getD_eq_getElem?_getD,List.getElem?_set_self (by rw [r.lenD];exact hu)];rfl
   rw [this]
   exact ⟨zs,q1,q2.mono fun x _ c q=>rd_int q⟩
  ·obtain ⟨zs',k1,k2⟩:=r.row i v (vold i v e hi)
   have:(D.set u ys).getD i []=D.getD i []:=by rw [List.getD_eq_getElem?_getD,List.getElem?_set_ne (Ne.symm e),List.getD_eq_getElem?_getD]
   rw [this]
   refine ⟨zs',ownsRow_at k1 fun g hg=>?_,k2.mono fun x _ c q=>rd_int q⟩
   have k:=keep i v g e (vold i v e hi) hg
   exact s.bel.stay g k (hM g k.1.1.1)
theorem RowsAt.sub {M M':Nat→Prop} {w:World} {T1 T0 et:TypeId} {n0 b1 b2 c u:Nat} {vs:List Value} {D:List (List Int)} (r:RowsAt (P:=P) B M M' w T1 T0 et n0 b1 b2 c vs D) (hu:u < n0):∀ b,M b→((M' b∧blk (vs.getD u undef)≠some b)∧b2≠b)∧b1≠b:=fun b hb=>by
 have hul:u < vs.length:=by rw [r.len];exact hu
 have eu:vs[u]? = some (vs.getD u undef):=by rw [List.getD_eq_getElem?_getD,List.getElem?_eq_getElem hul];rfl
 exact ⟨⟨⟨(r.m b).2 (.inl hb),fun e=>(r.rm _ (List.mem_of_getElem? eu) b e).1 hb⟩,fun e=>r.m2 (e ▸ hb)⟩,fun e=>r.m1 (e ▸ hb)⟩
theorem csts_avrs {hp:Hp} {ψ:Nat→Value} {w:World} {M:Nat→Prop} {v:Value}:∀ (k:Nat) (us:List Value),AVRs P hp ψ w M (List.replicate k (.cst v)) us→us=List.replicate k v
 | 0,us,h=>h
 | k+1,us,h=>by
  obtain ⟨x,r,rfl,h1,h2⟩:=h
  rw [csts_avrs k r h2,show x=v from h1];rfl
theorem rows_start {M:Nat→Prop} {st:AS} {ψ:Nat→Value} {w0:Fix} {a:Act} {w:World} {T1 T0:TypeId} (et:TypeId) {n0 d lb lo:Nat} (s:Sim P B M n st ψ w0 a w) (ht:tmG st.tm d = .ptr lb 0) (hb:look st.hp lb=some (.box T1 [.arr lo n0])) (ho:look st.hp lo=some (.box T0 (List.replicate n0 (.cst (.slice none 0 0))))) (hne:lo≠lb) :
  ∃ b1 b2 c M',Sim P B M' n ⟨(d,.cst (.pointer (some ⟨b1,0,none⟩))) :: st.tm,killL (killL st.hp [lb]) [lo],st.nx,st.kv⟩ ψ ⟨w,w0.vs,w0.dm,w0.ms⟩ a w∧RowsAt (P:=P) B M M' w T1 T0 et n0 b1 b2 c (List.replicate n0 (.slice none 0 0)) (List.replicate n0 []):=by
 obtain ⟨b1,cells1,e1,o1,h1,a1,on1⟩:=s.hok.ob lb _ hb
 obtain ⟨x1,y1,ex,a2,a3⟩:=a1
 obtain rfl:y1=[]:=a3
 obtain ⟨b2,c,e2,rfl,hc1,hc2⟩:=a2 _ ho
 obtain ⟨b2x,cells2,e2',o2,h2,a4,on2⟩:=s.hok.ob lo _ ho
 rw [e2] at e2'
 simp only [Value.pointer.injEq,Option.some.injEq,Addr.mk.injEq,and_true] at e2'
 subst e2'
 have ec:=csts_avrs _ _ a4
 have bb1:blk (ψ lb)=some b1:=by rw [e1];rfl
 have bb2:blk (ψ lo)=some b2:=by rw [e2];rfl
 have s1:=s.release hb
 have s2:=s1.release (l:=lo) (by rw [look_kill,kill_not (by simpa using hne)];exact ho)
 have s3:=s2.slot (t:=d) (av:=.cst (.pointer (some ⟨b1,0,none⟩))) (by
  obtain ⟨b,q3,q4⟩:=(show AVR P _ ψ w _ (.ptr lb 0) _ from ht ▸ s.av d) _ hb
  rw [e1] at q3
  simp only [Value.pointer.injEq,Option.some.injEq,Addr.mk.injEq,and_true] at q3
  subst q3
  exact q4) (by intro l hl;cases hl)
 refine ⟨b1,b2,c,_,s3,?_⟩
 have nb:∀ v ∈ List.replicate n0 (Value.slice none 0 0),v = .slice none 0 0:=fun v hv=>(List.mem_replicate.1 hv).2
 refine { h1:=?_,h2:=by rw [← ec];simpa using h2,len:=by simp,lenD:=by simp,cap:=⟨hc1,hc2⟩,o1:=o1,o2:=o2,ne:=fun e=>?_,m:=fun b=>?_,m1:=s.hok.md lb _ _ hb bb1,m2:=s.hok.md lo _ _ ho bb2,rm:=fun v hv b hb'=>?_,dj:=fun i i' v v' b hi hi' q q'=>?_,row:=fun i v hi=>?_,one:=fun v hv=>by rw [nb v hv];rfl }
 ·have:cells1 = #[.slice (some ⟨b2,0,none⟩) n0 c]:=by rw [← Array.toArray_toList (xs:=cells1),ex]
  rw [← this];exact h1
 ·exact hne (s.hok.dj lo lb _ _ b1 ho hb (e ▸ bb2) bb1)
 ·rw [bb1,bb2]
  constructor
  ·rintro ((q | q) | q)
   ·exact .inl q
   ·injection q with q;exact .inr (.inl q.symm)
   ·injection q with q;exact .inr (.inr (.inl q.symm))
  ·rintro (q | q | q | ⟨v,hv,hg⟩)
   ·exact .inl (.inl q)
   ·exact .inl (.inr (by rw [q]))
   ·exact .inr (by rw [q])
   ·rw [nb v hv] at hg;cases hg
 ·rw [nb v hv] at hb';cases hb'
 ·rw [nb v (List.mem_of_getElem? hi)] at q;cases q
 ·rw [nb v (List.mem_of_getElem? hi)]
  have hi':=(List.getElem?_eq_some_iff.1 hi).1
  have:(List.replicate n0 ([]:List Int)).getD i []=[]:=by
   rw [List.getD_eq_getElem?_getD,List.getElem?_replicate];split <;> rfl
  rw [this]
  exact ⟨[],⟨rfl,.inl ⟨rfl,rfl⟩⟩,rfl⟩
def AS.with (st:AS) (d:Nat) (av:AV):AS:=⟨(d,av) :: st.tm,st.hp,st.nx,st.kv⟩
theorem XW_rows {b:XC} {Q:XQ} {st:AS} (i:Nat) (X:Type) (I:X→AS) (inv done:X→Prop) (μ:X→Nat) (x0:X) (d lb lo n0:Nat) (T1 T0 et:TypeId) (D:X→List (List Int)) (sel:X→Nat)
  (ht:tmG st.tm d = .ptr lb 0) (hb:look st.hp lb=some (.box T1 [.arr lo n0])) (ho:look st.hp lo=some (.box T0 (List.replicate n0 (.cst (.slice none 0 0))))) (hne:lo≠lb)
  (h0:∀ v,AS.le P n ⟨(d,.cst v) :: st.tm,killL (killL st.hp [lb]) [lo],st.nx,st.kv⟩ ((I x0).with d (.cst v))) (hi:inv x0) (hD0:D x0=List.replicate n0 [])
  (hdone:∀ x,inv x→done x→Q (.exit i) ((I x).with d (.val (.ptr (.sl (.sl (.int .i64)))) (D x)))∧∀ v,xwp P C n b (fun e s=>e = .exit i∧AS.le P n s ((I x).with d (.cst v))) ((I x).with d (.cst v)))
  (hr:∀ x,inv x→¬ done x→sel x < n0∧∀ vs:List Value,vs.length=n0→xwp P C n b (fun e s=>e = .normal∧∃ x' nr ys,μ x' < μ x∧inv x'∧tmG s.tm d = .ptr ((I x).nx+2) 0∧look s.hp ((I x).nx+2)=some (.box T1 [.arr ((I x).nx+1) n0])∧look s.hp ((I x).nx+1)=some (.box T0 ((vs.map .cst).set (sel x) (.own nr)))∧look s.hp nr=some (.row et (.int .i64) ys)∧D x' = (D x).set (sel x) ys ∧
    ∀ v,AS.le P n ⟨(d,.cst v) :: s.tm,killL (killL (killL s.hp [(I x).nx+2]) [(I x).nx+1]) [nr],s.nx,s.kv⟩ ((I x').with d (.cst v)))
   ⟨(d,.ptr ((I x).nx+2) 0) :: (I x).tm,((I x).nx+2,.box T1 [.arr ((I x).nx+1) n0]) :: ((I x).nx+1,.box T0 ((vs.map .cst).set (sel x) (.own (I x).nx))) :: ((I x).nx,.row et (.int .i64) ((D x).getD (sel x) [])) :: (I x).hp,(I x).nx+3,(I x).kv⟩):XW P C n (.loop b) Q st:=by
 intro code hc hC B M w0 ψ a w s ro hR
 cases code <;> simp [codeChk] at hc
 obtain ⟨b1,b2,c,M',s1,r1⟩:=rows_start et s ht hb ho hne
 obtain ⟨ψ1,s2⟩:=h0 _ B M' _ ψ a w s1
 refine wpIn_loop_ghost (fun k a w=>∃ x ψ M' b1 b2 c vs,μ x=k∧inv x∧Stay B M w0.w w∧Sim P B M' n ((I x).with d (.cst (.pointer (some ⟨b1,0,none⟩)))) ψ ⟨w,w0.vs,w0.dm,w0.ms⟩ a w∧RowsAt (P:=P) B M M' w T1 T0 et n0 b1 b2 c vs (D x)) (μ x0) ⟨x0,ψ1,M',b1,b2,c,_,rfl,hi,s.bel,s2,hD0 ▸ r1⟩ ?_
 rintro k a w ⟨x,ψ,M',b1,b2,c,vs,rfl,hx,hst,s,r⟩
 by_cases hdn:done x
 ·obtain ⟨hq,hw⟩:=hdone x hx hdn
  refine wpIn_mono (XW_of (hw _) _ hc hC B M' _ ψ a w s ro hR) fun e a' w' q=>?_
  cases e with
  | normal=>obtain ⟨_,_,_,h2,_⟩:=q;cases h2
  | ret=>obtain ⟨_,_,_,h2,_⟩:=q;cases h2
  | exit j =>
   obtain ⟨s1,ψ1,h1,h2,h3⟩:=q
   injection h2 with h2;subst h2
   obtain ⟨ψ2,s3⟩:=h3 B M' _ ψ1 a' w' h1
   have r':=r.stay (w':=w') fun b hb=>h1.bel.stay b hb (s.hok.mb b hb)
   have s4:=s3.fewer (M':=M) fun b hb=>(r.m b).2 (.inl hb)
   have hmu:∀ b,M' b→¬ M b→¬ Mu M (look (I x).hp) ψ2 b:=fun b k1 k2 k3=>by
    rcases k3 with k3 | ⟨l,ob,k4,k5⟩
    ·exact k2 k3
    ·exact s3.hok.md l ob b k4 k5 k1
   have s5:=s4.slot (t:=d) (av:=.val (.ptr (.sl (.sl (.int .i64)))) (D x)) (by
    have:=s3.av d
    simp only [AS.with,tmG,if_true] at this
    have hdt:=r'.data hmu
    rw [← this] at hdt
    exact hdt) (by intro l hl;cases hl)
   refine ⟨_,ψ2,Sim.base (w1:=w') (st:=(I x).with d (.val (.ptr (.sl (.sl (.int .i64)))) (D x))) ?_ (hst.trans (h1.bel.fewer fun b hb=>(r.m b).2 (.inl hb))),hq⟩
   unfold Sim AS.with at s5 ⊢
   rw [tmG_over] at s5
   exact s5
  | _=>exact q.elim
 ·obtain ⟨hsel,hw⟩:=hr x hx hdn
  obtain ⟨ψ1,s1⟩:=rows_take s r hsel
  refine wpIn_mono (XW_of (hw vs r.len) _ hc hC B _ _ ψ1 a w s1 ro hR) fun e a' w' q=>?_
  cases e with
  | normal =>
   obtain ⟨s2,ψ2,h1,_,x',nr,ys,k1,k2,k3,k4,k5,k6,k7,k8⟩:=q
   obtain ⟨b1',b2',c',vs',M3,s3,r3⟩:=rows_give (w0:=⟨w,w0.vs,w0.dm,w0.ms⟩) h1 r (fun b=>s.hok.mb b) hsel k3 k4 k5 k6 (by omega)
   obtain ⟨ψ4,s4⟩:=k8 _ B M3 _ ψ2 a' w' s3
   exact ⟨μ x',k1,x',ψ4,M3,b1',b2',c',vs',rfl,k2,hst.trans (h1.bel.fewer (r.sub hsel)),s4,k7 ▸ r3⟩
  | ret=>obtain ⟨_,_,_,h2,_⟩:=q;cases h2
  | exit j=>obtain ⟨_,_,_,h2,_⟩:=q;cases h2
  | _=>exact q.elim
theorem XW_rowsN {b:XC} {Q:XQ} {st:AS} (i N:Nat) (ds ls:List Nat) (live:Nat→List (Nat × AV)) (m d lb lo n0:Nat) (T1 T0 et:TypeId) (D:Nat→List (List Int)) (sel:Nat→Nat) (nr:Nat) (ys:Nat→List Int)
  (ht:tmG st.tm d = .ptr lb 0) (hb:look st.hp lb=some (.box T1 [.arr lo n0])) (ho:look st.hp lo=some (.box T0 (List.replicate n0 (.cst (.slice none 0 0))))) (hne:lo≠lb)
  (h0:∀ v,le' ⟨(d,.cst v) :: st.tm,killL (killL st.hp [lb]) [lo],st.nx,st.kv⟩ ((headOf ⟨st.tm,killL (killL st.hp [lb]) [lo],st.nx,st.kv⟩ N ds (live 0) ls []).with d (.cst v))) (hD0:D 0=List.replicate n0 [])
  (hq:Q (.exit i) ((headOf ⟨st.tm,killL (killL st.hp [lb]) [lo],st.nx,st.kv⟩ N ds (live m) ls []).with d (.val (.ptr (.sl (.sl (.int .i64)))) (D m))))
  (hx:∀ v,xwp P C n b (fun e s=>e = .exit i∧leQ s ((headOf ⟨st.tm,killL (killL st.hp [lb]) [lo],st.nx,st.kv⟩ N ds (live m) ls []).with d (.cst v))) ((headOf ⟨st.tm,killL (killL st.hp [lb]) [lo],st.nx,st.kv⟩ N ds (live m) ls []).with d (.cst v)))
  (hr:∀ k,k < m→sel k < n0∧D (k+1)=(D k).set (sel k) (ys k)∧∀ vs:List Value,vs.length=n0→xwp P C n b (fun e s=>e = .normal∧tmG s.tm d = .ptr (N+2) 0∧look s.hp (N+2)=some (.box T1 [.arr (N+1) n0])∧look s.hp (N+1)=some (.box T0 ((vs.map .cst).set (sel k) (.own nr)))∧look s.hp nr=some (.row et (.int .i64) (ys k)) ∧
    ∀ v,leQ ⟨(d,.cst v) :: s.tm,killL (killL (killL s.hp [N+2]) [N+1]) [nr],s.nx,s.kv⟩ ((headOf ⟨st.tm,killL (killL st.hp [lb]) [lo],st.nx,st.kv⟩ N ds (live (k+1)) ls []).with d (.cst v)))
   ⟨(d,.ptr (N+2) 0) :: headT st.tm st.kv ds (live k),(N+2,.box T1 [.arr (N+1) n0]) :: (N+1,.box T0 ((vs.map .cst).set (sel k) (.own N))) :: (N,.row et (.int .i64) ((D k).getD (sel k) [])) :: puts (keep (killL (killL st.hp [lb]) [lo]) ls) [],N+3,st.kv⟩):XW P C n (.loop b) Q st:=by
 refine XW_rows i Nat (fun k=>headOf ⟨st.tm,killL (killL st.hp [lb]) [lo],st.nx,st.kv⟩ N ds (live k) ls []) (fun k=>k≤m) (fun k=>k=m) (fun k=>m - k) 0 d lb lo n0 T1 T0 et D sel ht hb ho hne (fun v=>le_of (h0 v)) (Nat.zero_le _) hD0 (fun k _ hk=>?_) (fun k hk hkm=>?_)
 ·subst hk
  exact ⟨hq,fun v=>xwp_mono (fun e s q=>⟨q.1,le_of q.2⟩) (hx v)⟩
 ·obtain ⟨h1,h2,h3⟩:=hr k (by omega)
  exact ⟨h1,fun vs hvs=>xwp_mono (fun e s q=>⟨q.1,k+1,nr,ys k,by omega,by omega,q.2.1,q.2.2.1,q.2.2.2.1,q.2.2.2.2.1,h2,fun v=>le_of (q.2.2.2.2.2 v)⟩) (h3 vs hvs)⟩
end
end T
end Go.Proofs.YtecdcopihghnaaaGreat
end
