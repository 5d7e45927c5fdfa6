/- Parts of the proof of the law; no condition. -/
import Derived.Test.YtpocfbfmjippnaaGreatF4
set_option linter.all false
section
namespace Go.Proofs.YtpocfbfmjippnaaGreat
namespace T
abbrev Z1:Ty:=.int .i64
abbrev Z2:Ty:=.st (.cons (.int .i64) (.int .i64))
abbrev Z3:Ty:=.sl (.st (.cons (.int .i64) (.int .i64)))
abbrev Z4:Ty:=.st (.cons (.sl (.st (.cons (.int .i64) (.int .i64)))) (.cons (.sl .bool) .bool))
abbrev Z5:Ty:=.st (.cons (.int .i64) (.cons (.int .i64) (.int .i64)))
abbrev Z6:Ty:=.st (.cons (.int .i64) (.cons (.int .i64) (.cons (.int .i64) (.cons (.int .i64) (.cons (.int .i64) (.cons (.int .i64) (.cons (.int .i64) (.cons (.int .i64) (.cons (.int .i64) (.int .i64))))))))))
abbrev Z7:Ty:=.sl (.st (.cons (.int .i64) (.cons (.int .i64) (.cons (.int .i64) (.cons (.int .i64) (.cons (.int .i64) (.cons (.int .i64) (.cons (.int .i64) (.cons (.int .i64) (.cons (.int .i64) (.int .i64)))))))))))
abbrev Z8:Ty:=.st (.cons (.int .i64) .bool)
abbrev Z9:Ty:=.sl (.int .i64)
abbrev Z10:Ty:=.sl (.st (.cons (.int .i64) .bool))
abbrev Z11:Ty:=.st (.cons (.int .i64) (.cons (.sl (.st (.cons (.int .i64) .bool))) (.cons (.sl (.st (.cons (.int .i64) (.int .i64)))) (.sl (.int .i64)))))
abbrev Z12:Ty:=.st (.cons (.sl (.int .i64)) (.int .i64))
abbrev Z13:Ty:=.sl (.st (.cons (.int .i64) (.cons (.int .i64) (.int .i64))))
abbrev Z14:Ty:=.st (.cons (.sl (.st (.cons (.int .i64) (.int .i64)))) (.cons (.sl (.st (.cons (.int .i64) (.int .i64)))) (.sl (.st (.cons (.int .i64) (.cons (.int .i64) (.int .i64)))))))
abbrev Z15:Ty:=.st (.cons (.int .i64) (.cons (.int .i64) .bool))
abbrev Z16:Ty:=.st (.cons (.int .i64) (.cons (.int .i64) (.cons (.sl (.int .i64)) (.sl (.int .i64)))))
abbrev Z17:Ty:=.st (.cons (.int .i64) (.cons (.int .i64) (.cons (.int .i64) (.cons (.int .i64) (.cons (.int .i64) (.cons (.int .i64) (.cons (.int .i64) (.cons (.int .i64) (.int .i64)))))))))
abbrev Z18:Ty:=.sl (.sl (.int .i64))
abbrev Z19:Ty:=.ptr (.st (.cons (.sl (.st (.cons (.int .i64) (.int .i64)))) (.cons (.sl .bool) .bool)))
abbrev Z20:Ty:=.sl (.st (.cons (.int .i64) (.cons (.int .i64) (.cons (.sl (.int .i64)) (.sl (.int .i64))))))
abbrev Z21:Ty:=.sl (.st (.cons (.int .i64) (.cons (.int .i64) .bool)))
abbrev Z22:Ty:=.sl (.st (.cons (.int .i64) (.cons (.int .i64) (.cons (.int .i64) (.cons (.int .i64) (.cons (.int .i64) (.cons (.int .i64) (.cons (.int .i64) (.cons (.int .i64) (.int .i64))))))))))
abbrev Z23:Ty:=.st (.cons (.int .i64) (.cons (.sl (.st (.cons (.int .i64) (.cons (.int .i64) (.cons (.sl (.int .i64)) (.sl (.int .i64))))))) (.cons (.sl (.st (.cons (.int .i64) (.cons (.int .i64) (.cons (.int .i64) (.cons (.int .i64) (.cons (.int .i64) (.cons (.int .i64) (.cons (.int .i64) (.cons (.int .i64) (.int .i64))))))))))) (.cons (.sl (.st (.cons (.int .i64) (.cons (.int .i64) (.cons (.int .i64) (.cons (.int .i64) (.cons (.int .i64) (.cons (.int .i64) (.cons (.int .i64) (.cons (.int .i64) (.cons (.int .i64) (.int .i64)))))))))))) (.cons (.sl (.st (.cons (.int .i64) (.cons (.int .i64) .bool)))) (.st (.cons (.int .i64) (.cons (.int .i64) (.int .i64)))))))))
abbrev Z24:Ty:=.sl (.st (.cons (.sl (.int .i64)) (.int .i64)))
abbrev Z25:Ty:=.sl (.st (.cons (.int .i64) (.cons (.sl (.st (.cons (.int .i64) .bool))) (.cons (.sl (.st (.cons (.int .i64) (.int .i64)))) (.sl (.int .i64))))))
abbrev Z26:Ty:=.st (.cons (.st (.cons (.int .i64) (.cons (.sl (.st (.cons (.int .i64) (.cons (.int .i64) (.cons (.sl (.int .i64)) (.sl (.int .i64))))))) (.cons (.sl (.st (.cons (.int .i64) (.cons (.int .i64) (.cons (.int .i64) (.cons (.int .i64) (.cons (.int .i64) (.cons (.int .i64) (.cons (.int .i64) (.cons (.int .i64) (.int .i64))))))))))) (.cons (.sl (.st (.cons (.int .i64) (.cons (.int .i64) (.cons (.int .i64) (.cons (.int .i64) (.cons (.int .i64) (.cons (.int .i64) (.cons (.int .i64) (.cons (.int .i64) (.cons (.int .i64) (.int .i64)))))))))))) (.cons (.sl (.st (.cons (.int .i64) (.cons (.int .i64) .bool)))) (.st (.cons (.int .i64) (.cons (.int .i64) (.int .i64)))))))))) (.cons (.sl (.int .i64)) (.cons (.sl (.int .i64)) (.cons (.sl (.st (.cons (.int .i64) (.cons (.sl (.st (.cons (.int .i64) .bool))) (.cons (.sl (.st (.cons (.int .i64) (.int .i64)))) (.sl (.int .i64))))))) (.cons (.int .i64) (.sl (.st (.cons (.sl (.int .i64)) (.int .i64)))))))))
abbrev Z27:Ty:=.ptr (.st (.cons (.st (.cons (.int .i64) (.cons (.sl (.st (.cons (.int .i64) (.cons (.int .i64) (.cons (.sl (.int .i64)) (.sl (.int .i64))))))) (.cons (.sl (.st (.cons (.int .i64) (.cons (.int .i64) (.cons (.int .i64) (.cons (.int .i64) (.cons (.int .i64) (.cons (.int .i64) (.cons (.int .i64) (.cons (.int .i64) (.int .i64))))))))))) (.cons (.sl (.st (.cons (.int .i64) (.cons (.int .i64) (.cons (.int .i64) (.cons (.int .i64) (.cons (.int .i64) (.cons (.int .i64) (.cons (.int .i64) (.cons (.int .i64) (.cons (.int .i64) (.int .i64)))))))))))) (.cons (.sl (.st (.cons (.int .i64) (.cons (.int .i64) .bool)))) (.st (.cons (.int .i64) (.cons (.int .i64) (.int .i64)))))))))) (.cons (.sl (.int .i64)) (.cons (.sl (.int .i64)) (.cons (.sl (.st (.cons (.int .i64) (.cons (.sl (.st (.cons (.int .i64) .bool))) (.cons (.sl (.st (.cons (.int .i64) (.int .i64)))) (.sl (.int .i64))))))) (.cons (.int .i64) (.sl (.st (.cons (.sl (.int .i64)) (.int .i64))))))))))
abbrev Z28:Ty:=.st (.cons (.int .i64) (.cons (.int .i64) (.cons (.int .i64) (.int .i64))))
abbrev Z29:Ty:=.ptr (.st (.cons (.int .i64) (.cons (.sl (.st (.cons (.int .i64) (.cons (.int .i64) (.cons (.sl (.int .i64)) (.sl (.int .i64))))))) (.cons (.sl (.st (.cons (.int .i64) (.cons (.int .i64) (.cons (.int .i64) (.cons (.int .i64) (.cons (.int .i64) (.cons (.int .i64) (.cons (.int .i64) (.cons (.int .i64) (.int .i64))))))))))) (.cons (.sl (.st (.cons (.int .i64) (.cons (.int .i64) (.cons (.int .i64) (.cons (.int .i64) (.cons (.int .i64) (.cons (.int .i64) (.cons (.int .i64) (.cons (.int .i64) (.cons (.int .i64) (.int .i64)))))))))))) (.cons (.sl (.st (.cons (.int .i64) (.cons (.int .i64) .bool)))) (.st (.cons (.int .i64) (.cons (.int .i64) (.int .i64))))))))))
abbrev Z30:Ty:=.ptr (.st (.cons (.int .i64) (.cons (.int .i64) (.cons (.int .i64) (.cons (.int .i64) (.cons (.int .i64) (.cons (.int .i64) (.cons (.int .i64) (.cons (.int .i64) (.int .i64))))))))))
abbrev Z31:Ty:=.sl (.st (.cons (.int .i64) (.cons (.int .i64) (.cons (.int .i64) (.int .i64)))))
abbrev Z32:Ty:=.ptr (.sl (.int .i64))
def Za (d x:Nat):XO:=⟨some d,.mv,[.t x],none,[]⟩
def Zb (d:Nat) (p:XOp) (l:List XA):XO:=⟨some d,p,l,none,[]⟩
def Zc:=XA.t
def Zd (d:Nat) (t:Ty) (x:Nat):XO:=⟨some d,.load t,[.t x],none,[]⟩
def Ze (d:Nat) (p:XOp) (l:List XA) (j t:Nat) (b:Bool):XO:=⟨some d,p,l,some (j,t,b),[]⟩
def Zf (d:Nat) (p:XOp) (l:List XA) (a:List Nat):XO:=⟨some d,p,l,none,a⟩
def Zg (l:List XO) (c:XC):XC:=.seq (.reg false l) c
def Zh (d:Nat) (p:XOp) (l:List XA) (j t:Nat) (b:Bool) (a:List Nat):XO:=⟨some d,p,l,some (j,t,b),a⟩
def Zi (t:Ty) (x y:Nat):XO:=⟨none,.store t,[.t x,.t y],none,[]⟩
attribute [go_sem] Z1 Z2 Z3 Z4 Z5 Z6 Z7 Z8 Z9 Z10 Z11 Z12 Z13 Z14 Z15 Z16 Z17 Z18 Z19 Z20 Z21 Z22 Z23 Z24 Z25 Z26 Z27 Z28 Z29 Z30 Z31 Z32
end T
end Go.Proofs.YtpocfbfmjippnaaGreat
namespace Go.Proofs.YtpocfbfmjippnaaGreat
namespace T
def y219_1 (nE p:Nat) (kvB:List Nat) (xA xB:XC):XC:=(.seq (.reg false [
  ⟨some 13,.bin .lss,[.t 12,.t 11],none,[]⟩])
 (.seq (.cond (.t 13)
 .skip
 (.exit 2))
 (.seq (.block 3 (.seq (.reg false [
  ⟨some 14,.mv,[.t 12],none,[]⟩,
  ⟨some 15,.iaddr (.st (.cons (.int .i64) (.int .i64))),[.t 10,.t 12],none,[]⟩,
  ⟨some 16,.load (.st (.cons (.int .i64) (.int .i64))),[.t 15],none,[]⟩,
  ⟨some 6,.alloc 263 (.st (.cons (.int .i64) (.int .i64))),[],none,[]⟩,
  ⟨some 5,.mv,[.t 14],none,[]⟩,
  ⟨none,.store (.st (.cons (.int .i64) (.int .i64))),[.t 6,.t 16],none,[]⟩])
 (.seq (.reg true [
  ⟨some 17,.mv,[.t 0],none,[]⟩,
  ⟨some 18,.nilck,[.t 17],none,[0]⟩,
  ⟨some 19,.faddr 1 (.sl .bool),[.t 18],none,[1,0]⟩,
  ⟨some 20,.load (.sl .bool),[.t 19],none,[2,1,0]⟩,
  ⟨some 21,.mv,[.t 5],none,[]⟩,
  ⟨some 22,.iaddr .bool,[.t 20,.t 21],none,[3,2,1,0,4]⟩,
  ⟨some 23,.load .bool,[.t 22],none,[5,3,2,1,0,4]⟩,
  ⟨some 24,.not,[.t 23],none,[6,5,3,2,1,0,4]⟩,
  ⟨some 25,.mv,[.t 24],none,[7,6,5,3,2,1,0,4]⟩,
  ⟨some 26,.faddr 0 (.int .i64),[.t 6],some (8,25,true),[8,7,6,5,3,2,1,0,4]⟩,
  ⟨some 27,.load (.int .i64),[.t 26],some (8,25,true),[9,8,7,6,5,3,2,1,0,4]⟩,
  ⟨some 28,.bin .geq,[.t 27,.int .i64 0],some (8,25,true),[10,9,8,7,6,5,3,2,1,0,4]⟩,
  ⟨some 29,.pick,[.t 25,.t 28,.bool false],none,[8,7,6,5,3,2,1,0,4,11,10,9]⟩,
  ⟨some 30,.mv,[.t 29],none,[12,8,7,6,5,3,2,1,0,4,11,10,9]⟩,
  ⟨some 31,.mv,[.t 4],some (13,30,true),[13,12,8,7,6,5,3,2,1,0,4,11,10,9]⟩,
  ⟨some 32,.bin .lss,[.t 31,.int .i64 0],some (13,30,true),[14,13,12,8,7,6,5,3,2,1,0,4,11,10,9]⟩,
  ⟨some 33,.mv,[.t 32],some (13,30,true),[15,14,13,12,8,7,6,5,3,2,1,0,4,11,10,9]⟩,
  ⟨some 34,.mv,[.t 0],some (16,33,false),[16,15,14,13,12,8,7,6,5,3,2,1,0,4,11,10,9]⟩,
  ⟨some 35,.faddr 0 (.int .i64),[.t 6],some (16,33,false),[16,15,14,13,12,8,7,6,5,3,2,1,0,4,11,10,9]⟩,
  ⟨some 36,.load (.int .i64),[.t 35],some (16,33,false),[18,16,15,14,13,12,8,7,6,5,3,2,1,0,4,11,10,9]⟩,
  ⟨some 37,.mv,[.t 0],some (16,33,false),[16,15,14,13,12,8,7,6,5,3,2,1,0,4,11,10,9]⟩,
  ⟨some 38,.nilck,[.t 37],some (16,33,false),[20,16,15,14,13,12,8,7,6,5,3,2,1,0,4,11,10,9]⟩,
  ⟨some 39,.faddr 0 (.sl (.st (.cons (.int .i64) (.int .i64)))),[.t 38],some (16,33,false),[21,20,16,15,14,13,12,8,7,6,5,3,2,1,0,4,11,10,9]⟩,
  ⟨some 40,.load (.sl (.st (.cons (.int .i64) (.int .i64)))),[.t 39],some (16,33,false),[22,21,20,16,15,14,13,12,8,7,6,5,3,2,1,0,4,11,10,9]⟩,
  ⟨some 41,.mv,[.t 4],some (16,33,false),[16,15,14,13,12,8,7,6,5,3,2,1,0,4,11,10,9]⟩,
  ⟨some 42,.iaddr (.st (.cons (.int .i64) (.int .i64))),[.t 40,.t 41],some (16,33,false),[23,22,21,20,16,15,14,13,12,8,7,6,5,3,2,1,0,4,11,10,9,24]⟩,
  ⟨some 43,.faddr 0 (.int .i64),[.t 42],some (16,33,false),[25,23,22,21,20,16,15,14,13,12,8,7,6,5,3,2,1,0,4,11,10,9,24]⟩,
  ⟨some 44,.load (.int .i64),[.t 43],some (16,33,false),[26,25,23,22,21,20,16,15,14,13,12,8,7,6,5,3,2,1,0,4,11,10,9,24]⟩,
  ⟨some 45,.call 234,[.t 34,.t 36,.t 44],some (16,33,false),[17,16,15,14,13,12,8,7,6,5,3,2,1,0,4,11,10,9,19,18,27,26,25,23,22,21,20,24]⟩,
  ⟨some 46,.pick,[.t 33,.bool true,.t 45],some (13,30,true),[16,15,14,13,12,8,7,6,5,3,2,1,0,4,11,10,9,28,17,19,18,27,26,25,23,22,21,20,24]⟩,
  ⟨some 47,.pick,[.t 30,.t 46,.bool false],none,[13,12,8,7,6,5,3,2,1,0,4,11,10,9,29,16,15,14,28,17,19,18,27,26,25,23,22,21,20,24]⟩])
 (.cond (.t 47)
  (.reg false [
   ⟨some 48,.mv,[.t 5],none,[]⟩,
   ⟨some 4,.mv,[.t 48],none,[]⟩])
  .skip))))
 (.reg false [
  ⟨some 49,.bin .add,[.t 12,.int .i64 1],none,[]⟩,
  ⟨some 12,.mv,[.t 49],none,[]⟩]))))
def y219_1d:List Nat:=[4,5,6,12]
def y219_0 (nE p:Nat) (kvB:List Nat) (xA xB:XC):XC:=(.block 1 (.seq (.reg false [
  ⟨some 4,.mv,[.int .i64 (-1)],none,[]⟩])
 (.seq (.seq (.reg false [
  ⟨some 7,.mv,[.t 0],none,[]⟩,
  ⟨some 8,.nilck,[.t 7],none,[]⟩,
  ⟨some 9,.faddr 0 (.sl (.st (.cons (.int .i64) (.int .i64)))),[.t 8],none,[]⟩,
  ⟨some 10,.load (.sl (.st (.cons (.int .i64) (.int .i64)))),[.t 9],none,[]⟩,
  ⟨some 11,.len false,[.t 10],none,[]⟩,
  ⟨some 12,.mv,[.int .i64 0],none,[]⟩])
 (.clean (.block 2 (.loop (y219_1 nE p kvB xA xB)))))
 (.clean (.seq (.seq (.reg false [
  ⟨some 50,.mv,[.t 4],none,[]⟩,
  ⟨some 51,.bin .lss,[.t 50,.int .i64 0],none,[]⟩])
 (.cond (.t 51)
  .ret
  .skip))
 (.seq (.reg false [
  ⟨some 52,.mv,[.t 0],none,[]⟩,
  ⟨some 53,.nilck,[.t 52],none,[]⟩,
  ⟨some 54,.faddr 1 (.sl .bool),[.t 53],none,[]⟩,
  ⟨some 55,.load (.sl .bool),[.t 54],none,[]⟩,
  ⟨some 56,.mv,[.t 4],none,[]⟩,
  ⟨some 57,.iaddr .bool,[.t 55,.t 56],none,[]⟩,
  ⟨none,.store .bool,[.t 57,.bool true],none,[]⟩])
 (.clean (.seq (.yld [
  ⟨some 58,.mv,[.t 1],none,[]⟩,
  ⟨some 59,.mv,[.t 4],none,[]⟩] ⟨some 60,.callv,[.t 58,.t 59],none,[]⟩ [
  ⟨some 61,.not,[.t 60],none,[]⟩] 1 nE p kvB xA xB)
 (.cond (.t 61)
  .ret
  .skip)))))))))
def y219_0d:List Nat:=[4,5,6,10,11,12]
def y219 (nE p:Nat) (kvB:List Nat) (xA xB:XC):XC:=
 (.block 0 (.loop (y219_0 nE p kvB xA xB)))
def x218:XF:=⟨28,[.tmp 8],[0,1,2,3,8,9],(Zg [Zb 8 .mv [.nilp]] (.seq (.reg true [Zb 10 (.build Z2 [(0,Z1),(1,Z1)]) [.int .i64 (-1),.int .i64 (-1)],Zf 11 (.bslice 263 Z2 1 [0]) [Zc 10] [0],Za 12 0,Zf 13 (.call 233) [Zc 11,Zc 12] [1,0,2],Za 14 0,Zf 15 (.mkslice 4 .bool 1) [Zc 14,Zc 14] [4],Za 16 3,Zf 17 (.build Z4 [(0,Z3),(1,(.sl .bool)),(2,.bool)]) [Zc 13,Zc 15,Zc 16] [3,1,0,2,5,4,6],Zf 18 (.box 265) [Zc 17] [7,3,1,0,2,5,4,6],Zf 9 .mv [Zc 18] [8,7,3,1,0,2,5,4,6]]) (.clean (Zg [Za 19 9,Zb 20 .nilck [Zc 19],Zb 21 (.faddr 0 Z3) [Zc 20],Zb 22 (.load Z3) [Zc 21],Za 23 1,Za 24 2,Zb 25 (.iaddr Z2) [Zc 22,Zc 23],Zb 26 (.faddr 0 Z1) [Zc 25],⟨none,.store Z1,[Zc 26,Zc 24],none,[]⟩] (Zg [Za 27 9,Za 8 27] .ret)))))⟩
def x220:XF:=⟨55,[],[0,1,2,3,8],(.seq (Zg [Za 9 0,Zb 10 .nilck [Zc 9],Zb 11 (.faddr 1 (.sl .bool)) [Zc 10],Zd 12 (.sl .bool) 11,Za 13 1,Zb 14 (.iaddr .bool) [Zc 12,Zc 13],Zd 15 .bool 14,Za 16 15,Ze 17 .mv [Zc 2] 7 16 false,Ze 18 (.call 217) [Zc 17] 7 16 false,Ze 19 .not [Zc 18] 7 16 false,Zb 20 .pick [Zc 16,.bool true,Zc 19]] (.cond (Zc 20) .ret .skip)) (.clean (Zg [Za 21 0,Zb 22 .nilck [Zc 21],Zb 23 (.faddr 0 Z3) [Zc 22],Zd 24 Z3 23,Za 25 1,Zb 26 (.iaddr Z2) [Zc 24,Zc 25],Za 8 26] (.clean (Zg [Za 27 0,Za 28 2,Za 29 8,Zb 30 .nilck [Zc 29],Zb 31 (.faddr 0 Z1) [Zc 30],Zd 32 Z1 31,Zb 33 (.call 234) [Zc 27,Zc 28,Zc 32],Za 34 33,Ze 35 .mv [Zc 2] 7 34 false,Ze 36 .mv [Zc 8] 7 34 false,Ze 37 .nilck [Zc 36] 7 34 false,Ze 38 (.faddr 0 Z1) [Zc 37] 7 34 false,Ze 39 (.load Z1) [Zc 38] 7 34 false,Ze 40 (.bin .eql) [Zc 35,Zc 39] 7 34 false,Ze 41 .mv [Zc 40] 7 34 false,Ze 42 .mv [Zc 3] 14 41 true,Ze 43 .mv [Zc 8] 14 41 true,Ze 44 .nilck [Zc 43] 14 41 true,Ze 45 (.faddr 1 Z1) [Zc 44] 14 41 true,Ze 46 (.load Z1) [Zc 45] 14 41 true,Ze 47 (.bin .lss) [Zc 42,Zc 46] 14 41 true,Ze 48 .pick [Zc 41,Zc 47,.bool false] 7 34 false,Zb 49 .pick [Zc 34,.bool true,Zc 48]] (.cond (Zc 49) (.reg false [Za 50 8,Za 51 2,Za 52 3,Zb 53 (.build Z2 [(0,Z1),(1,Z1)]) [Zc 51,Zc 52],Zb 54 .nilck [Zc 50],⟨none,.store Z2,[Zc 54,Zc 53],none,[]⟩]) .skip))))))⟩
def x222_0:XC:=(.seq (Zg [Za 7 2,Za 8 3,Zf 9 (.bin .lss) [Zc 7,Zc 8] []] (.cond (Zc 9) .skip (.exit 0))) (.seq (.block 1 (.reg true [Za 14 0,Za 15 2,Za 16 0,Za 17 3,Za 18 0,Za 19 3,Zf 20 (.iaddr Z1) [Zc 18,Zc 19] [4,5],Zf 21 (.load Z1) [Zc 20] [6,4,5],Za 22 0,Za 23 2,Zf 24 (.iaddr Z1) [Zc 22,Zc 23] [8,9],Zf 25 (.load Z1) [Zc 24] [10,8,9],Zf 26 (.iaddr Z1) [Zc 14,Zc 15] [0,1,4,5,6,7,11,10,8,9],⟨none,.store Z1,[Zc 26,Zc 21],none,[12,0,1,4,5,6,7,11,10,8,9]⟩,Zf 27 (.iaddr Z1) [Zc 16,Zc 17] [2,3,0,1,4,5,6,7,8,9,10,11,12,13],⟨none,.store Z1,[Zc 27,Zc 25],none,[14,2,3,0,1,4,5,6,7,8,9,10,11,12,13]⟩])) (.clean (.reg false [Za 10 2,Zf 11 (.bin .add) [Zc 10,.int .i64 1] [],Za 12 3,Zf 13 (.bin .sub) [Zc 12,.int .i64 1] [],Za 2 11,Za 3 13]))))
def x222_0d:List Nat:=[2,3]
def x222:XF:=⟨28,[],[0,2,3],(Zg [Zb 4 .mv [.t 0],Zb 5 (.len false) [.t 4],Zb 6 (.bin .sub) [.t 5,.int .i64 1],Zb 2 .mv [.int .i64 0],Zb 3 .mv [.t 6]] (.block 0 (.loop x222_0)))⟩
def x193:XF:=⟨7,[.cell 3 Z5],[0,1,3],(Zg [Zb 3 (.alloc 192 Z5) []] (Zg [Za 4 0,Zb 5 (.load Z7) [.t 1],Zb 6 (.call 194) [.t 4,.t 5],⟨none,.store Z5,[.t 3,.t 6],none,[]⟩] .ret))⟩
def x144:XF:=⟨34,[.tmp 6],[0,1,2,3,4,6,7,8],(Zg [Zb 6 .mv [.bool false]] (.seq (.reg true [Za 9 0,Zb 10 (.faddr 0 Z1) [Zc 1],Zf 11 (.load Z1) [Zc 10] [1],Zd 12 Z7 2,Zf 13 (.call 145) [Zc 9,Zc 11,Zc 12] [0,2,1,3],Za 14 0,Zb 15 (.faddr 1 Z1) [Zc 1],Zf 16 (.load Z1) [Zc 15] [6],Zd 17 Z7 2,Zf 18 (.call 145) [Zc 14,Zc 16,Zc 17] [5,7,6,8,4,0,2,1,3],Zf 7 .mv [Zc 13] [4,0,2,1,3,9,5,7,6,8],Zf 8 .mv [Zc 18] [9,5,7,6,8,4,0,2,1,3,10]]) (.clean (Zg [Zd 19 .bool 3,Za 20 19,Ze 21 .mv [Zc 7] 1 20 false,Zb 22 .pick [Zc 20,.bool true,Zc 21],Za 23 22,Ze 24 .mv [Zc 8] 4 23 false,Zb 25 .pick [Zc 23,.bool true,Zc 24],Zd 26 .bool 4,Za 27 26,Ze 28 .mv [Zc 7] 8 27 false,Ze 29 .mv [Zc 28] 8 27 false,Ze 30 .mv [Zc 8] 10 29 true,Ze 31 .pick [Zc 29,Zc 30,.bool false] 8 27 false,Zb 32 .pick [Zc 27,.bool true,Zc 31],⟨none,.store .bool,[Zc 3,Zc 25],none,[]⟩,⟨none,.store .bool,[Zc 4,Zc 32],none,[]⟩] (Zg [Zd 33 .bool 4,Za 6 33] .ret)))))⟩
def x196_0:XC:=(Zg [Zb 12 (.bin .lss) [Zc 11,Zc 10]] (.seq (.cond (Zc 12) .skip (.exit 0)) (.seq (.block 1 (Zg [Zb 13 (.iaddr Z8) [Zc 9,Zc 11],Zd 14 Z8 13,Zb 5 (.alloc 68 Z8) [],⟨none,.store Z8,[Zc 5,Zc 14],none,[]⟩] (Zg [Zb 15 (.faddr 1 .bool) [Zc 5],Zd 16 .bool 15,Zb 17 .not [Zc 16]] (.cond (Zc 17) (.reg false [Zb 18 .mv [Zc 3],Zb 19 (.faddr 0 Z1) [Zc 5],Zd 20 Z1 19,⟨none,.mapset .i64 .bool,[Zc 18,Zc 20,.bool true],none,[]⟩]) .skip)))) (.reg false [Zb 21 (.bin .add) [Zc 11,.int .i64 1],Zb 11 .mv [Zc 21]]))))
def x196_0d:List Nat:=[5,11]
def x196_1:XC:=(Zg [Zb 25 (.bin .lss) [.t 24,.t 23]] (.seq (.cond (.t 25) .skip (.exit 2)) (.seq (.block 3 (Zg [Zb 26 (.iaddr Z8) [.t 22,.t 24],Zd 27 Z8 26,Zb 7 (.alloc 68 Z8) [],⟨none,.store Z8,[.t 7,.t 27],none,[]⟩] (Zg [Zb 28 (.faddr 1 .bool) [.t 7],Zd 29 .bool 28] (.cond (.t 29) (.reg false [Zb 30 .mv [.t 3],Zb 31 (.faddr 0 Z1) [.t 7],Zd 32 Z1 31,⟨none,.mapdel .i64 .bool,[.t 30,.t 32],none,[]⟩]) .skip)))) (.reg false [Zb 33 (.bin .add) [.t 24,.int .i64 1],Zb 24 .mv [.t 33]]))))
def x196_1d:List Nat:=[7,24]
def x196:XF:=⟨35,[.tmp 2],[0,2,3,5,7,9,10,11,22,23,24],(Zg [Zb 2 .mv [.nilm]] (Zg [Zb 8 (.mkmap .i64 .bool) [],Za 3 8] (.seq (Zg [Za 9 0,Zb 10 (.len false) [.t 9],Zb 11 .mv [.int .i64 0]] (.block 0 (.loop x196_0))) (.clean (.seq (Zg [Za 22 0,Zb 23 (.len false) [.t 22],Zb 24 .mv [.int .i64 0]] (.block 2 (.loop x196_1))) (Zg [Za 34 3,Za 2 34] .ret))))))⟩
def x197:XF:=⟨12,[],[0,1,3],(Zg [Zb 3 (.box 68) [.t 1]] (Zg [Zb 4 (.faddr 1 .bool) [.t 3],Zd 5 .bool 4] (.cond (.t 5) (.reg false [Zb 6 .mv [.t 0],Zb 7 (.faddr 0 Z1) [.t 3],Zd 8 Z1 7,⟨none,.mapset .i64 .bool,[.t 6,.t 8,.bool true],none,[]⟩]) (.reg false [Zb 9 .mv [.t 0],Zb 10 (.faddr 0 Z1) [.t 3],Zd 11 Z1 10,⟨none,.mapdel .i64 .bool,[.t 9,.t 11],none,[]⟩]))))⟩
def x192_0:XC:=(Zg [Zb 18 (.bin .lss) [Zc 17,Zc 16]] (.seq (.cond (Zc 18) .skip (.exit 0)) (.seq (.block 1 (Zg [Zb 19 (.iaddr Z8) [Zc 15,Zc 17],Zb 20 (.load Z8) [Zc 19],Zb 8 (.alloc 68 Z8) [],⟨none,.store Z8,[Zc 8,Zc 20],none,[]⟩] (.seq (.icall false [Za 21 5,Zb 22 (.load Z8) [Zc 8]] (Zb 23 .callv [.fn 197,Zc 21,Zc 22]) [] 197 x197.n x197.res x197.kv x197.code) (.icall false [Za 24 6,Za 25 1,Za 26 5] (Zb 27 .callv [Zc 25,Zc 26]) [Zb 28 (.bslice 192 Z5 1 [0]) [Zc 27],Zb 29 (.append 192 Z5 24) [Zc 24,Zc 28],Za 6 29] 193 x193.n x193.res x193.kv x193.code)))) (.reg false [Zb 30 (.bin .add) [Zc 17,.int .i64 1],Za 17 30]))))
def x192_0d:List Nat:=[6,8,17]
def x192:XF:=⟨32,[.tmp 4],[0,1,4,5,6,8,15,16,17],(Zg [Zb 4 (.nilrow 192 Z5) []] (.seq (.icall false [Za 9 0] (Zb 10 .callv [.fn 196,.t 9]) [Za 5 10] 196 x196.n x196.res x196.kv x196.code) (.seq (.icall false [Za 11 1,Za 12 5] (Zb 13 .callv [.t 11,.t 12]) [Zb 14 (.bslice 192 Z5 1 [0]) [.t 13],Za 6 14] 193 x193.n x193.res x193.kv x193.code) (.seq (Zg [Za 15 0,Zb 16 (.len false) [.t 15],Zb 17 .mv [.int .i64 0]] (.block 0 (.loop x192_0))) (Zg [Za 31 6,Za 4 31] .ret)))))⟩
def x143_0:XC:=(Zg [Zb 18 (.bin .lss) [Zc 17,Zc 16]] (.seq (.cond (Zc 18) .skip (.exit 0)) (.seq (.block 1 (Zg [Zb 19 (.iaddr Z8) [Zc 15,Zc 17],Zb 20 (.load Z8) [Zc 19],Zb 8 (.alloc 68 Z8) [],⟨none,.store Z8,[Zc 8,Zc 20],none,[]⟩] (.seq (.icall false [Za 21 5,Zb 22 (.load Z8) [Zc 8]] (Zb 23 .callv [.fn 197,Zc 21,Zc 22]) [] 197 x197.n x197.res x197.kv x197.code) (.icall false [Za 24 6,Za 25 1,Za 26 5] (Zb 27 .callv [Zc 25,Zc 26]) [Zb 28 (.bslice 4 .bool 1 [0]) [Zc 27],Zb 29 (.append 4 .bool 1) [Zc 24,Zc 28],Za 6 29] 144 x144.n x144.res x144.kv x144.code)))) (.reg false [Zb 30 (.bin .add) [Zc 17,.int .i64 1],Za 17 30]))))
def x143_0d:List Nat:=[6,8,17]
def x143:XF:=⟨32,[.tmp 4],[0,1,4,5,6,8,15,16,17],(Zg [Zb 4 (.nilrow 4 .bool) []] (.seq (.icall false [Za 9 0] (Zb 10 .callv [.fn 196,.t 9]) [Za 5 10] 196 x196.n x196.res x196.kv x196.code) (.seq (.icall false [Za 11 1,Za 12 5] (Zb 13 .callv [.t 11,.t 12]) [Zb 14 (.bslice 4 .bool 1 [0]) [.t 13],Za 6 14] 144 x144.n x144.res x144.kv x144.code) (.seq (Zg [Za 15 0,Zb 16 (.len false) [.t 15],Zb 17 .mv [.int .i64 0]] (.block 0 (.loop x143_0))) (Zg [Za 31 6,Za 4 31] .ret)))))⟩
def x207_1:XC:=(.seq (.seq (.reg true [Za 18 9,Za 19 1,Zf 20 (.bin .gtr) [Zc 18,Zc 19] [0,1],Zf 21 .mv [Zc 20] [2,0,1],Zh 22 .mv [Zc 3] 3 21 true [3,2,0,1],Zh 23 .mv [Zc 0] 3 21 true [3,2,0,1],Zh 24 .mv [Zc 9] 3 21 true [3,2,0,1],Zh 25 (.iaddr Z5) [Zc 23,Zc 24] 3 21 true [5,3,2,0,1,6],Zh 26 (.load Z5) [Zc 25] 3 21 true [7,5,3,2,0,1,6],Zh 27 .mv [Zc 0] 3 21 true [3,2,0,1],Zh 28 .mv [Zc 9] 3 21 true [3,2,0,1],Zh 29 (.bin .sub) [Zc 28,.int .i64 1] 3 21 true [10,3,2,0,1],Zh 30 (.iaddr Z5) [Zc 27,Zc 29] 3 21 true [9,3,2,0,1,11,10],Zh 31 (.load Z5) [Zc 30] 3 21 true [12,9,3,2,0,1,11,10],⟨some 32,.callv,[Zc 22,Zc 26,Zc 31],some (3,21,true),[4,3,2,0,1,8,7,5,6,13,12,9,11,10]⟩,Zh 33 (.bin .lss) [Zc 32,.int .i64 0] 3 21 true [14,4,3,2,0,1,8,7,5,6,13,12,9,11,10],Zf 34 .pick [Zc 21,Zc 33,.bool false] [3,2,0,1,15,14,4,8,7,5,6,13,12,9,11,10]]) (.cond (Zc 34) .skip (.exit 2))) (.clean (.seq (.block 3 (.reg true [Za 37 0,Za 38 9,Za 39 0,Za 40 9,Zf 41 (.bin .sub) [Zc 40,.int .i64 1] [3],Za 42 0,Za 43 9,Zf 44 (.bin .sub) [Zc 43,.int .i64 1] [6],Zf 45 (.iaddr Z5) [Zc 42,Zc 44] [5,7,6],Zf 46 (.load Z5) [Zc 45] [8,5,7,6],Za 47 0,Za 48 9,Zf 49 (.iaddr Z5) [Zc 47,Zc 48] [10,11],Zf 50 (.load Z5) [Zc 49] [12,10,11],Zf 51 (.iaddr Z5) [Zc 37,Zc 38] [0,1,5,6,7,8,9,13,12,10,11],⟨none,.store Z5,[Zc 51,Zc 46],none,[14,0,1,5,6,7,8,9,13,12,10,11]⟩,Zf 52 (.iaddr Z5) [Zc 39,Zc 41] [2,4,3,0,1,5,6,7,8,9,10,11,12,13,14,15],⟨none,.store Z5,[Zc 52,Zc 50],none,[16,2,4,3,0,1,5,6,7,8,9,10,11,12,13,14,15]⟩])) (.clean (.reg false [Za 35 9,Zf 36 (.bin .sub) [Zc 35,.int .i64 1] [],Za 9 36])))))
def x207_1d:List Nat:=[9]
def x207_0:XC:=(.seq (Zg [Za 12 8,Za 13 2,Zb 14 (.bin .lss) [.t 12,.t 13]] (.cond (.t 14) .skip (.exit 0))) (.seq (.block 1 (Zg [Za 17 8,Za 9 17] (.block 2 (.loop x207_1)))) (.clean (.reg false [Za 15 8,Zb 16 (.bin .add) [.t 15,.int .i64 1],Za 8 16]))))
def x207_0d:List Nat:=[8,9]
def x207:XF:=⟨53,[],[0,1,2,3,8,9],(Zg [Za 10 1,Zb 11 (.bin .add) [.t 10,.int .i64 1],Za 8 11] (.block 0 (.loop x207_0)))⟩
def x182_0:XC:=(.block 1 (Zg [Za 21 2,Za 22 1,Zb 23 (.bin .sub) [Zc 21,Zc 22],Za 12 23] (.seq (Zg [Za 24 12,Zb 25 (.bin .leq) [Zc 24,.int .i64 12]] (.cond (Zc 25) (.seq (.icall false [Za 26 0,Za 27 1,Za 28 2,Za 29 4] (Zb 30 .callv [.fn 207,Zc 26,Zc 27,Zc 28,Zc 29]) [] 207 x207.n x207.res x207.kv x207.code) .ret) .skip)) (.clean (.seq (Zg [Za 31 3,Zb 32 (.bin .eql) [Zc 31,.int .i64 0]] (.cond (Zc 32) (Zg [Za 33 0,Za 34 1,Za 35 2,Za 36 4,Zb 37 (.call 208) [Zc 33,Zc 34,Zc 35,Zc 36]] .ret) .skip)) (.clean (.seq (Zg [Za 38 10,Zb 39 .not [Zc 38]] (.cond (Zc 39) (Zg [Za 40 0,Za 41 1,Za 42 2,Za 43 4,Zb 44 (.call 209) [Zc 40,Zc 41,Zc 42,Zc 43]] (.reg false [Za 45 3,Zb 46 (.bin .sub) [Zc 45,.int .i64 1],Za 3 46])) .skip)) (.clean (Zg [Za 48 0,Za 49 1,Za 50 2,Za 51 4,Zb 52 (.call 210) [Zc 48,Zc 49,Zc 50,Zc 51],Za 47 52,Zb 53 (.extract 0) [Zc 47],Zb 54 (.extract 1) [Zc 47],Za 13 53,Za 14 54] (.clean (.seq (Zg [Za 55 14,Zb 56 (.bin .eql) [Zc 55,.int .i64 2]] (.cond (Zc 56) (Zg [Za 57 0,Za 58 1,Za 59 2,Za 60 4,Zb 61 (.call 211) [Zc 57,Zc 58,Zc 59,Zc 60]] (Zg [Za 62 2,Zb 63 (.bin .sub) [Zc 62,.int .i64 1],Za 64 13,Za 65 1,Zb 66 (.bin .sub) [Zc 64,Zc 65],Zb 67 (.bin .sub) [Zc 63,Zc 66],Za 13 67] (.reg false [Zb 14 .mv [.int .i64 1]]))) .skip)) (.clean (.seq (Zg [Za 68 10,Za 69 68,Zh 70 .mv [Zc 11] 1 69 true [],Zb 71 .pick [Zc 69,Zc 70,.bool false],Za 72 71,Zh 73 .mv [Zc 14] 4 72 true [],Zh 74 (.bin .eql) [Zc 73,.int .i64 1] 4 72 true [],Zb 75 .pick [Zc 72,Zc 74,.bool false]] (.cond (Zc 75) (Zg [Za 76 0,Za 77 1,Za 78 2,Za 79 4,Zb 80 (.call 212) [Zc 76,Zc 77,Zc 78,Zc 79]] (.cond (Zc 80) .ret .skip)) .skip)) (.clean (.seq (.seq (.reg true [Za 81 1,Zf 82 (.bin .gtr) [Zc 81,.int .i64 0] [0],Zf 83 .mv [Zc 82] [1,0],Zh 84 .mv [Zc 4] 2 83 true [2,1,0],Zh 85 .mv [Zc 0] 2 83 true [2,1,0],Zh 86 .mv [Zc 1] 2 83 true [2,1,0],Zh 87 (.bin .sub) [Zc 86,.int .i64 1] 2 83 true [5,2,1,0],Zh 88 (.iaddr Z5) [Zc 85,Zc 87] 2 83 true [4,2,1,0,6,5],Zh 89 (.load Z5) [Zc 88] 2 83 true [7,4,2,1,0,6,5],Zh 90 .mv [Zc 0] 2 83 true [2,1,0],Zh 91 .mv [Zc 13] 2 83 true [2,1,0],Zh 92 (.iaddr Z5) [Zc 90,Zc 91] 2 83 true [9,2,1,0,10],Zh 93 (.load Z5) [Zc 92] 2 83 true [11,9,2,1,0,10],⟨some 94,.callv,[Zc 84,Zc 89,Zc 93],some (2,83,true),[3,2,1,0,8,7,4,6,5,12,11,9,10]⟩,Zh 95 (.bin .lss) [Zc 94,.int .i64 0] 2 83 true [13,3,2,1,0,8,7,4,6,5,12,11,9,10],Zh 96 .not [Zc 95] 2 83 true [14,13,3,2,1,0,8,7,4,6,5,12,11,9,10],Zf 97 .pick [Zc 83,Zc 96,.bool false] [2,1,0,15,14,13,3,8,7,4,6,5,12,11,9,10]]) (.cond (Zc 97) (Zg [Za 98 0,Za 99 1,Za 100 2,Za 101 13,Za 102 4,Zb 103 (.call 213) [Zc 98,Zc 99,Zc 100,Zc 101,Zc 102],Za 15 103] (Zg [Za 104 15,Za 1 104] (.exit 1))) .skip)) (.clean (Zg [Za 106 0,Za 107 1,Za 108 2,Za 109 13,Za 110 4,Zb 111 (.call 214) [Zc 106,Zc 107,Zc 108,Zc 109,Zc 110],Za 105 111,Zb 112 (.extract 0) [Zc 105],Zb 113 (.extract 1) [Zc 105],Za 16 112,Za 17 113] (.clean (Zg [Za 114 17,Za 11 114] (Zg [Za 115 16,Za 116 1,Zb 117 (.bin .sub) [Zc 115,Zc 116],Za 118 2,Za 119 16,Zb 120 (.bin .sub) [Zc 118,Zc 119],Za 18 117,Za 19 120] (.clean (Zg [Za 121 12,Zb 122 (.bin .quo) [Zc 121,.int .i64 8],Za 20 122] (Zg [Za 123 18,Za 124 19,Zb 125 (.bin .lss) [Zc 123,Zc 124]] (.cond (Zc 125) (Zg [Za 126 18,Za 127 20,Zb 128 (.bin .geq) [Zc 126,Zc 127],Za 10 128] (Zg [Za 129 0,Za 130 1,Za 131 16,Za 132 3,Za 133 4,Zb 134 (.call 182) [Zc 129,Zc 130,Zc 131,Zc 132,Zc 133]] (.clean (.reg false [Za 135 16,Zb 136 (.bin .add) [Zc 135,.int .i64 1],Za 1 136])))) (Zg [Za 137 19,Za 138 20,Zb 139 (.bin .geq) [Zc 137,Zc 138],Za 10 139] (Zg [Za 140 0,Za 141 16,Zb 142 (.bin .add) [Zc 141,.int .i64 1],Za 143 2,Za 144 3,Za 145 4,Zb 146 (.call 182) [Zc 140,Zc 142,Zc 143,Zc 144,Zc 145]] (.reg false [Za 147 16,Za 2 147])))))))))))))))))))))))))))
def x182_0d:List Nat:=[1,2,3,10,11,12,13,14,15,16,17,18,19,20]
def x182:XF:=⟨148,[],[0,1,2,3,4,10,11,12,13,14,15,16,17,18,19,20],(Zg [Zb 10 .mv [.bool true]] (Zg [Zb 11 .mv [.bool true]] (.block 0 (.loop x182_0))))⟩
def x130:XF:=⟨14,[],[0,1,4],(Zg [Za 5 0,Zb 6 (.len false) [.t 5],Za 4 6] (.icall false [Za 7 0,Za 8 4,Za 9 4,Zb 10 (.conv .u64) [.t 9],Zb 11 (.call 183) [.t 10],Za 12 1] (Zb 13 .callv [.fn 182,.t 7,.int .i64 0,.t 8,.t 11,.t 12]) [] 182 x182.n x182.res x182.kv x182.code))⟩
def x42_0:XC:=(Zg [Zf 14 (.bin .lss) [.t 13,.t 12] []] (.seq (.cond (.t 14) .skip (.exit 0)) (.seq (.block 1 (Zg [Za 15 13,Za 5 15] (.seq (.reg true [Za 16 0,Za 17 5,Zf 18 (.iaddr Z8) [.t 16,.t 17] [0,1],Zf 19 (.load Z8) [.t 18] [2,0,1],Za 20 1,Za 21 5,Zf 22 (.iaddr Z8) [.t 20,.t 21] [4,5],Zf 23 (.load Z8) [.t 22] [6,4,5],Zf 24 (.steq true Z8) [.t 19,.t 23] [3,2,0,1,7,6,4,5]]) (.cond (.t 24) (Zg [Zf 4 .mv [.bool false] []] .ret) .skip)))) (.reg false [Zf 25 (.bin .add) [.t 13,.int .i64 1] [],Za 13 25]))))
def x42_0d:List Nat:=[4,5,13]
def x42:XF:=⟨26,[.tmp 4],[0,1,4,5,12,13],(Zg [Zb 4 .mv [.bool false]] (.seq (Zg [Za 6 0,Zb 7 (.len false) [.t 6],Za 8 1,Zb 9 (.len false) [.t 8],Zb 10 (.bin .neq) [.t 7,.t 9]] (.cond (.t 10) (Zg [Zb 4 .mv [.bool false]] .ret) .skip)) (.clean (.seq (Zg [Za 11 0,Zb 12 (.len false) [.t 11],Zb 13 .mv [.int .i64 0]] (.block 0 (.loop x42_0))) (Zg [Zb 4 .mv [.bool true]] .ret)))))⟩
def x43_0:XC:=(Zg [Zf 14 (.bin .lss) [.t 13,.t 12] []] (.seq (.cond (.t 14) .skip (.exit 0)) (.seq (.block 1 (Zg [Za 15 13,Za 5 15] (.seq (.reg true [Za 16 0,Za 17 5,Zf 18 (.iaddr Z2) [.t 16,.t 17] [0,1],Zf 19 (.load Z2) [.t 18] [2,0,1],Za 20 1,Za 21 5,Zf 22 (.iaddr Z2) [.t 20,.t 21] [4,5],Zf 23 (.load Z2) [.t 22] [6,4,5],Zf 24 (.steq true Z2) [.t 19,.t 23] [3,2,0,1,7,6,4,5]]) (.cond (.t 24) (Zg [Zf 4 .mv [.bool false] []] .ret) .skip)))) (.reg false [Zf 25 (.bin .add) [.t 13,.int .i64 1] [],Za 13 25]))))
def x43_0d:List Nat:=[4,5,13]
def x43:XF:=⟨26,[.tmp 4],[0,1,4,5,12,13],(Zg [Zb 4 .mv [.bool false]] (.seq (Zg [Za 6 0,Zb 7 (.len false) [.t 6],Za 8 1,Zb 9 (.len false) [.t 8],Zb 10 (.bin .neq) [.t 7,.t 9]] (.cond (.t 10) (Zg [Zb 4 .mv [.bool false]] .ret) .skip)) (.clean (.seq (Zg [Za 11 0,Zb 12 (.len false) [.t 11],Zb 13 .mv [.int .i64 0]] (.block 0 (.loop x43_0))) (Zg [Zb 4 .mv [.bool true]] .ret)))))⟩
def x44_0:XC:=(Zg [Zf 14 (.bin .lss) [.t 13,.t 12] []] (.seq (.cond (.t 14) .skip (.exit 0)) (.seq (.block 1 (Zg [Za 15 13,Za 5 15] (.seq (.reg true [Za 16 0,Za 17 5,Zf 18 (.iaddr Z1) [.t 16,.t 17] [0,1],Zf 19 (.load Z1) [.t 18] [2,0,1],Za 20 1,Za 21 5,Zf 22 (.iaddr Z1) [.t 20,.t 21] [4,5],Zf 23 (.load Z1) [.t 22] [6,4,5],Zf 24 (.bin .neq) [.t 19,.t 23] [3,2,0,1,7,6,4,5]]) (.cond (.t 24) (Zg [Zf 4 .mv [.bool false] []] .ret) .skip)))) (.reg false [Zf 25 (.bin .add) [.t 13,.int .i64 1] [],Za 13 25]))))
def x44_0d:List Nat:=[4,5,13]
def x44:XF:=⟨26,[.tmp 4],[0,1,4,5,12,13],(Zg [Zb 4 .mv [.bool false]] (.seq (Zg [Za 6 0,Zb 7 (.len false) [.t 6],Za 8 1,Zb 9 (.len false) [.t 8],Zb 10 (.bin .neq) [.t 7,.t 9]] (.cond (.t 10) (Zg [Zb 4 .mv [.bool false]] .ret) .skip)) (.clean (.seq (Zg [Za 11 0,Zb 12 (.len false) [.t 11],Zb 13 .mv [.int .i64 0]] (.block 0 (.loop x44_0))) (Zg [Zb 4 .mv [.bool true]] .ret)))))⟩
def x53:XF:=⟨50,[.tmp 2],[0,1,2,3,4,5,6],(Zg [Zb 1 (.box 102) [Zc 0],Zb 2 .mv [.bool false]] (Zg [Zb 7 (.faddr 0 Z3) [Zc 1],Zd 8 Z3 7,Zb 9 (.len false) [Zc 8],Zb 3 (.alloc 3 Z1) [],⟨none,.store Z1,[Zc 3,Zc 9],none,[]⟩] (.seq (Zg [Zd 10 Z1 3,Zb 11 (.bin .lss) [Zc 10,.int .i64 1],Za 12 11,Ze 13 (.load Z1) [Zc 3] 2 12 false,Ze 14 (.bin .gtr) [Zc 13,.int .i64 82] 2 12 false,Zb 15 .pick [Zc 12,.bool true,Zc 14],Za 16 15,Ze 17 (.faddr 1 Z3) [Zc 1] 6 16 false,Ze 18 (.load Z3) [Zc 17] 6 16 false,Ze 19 (.len false) [Zc 18] 6 16 false,Ze 20 (.load Z1) [Zc 3] 6 16 false,Ze 21 (.bin .sub) [Zc 20,.int .i64 1] 6 16 false,Ze 22 (.bin .neq) [Zc 19,Zc 21] 6 16 false,Zb 23 .pick [Zc 16,.bool true,Zc 22],Za 24 23,Ze 25 (.faddr 2 Z13) [Zc 1] 14 24 false,Ze 26 (.load Z13) [Zc 25] 14 24 false,Ze 27 (.len false) [Zc 26] 14 24 false,Ze 28 (.bin .gtr) [Zc 27,.int .i64 200] 14 24 false,Zb 29 .pick [Zc 24,.bool true,Zc 28]] (.cond (Zc 29) (Zg [Zb 2 .mv [.bool false]] .ret) .skip)) (.clean (Zg [Zb 4 .mv [.fn 87]] (Zg [Zb 5 .mv [.fn 88]] (Zg [Zb 30 (.mkfn 89) [Zc 3],Za 6 30] (Zg [Zb 31 (.faddr 0 Z3) [Zc 1],Zd 32 Z3 31,Za 33 4,Zb 34 (.call 90) [Zc 32,Zc 33],Zb 35 .not [Zc 34],Za 36 35,Ze 37 (.faddr 1 Z3) [Zc 1] 5 36 true,Ze 38 (.load Z3) [Zc 37] 5 36 true,Ze 39 .mv [Zc 5] 5 36 true,Ze 40 (.call 91) [Zc 38,Zc 39] 5 36 true,Ze 41 .not [Zc 40] 5 36 true,Zb 42 .pick [Zc 36,Zc 41,.bool false],Za 43 42,Ze 44 (.faddr 2 Z13) [Zc 1] 12 43 true,Ze 45 (.load Z13) [Zc 44] 12 43 true,Ze 46 .mv [Zc 6] 12 43 true,Ze 47 (.call 92) [Zc 45,Zc 46] 12 43 true,Ze 48 .not [Zc 47] 12 43 true,Zb 49 .pick [Zc 43,Zc 48,.bool false],Za 2 49] .ret))))))))⟩
def x57:XF:=⟨8,[.tmp 2],[0,2],(Zg [Zb 2 (.nilrow 68 Z8) []] (.seq (Zg [Za 3 0,Zb 4 (.isnil false Z8) [.t 3]] (.cond (.t 4) (Zg [Zb 2 (.nilrow 68 Z8) []] .ret) .skip)) (Zg [Zb 5 (.bslice 68 Z8 0 []) [],Za 6 0,Zb 7 (.append 68 Z8 16) [.t 5,.t 6],Za 2 7] .ret)))⟩
def x60_0:XC:=(.seq (Zg [Za 11 5,Za 12 0,Zf 13 (.len false) [.t 12] [],Zf 14 (.bin .lss) [.t 11,.t 13] []] (.cond (.t 14) .skip (.exit 0))) (.seq (.block 1 (.seq (.reg true [Za 17 0,Za 18 5,Zf 19 (.iaddr Z1) [.t 17,.t 18] [0,1],Zf 20 (.load Z1) [.t 19] [2,0,1],Za 21 1,Za 22 5,Zf 23 (.iaddr Z1) [.t 21,.t 22] [4,5],Zf 24 (.load Z1) [.t 23] [6,4,5],Zf 25 (.bin .neq) [.t 20,.t 24] [3,2,0,1,7,6,4,5]]) (.cond (.t 25) (Zg [Zf 4 .mv [.bool false] []] .ret) .skip))) (.clean (.reg false [Za 15 5,Zf 16 (.bin .add) [.t 15,.int .i64 1] [],Za 5 16]))))
def x60_0d:List Nat:=[4,5]
def x60:XF:=⟨26,[.tmp 4],[0,1,4,5],(Zg [Zb 4 .mv [.bool false]] (.seq (Zg [Zb 6 .mv [.t 0],Zb 7 (.len false) [.t 6],Zb 8 .mv [.t 1],Zb 9 (.len false) [.t 8],Zb 10 (.bin .neq) [.t 7,.t 9]] (.cond (.t 10) (Zg [Zb 4 .mv [.bool false]] .ret) .skip)) (.clean (.seq (Zg [Zb 5 .mv [.int .i64 0]] (.block 0 (.loop x60_0))) (Zg [Zb 4 .mv [.bool true]] .ret)))))⟩
def x62:XF:=⟨9,[.tmp 4],[0,1,4],(Zg [Zb 4 .mv [.bool false]] (Zg [Za 5 0,Za 6 1,Zb 7 (.call 110) [.t 5,.t 6],Zb 8 (.bin .geq) [.t 7,.int .i64 0],Za 4 8] .ret))⟩
def x64:XF:=⟨9,[.tmp 4],[0,1,4],(Zg [Zb 4 .mv [.bool false]] (Zg [Za 5 0,Za 6 1,Zb 7 (.call 111) [.t 5,.t 6],Zb 8 (.bin .geq) [.t 7,.int .i64 0],Za 4 8] .ret))⟩
def x66:XF:=⟨9,[.tmp 4],[0,1,4],(Zg [Zb 4 .mv [.bool false]] (Zg [Za 5 0,Za 6 1,Zb 7 (.call 112) [.t 5,.t 6],Zb 8 (.bin .geq) [.t 7,.int .i64 0],Za 4 8] .ret))⟩
def x67:XF:=⟨8,[.tmp 2],[0,2],(Zg [Zb 2 (.nilrow 3 Z1) []] (.seq (Zg [Za 3 0,Zb 4 (.isnil false Z1) [.t 3]] (.cond (.t 4) (Zg [Zb 2 (.nilrow 3 Z1) []] .ret) .skip)) (Zg [Zb 5 (.bslice 3 Z1 0 []) [],Za 6 0,Zb 7 (.append 3 Z1 8) [.t 5,.t 6],Za 2 7] .ret)))⟩
def x68:XF:=⟨8,[.tmp 2],[0,2],(Zg [Zb 2 (.nilrow 65 Z11) []] (.seq (Zg [Za 3 0,Zb 4 (.isnil false Z11) [.t 3]] (.cond (.t 4) (Zg [Zb 2 (.nilrow 65 Z11) []] .ret) .skip)) (Zg [Zb 5 (.bslice 65 Z11 0 []) [],Za 6 0,Zb 7 (.append 65 Z11 80) [.t 5,.t 6],Za 2 7] .ret)))⟩
def x71:XF:=⟨8,[.tmp 2],[0,2],(Zg [Zb 2 (.nilrow 89 Z2) []] (.seq (Zg [Za 3 0,Zb 4 (.isnil false Z2) [.t 3]] (.cond (.t 4) (Zg [Zb 2 (.nilrow 89 Z2) []] .ret) .skip)) (Zg [Zb 5 (.bslice 89 Z2 0 []) [],Za 6 0,Zb 7 (.append 89 Z2 16) [.t 5,.t 6],Za 2 7] .ret)))⟩
def x79_0:XC:=(Zg [Zb 17 (.bin .lss) [.t 16,.t 15]] (.seq (.cond (.t 17) .skip (.exit 0)) (.seq (.block 1 (Zg [Zb 18 (.iaddr Z2) [.t 14,.t 16],Zb 19 (.load Z2) [.t 18],Zb 8 (.alloc 89 Z2) [],⟨none,.store Z2,[.t 8,.t 19],none,[]⟩] (.reg false [Za 20 6,Zb 21 (.faddr 1 Z1) [.t 8],Zb 22 (.load Z1) [.t 21],Zb 23 (.bslice 3 Z1 1 [0]) [.t 22],Zb 24 (.append 3 Z1 8) [.t 20,.t 23],Za 6 24]))) (.reg false [Zb 25 (.bin .add) [.t 16,.int .i64 1],Za 16 25]))))
def x79_0d:List Nat:=[6,8,16]
def x79:XF:=⟨29,[.tmp 4,.tmp 5],[0,1,2,4,5,6,8,14,15,16],(Zg [Zb 2 (.box 102) [.t 0],Zb 4 (.nilrow 3 Z1) [],Zb 5 .mv [.int .i64 0]] (.seq (Zg [Zb 9 (.load Z14) [.t 2],Za 10 1,Zb 11 (.call 134) [.t 9,.t 10],Zb 12 .not [.t 11]] (.cond (.t 12) (Zg [Zb 4 (.nilrow 3 Z1) [],Zb 5 .mv [.int .i64 1]] .ret) .skip)) (.clean (Zg [Zb 6 (.nilrow 3 Z1) []] (.seq (Zg [Zb 13 (.faddr 1 Z3) [.t 2],Zb 14 (.load Z3) [.t 13],Zb 15 (.len false) [.t 14],Zb 16 .mv [.int .i64 0]] (.block 0 (.loop x79_0))) (.clean (Zg [Za 26 1,Za 27 6,Zb 28 (.call 135) [.t 26,.t 27],Za 4 28,Zb 5 .mv [.int .i64 0]] .ret)))))))⟩
def x83:XF:=⟨36,[.tmp 6,.tmp 7],[0,1,2,3,6,7,8,9,10],(Zg [Zb 3 (.box 115) [Zc 0],Zb 6 .mv [.int .i64 0],Zb 7 .mv [.int .i64 0]] (Zg [Za 12 1,Za 13 2,Zb 14 (.call 139) [Zc 12,Zc 13],Za 11 14,Zb 15 (.extract 0) [Zc 11],Zb 16 (.extract 1) [Zc 11],Za 8 15,Za 9 16] (.clean (.seq (Zg [Za 17 9,Zb 18 (.bin .neq) [Zc 17,.int .i64 0],Za 19 18,Ze 20 (.faddr 4 Z1) [Zc 3] 2 19 false,Ze 21 (.load Z1) [Zc 20] 2 19 false,Ze 22 (.faddr 5 Z1) [Zc 3] 2 19 false,Ze 23 (.load Z1) [Zc 22] 2 19 false,Ze 24 (.faddr 6 Z1) [Zc 3] 2 19 false,Ze 25 (.load Z1) [Zc 24] 2 19 false,⟨some 26,.build Z5 [(0,Z1),(1,Z1),(2,Z1)],[Zc 21,Zc 23,Zc 25],some (2,19,false),[]⟩,Ze 27 (.call 140) [Zc 26] 2 19 false,Ze 28 .not [Zc 27] 2 19 false,Zb 29 .pick [Zc 19,.bool true,Zc 28]] (.cond (Zc 29) (Zg [Zb 6 .mv [.int .i64 0],Zb 7 .mv [.int .i64 1]] .ret) .skip)) (.clean (Zg [Za 30 8,Zb 31 (.mkfn 142) [Zc 3],Zb 32 (.call 141) [Zc 30,Zc 31],Za 10 32] (.seq (Zg [Za 33 10,Zb 34 (.bin .geq) [Zc 33,.int .i64 0]] (.cond (Zc 34) (Zg [Za 35 10,Za 6 35,Zb 7 .mv [.int .i64 27]] .ret) .skip)) (Zg [Zb 6 .mv [.int .i64 0],Zb 7 .mv [.int .i64 0]] .ret))))))))⟩
def x84_0:XC:=(Zg [Zb 18 (.bin .lss) [Zc 17,Zc 16]] (.seq (.cond (Zc 18) .skip (.exit 0)) (.seq (.block 1 (Zg [Zb 19 (.iaddr Z15) [Zc 15,Zc 17],Zb 20 (.load Z15) [Zc 19],Zb 8 (.alloc 163 Z15) [],⟨none,.store Z15,[Zc 8,Zc 20],none,[]⟩] (Zg [Zb 9 (.alloc 4 .bool) [],Zb 10 (.alloc 4 .bool) [],⟨none,.store .bool,[Zc 9,.bool false],none,[]⟩,⟨none,.store .bool,[Zc 10,.bool false],none,[]⟩] (.seq (.icall false [Za 21 1,Zb 22 (.mkfn 144) [Zc 8,Zc 5,Zc 9,Zc 10]] (Zb 23 .callv [.fn 143,Zc 21,Zc 22]) [] 143 x143.n x143.res x143.kv x143.code) (Zg [Zb 24 (.faddr 2 .bool) [Zc 8],Zb 25 (.load .bool) [Zc 24],Za 26 25,Ze 27 (.load .bool) [Zc 9] 2 26 true,Zb 28 .pick [Zc 26,Zc 27,.bool false],Za 29 28,Ze 30 (.load .bool) [Zc 10] 5 29 true,Ze 31 .not [Zc 30] 5 29 true,Zb 32 .pick [Zc 29,Zc 31,.bool false],Za 33 32,Ze 34 (.faddr 2 .bool) [Zc 8] 9 33 false,Ze 35 (.load .bool) [Zc 34] 9 33 false,Ze 36 .not [Zc 35] 9 33 false,Ze 37 .mv [Zc 36] 9 33 false,Ze 38 (.load .bool) [Zc 10] 13 37 true,Ze 39 .pick [Zc 37,Zc 38,.bool false] 9 33 false,Zb 40 .pick [Zc 33,.bool true,Zc 39]] (.cond (Zc 40) (Zg [Zb 6 .mv [.bool false]] .ret) .skip)))))) (.reg false [Zb 41 (.bin .add) [Zc 17,.int .i64 1],Za 17 41]))))
def x84_0d:List Nat:=[6,8,9,10,17]
def x84:XF:=⟨42,[.tmp 6],[0,1,2,5,6,8,9,10,15,16,17],(Zg [Zb 5 (.box 24) [.t 2],Zb 6 .mv [.bool false]] (.seq (Zg [Zb 11 .mv [.t 1],Zb 12 (.load Z7) [.t 5],Zb 13 (.call 138) [.t 11,.t 12],Zb 14 .not [.t 13]] (.cond (.t 14) (Zg [Zb 6 .mv [.bool false]] .ret) .skip)) (.clean (.seq (Zg [Zb 15 .mv [.t 0],Zb 16 (.len false) [.t 15],Zb 17 .mv [.int .i64 0]] (.block 0 (.loop x84_0))) (Zg [Zb 6 .mv [.bool true]] .ret)))))⟩
def x85:XF:=⟨9,[.tmp 4],[0,1,4],(Zg [Zb 4 .mv [.bool false]] (Zg [Za 5 0,Za 6 1,Zb 7 (.call 146) [.t 5,.t 6],Zb 8 (.bin .geq) [.t 7,.int .i64 0],Za 4 8] .ret))⟩
def x87:XF:=⟨18,[.tmp 2],[0,1,2],(Zg [Zb 1 (.box 145) [Zc 0],Zb 2 .mv [.bool false]] (Zg [Zb 3 (.faddr 0 Z1) [Zc 1],Zb 4 (.load Z1) [Zc 3],Zb 5 (.bin .lss) [Zc 4,.int .i64 0],Za 6 5,Ze 7 (.faddr 0 Z1) [Zc 1] 3 6 false,Ze 8 (.load Z1) [Zc 7] 3 6 false,Ze 9 (.faddr 1 Z1) [Zc 1] 3 6 false,Ze 10 (.load Z1) [Zc 9] 3 6 false,Ze 11 (.bin .gtr) [Zc 8,Zc 10] 3 6 false,Zb 12 .pick [Zc 6,.bool true,Zc 11],Za 13 12,Ze 14 (.faddr 1 Z1) [Zc 1] 10 13 false,Ze 15 (.load Z1) [Zc 14] 10 13 false,Ze 16 (.bin .gtr) [Zc 15,.int .i64 1048576] 10 13 false,Zb 17 .pick [Zc 13,.bool true,Zc 16],Za 2 17] .ret))⟩
def x88:XF:=⟨18,[.tmp 2],[0,1,2],(Zg [Zb 1 (.box 89) [Zc 0],Zb 2 .mv [.bool false]] (Zg [Zb 3 (.faddr 0 Z1) [Zc 1],Zb 4 (.load Z1) [Zc 3],Zb 5 (.bin .lss) [Zc 4,.int .i64 0],Za 6 5,Ze 7 (.faddr 0 Z1) [Zc 1] 3 6 false,Ze 8 (.load Z1) [Zc 7] 3 6 false,Ze 9 (.faddr 1 Z1) [Zc 1] 3 6 false,Ze 10 (.load Z1) [Zc 9] 3 6 false,Ze 11 (.bin .gtr) [Zc 8,Zc 10] 3 6 false,Zb 12 .pick [Zc 6,.bool true,Zc 11],Za 13 12,Ze 14 (.faddr 1 Z1) [Zc 1] 10 13 false,Ze 15 (.load Z1) [Zc 14] 10 13 false,Ze 16 (.bin .gtr) [Zc 15,.int .i64 1048576] 10 13 false,Zb 17 .pick [Zc 13,.bool true,Zc 16],Za 2 17] .ret))⟩
def x89:XF:=⟨30,[.tmp 3],[0,1,2,3],(Zg [Zb 2 (.box 149) [Zc 0],Zb 3 .mv [.bool false]] (Zg [Zb 4 (.faddr 0 Z1) [Zc 2],Zb 5 (.load Z1) [Zc 4],Zb 6 (.bin .lss) [Zc 5,.int .i64 0],Za 7 6,Ze 8 (.faddr 0 Z1) [Zc 2] 3 7 false,Ze 9 (.load Z1) [Zc 8] 3 7 false,Ze 10 (.faddr 1 Z1) [Zc 2] 3 7 false,Ze 11 (.load Z1) [Zc 10] 3 7 false,Ze 12 (.bin .geq) [Zc 9,Zc 11] 3 7 false,Zb 13 .pick [Zc 7,.bool true,Zc 12],Za 14 13,Ze 15 (.faddr 1 Z1) [Zc 2] 10 14 false,Ze 16 (.load Z1) [Zc 15] 10 14 false,Ze 17 (.load Z1) [Zc 1] 10 14 false,Ze 18 (.bin .geq) [Zc 16,Zc 17] 10 14 false,Zb 19 .pick [Zc 14,.bool true,Zc 18],Za 20 19,Ze 21 (.faddr 2 Z1) [Zc 2] 16 20 false,Ze 22 (.load Z1) [Zc 21] 16 20 false,Ze 23 (.bin .lss) [Zc 22,.int .i64 0] 16 20 false,Zb 24 .pick [Zc 20,.bool true,Zc 23],Za 25 24,Ze 26 (.faddr 2 Z1) [Zc 2] 21 25 false,Ze 27 (.load Z1) [Zc 26] 21 25 false,Ze 28 (.bin .gtr) [Zc 27,.int .i64 1048576] 21 25 false,Zb 29 .pick [Zc 25,.bool true,Zc 28],Za 3 29] .ret))⟩
def x90:XF:=⟨9,[.tmp 4],[0,1,4],(Zg [Zb 4 .mv [.bool false]] (Zg [Za 5 0,Za 6 1,Zb 7 (.call 147) [.t 5,.t 6],Zb 8 (.bin .geq) [.t 7,.int .i64 0],Za 4 8] .ret))⟩
def x91:XF:=⟨9,[.tmp 4],[0,1,4],(Zg [Zb 4 .mv [.bool false]] (Zg [Za 5 0,Za 6 1,Zb 7 (.call 148) [.t 5,.t 6],Zb 8 (.bin .geq) [.t 7,.int .i64 0],Za 4 8] .ret))⟩
def x92:XF:=⟨9,[.tmp 4],[0,1,4],(Zg [Zb 4 .mv [.bool false]] (Zg [Za 5 0,Za 6 1,Zb 7 (.call 149) [.t 5,.t 6],Zb 8 (.bin .geq) [.t 7,.int .i64 0],Za 4 8] .ret))⟩
def x96_0:XC:=(Zg [Zb 26 (.bin .lss) [Zc 25,Zc 24]] (.seq (.cond (Zc 26) .skip (.exit 0)) (.seq (.block 1 (Zg [Za 27 25,Zb 28 (.iaddr Z2) [Zc 23,Zc 25],Zb 29 (.load Z2) [Zc 28],Zb 9 (.alloc 89 Z2) [],Za 8 27,⟨none,.store Z2,[Zc 9,Zc 29],none,[]⟩] (.seq (.reg true [Za 30 2,Za 31 8,Zf 32 (.iaddr Z1) [Zc 30,Zc 31] [0,1],Zf 33 (.load Z1) [Zc 32] [2,0,1],Zb 34 (.faddr 0 Z1) [Zc 9],Zf 35 (.load Z1) [Zc 34] [4],Zf 36 (.bin .lss) [Zc 33,Zc 35] [3,2,0,1,5,4],Zf 37 .mv [Zc 36] [6,3,2,0,1,5,4],Zh 38 .mv [Zc 2] 7 37 false [7,6,3,2,0,1,5,4],Zh 39 .mv [Zc 8] 7 37 false [7,6,3,2,0,1,5,4],Zh 40 (.iaddr Z1) [Zc 38,Zc 39] 7 37 false [8,7,6,3,2,0,1,5,4,9],Zh 41 (.load Z1) [Zc 40] 7 37 false [10,8,7,6,3,2,0,1,5,4,9],Zh 42 (.faddr 1 Z1) [Zc 9] 7 37 false [7,6,3,2,0,1,5,4],Zh 43 (.load Z1) [Zc 42] 7 37 false [12,7,6,3,2,0,1,5,4],Zh 44 (.bin .gtr) [Zc 41,Zc 43] 7 37 false [11,10,8,7,6,3,2,0,1,5,4,9,13,12],Zf 45 .pick [Zc 37,.bool true,Zc 44] [7,6,3,2,0,1,5,4,14,11,10,8,9,13,12]]) (.cond (Zc 45) (Zg [Zb 6 (.nilrow 3 Z1) [],Zb 7 .mv [.int .i64 1]] .ret) .skip)))) (.reg false [Zb 46 (.bin .add) [Zc 25,.int .i64 1],Za 25 46]))))
def x96_0d:List Nat:=[6,7,8,9,25]
def x96:XF:=⟨50,[.tmp 6,.tmp 7],[0,1,2,3,6,7,8,9,23,24,25],(Zg [Zb 3 (.box 102) [Zc 0],Zb 6 (.nilrow 3 Z1) [],Zb 7 .mv [.int .i64 0]] (.seq (Zg [Zb 10 (.load Z14) [Zc 3],Za 11 1,Zb 12 (.call 134) [Zc 10,Zc 11],Zb 13 .not [Zc 12],Za 14 13,Ze 15 .mv [Zc 2] 4 14 false,Ze 16 (.len false) [Zc 15] 4 14 false,Ze 17 (.faddr 1 Z3) [Zc 3] 4 14 false,Ze 18 (.load Z3) [Zc 17] 4 14 false,Ze 19 (.len false) [Zc 18] 4 14 false,Ze 20 (.bin .neq) [Zc 16,Zc 19] 4 14 false,Zb 21 .pick [Zc 14,.bool true,Zc 20]] (.cond (Zc 21) (Zg [Zb 6 (.nilrow 3 Z1) [],Zb 7 .mv [.int .i64 1]] .ret) .skip)) (.clean (.seq (Zg [Zb 22 (.faddr 1 Z3) [Zc 3],Zb 23 (.load Z3) [Zc 22],Zb 24 (.len false) [Zc 23],Zb 25 .mv [.int .i64 0]] (.block 0 (.loop x96_0))) (.clean (Zg [Za 47 1,Za 48 2,Zb 49 (.call 135) [Zc 47,Zc 48],Za 6 49,Zb 7 .mv [.int .i64 0]] .ret))))))⟩
def x97_0:XC:=(Zg [Zb 12 (.bin .lss) [.t 11,.t 10]] (.seq (.cond (.t 12) .skip (.exit 0)) (.seq (.block 1 (Zg [Zb 13 (.iaddr Z9) [.t 9,.t 11],Zb 14 (.load Z9) [.t 13],Za 5 14] (Zg [Za 15 3,Za 16 5,Zb 17 (.len false) [.t 16],Zb 18 (.bin .add) [.t 15,.t 17],Za 3 18] (Zg [Za 19 3,Zb 20 (.bin .lss) [.t 19,.int .i64 0]] (.cond (.t 20) .dead  .skip))))) (.reg false [Zb 22 (.bin .add) [.t 11,.int .i64 1],Za 11 22]))))
def x97_0d:List Nat:=[3,5,11]
def x97_1:XC:=(Zg [Zb 28 (.bin .lss) [.t 27,.t 26]] (.seq (.cond (.t 28) .skip (.exit 2)) (.seq (.block 3 (Zg [Zb 29 (.iaddr Z9) [.t 25,.t 27],Zb 30 (.load Z9) [.t 29],Za 8 30] (.reg false [Za 31 6,Za 32 8,Zb 33 (.append 3 Z1 8) [.t 31,.t 32],Za 6 33]))) (.reg false [Zb 34 (.bin .add) [.t 27,.int .i64 1],Za 27 34]))))
def x97_1d:List Nat:=[6,8,27]
def x97:XF:=⟨36,[.tmp 2],[0,2,3,5,6,8,9,10,11,25,26,27],(Zg [Zb 2 (.nilrow 3 Z1) []] (Zg [Zb 3 .mv [.int .i64 0]] (.seq (Zg [Za 9 0,Zb 10 (.len false) [.t 9],Zb 11 .mv [.int .i64 0]] (.block 0 (.loop x97_0))) (.clean (Zg [Za 23 3,Zb 24 (.call 150) [.nil,.t 23],Za 6 24] (.seq (Zg [Za 25 0,Zb 26 (.len false) [.t 25],Zb 27 .mv [.int .i64 0]] (.block 2 (.loop x97_1))) (Zg [Za 35 6,Za 2 35] .ret)))))))⟩
def x100:XF:=⟨27,[.tmp 6,.tmp 7],[0,1,2,3,6,7,10],(Zg [Zb 3 (.box 27) [Zc 0],Zb 6 .mv [.int .i64 0],Zb 7 .mv [.int .i64 0]] (.seq (Zg [Zb 11 (.load Z5) [Zc 3],Za 12 1,Za 13 2,Zb 14 (.call 109) [Zc 11,Zc 12,Zc 13],Zb 15 .not [Zc 14]] (.cond (Zc 15) (Zg [Zb 6 .mv [.int .i64 0],Zb 7 .mv [.int .i64 1]] .ret) .skip)) (.clean (.seq (Zg [Zb 17 (.load Z5) [Zc 3],Za 18 1,Za 19 2,Zb 20 (.call 152) [Zc 17,Zc 18,Zc 19],Za 16 20,Zb 21 (.extract 0) [Zc 16],Zb 22 (.extract 1) [Zc 16],Zb 23 (.extract 2) [Zc 16],Za 8 21,Za 9 22,Za 10 23] (.clean (Zg [Za 24 10,Zb 25 (.bin .geq) [Zc 24,.int .i64 0]] (.cond (Zc 25) (Zg [Za 26 10,Za 6 26,Zb 7 .mv [.int .i64 29]] .ret) .skip)))) (Zg [Zb 6 .mv [.int .i64 0],Zb 7 .mv [.int .i64 0]] .ret)))))⟩
def x101:XF:=⟨15,[.tmp 5],[0,1,2,5],(Zg [Zb 5 .mv [.int .i64 0]] (.seq (.reg true [Zb 6 (.load Z9) [.t 2],Zb 7 .mv [.t 1],Zf 8 (.iaddr Z1) [.t 6,.t 7] [0,1],Zf 9 (.load Z1) [.t 8] [2,0,1],Zb 10 (.load Z9) [.t 2],Zb 11 .mv [.t 0],Zf 12 (.iaddr Z1) [.t 10,.t 11] [4,5],Zf 13 (.load Z1) [.t 12] [6,4,5],Zf 14 (.bin .sub) [.t 9,.t 13] [3,2,0,1,7,6,4,5],Zf 5 .mv [.t 14] [8,3,2,0,1,7,6,4,5]]) .ret))⟩
def x102:XF:=⟨24,[.tmp 4],[0,1,2,4,5],(Zg [Zb 2 (.box 3) [Zc 0],Zb 4 .mv [.bool false]] (Zg [Zb 6 (.mkfn 153) [Zc 2],Za 5 6] (Zg [Zb 7 (.load Z1) [Zc 2],Zb 8 (.bin .geq) [Zc 7,.int .i64 1],Za 9 8,Ze 10 (.load Z1) [Zc 2] 2 9 true,Ze 11 (.bin .leq) [Zc 10,.int .i64 2000] 2 9 true,Zb 12 .pick [Zc 9,Zc 11,.bool false],Za 13 12,Ze 14 .mv [Zc 1] 6 13 true,Ze 15 (.len false) [Zc 14] 6 13 true,Ze 16 (.bin .leq) [Zc 15,.int .i64 20000] 6 13 true,Zb 17 .pick [Zc 13,Zc 16,.bool false],Za 18 17,Ze 19 .mv [Zc 1] 11 18 true,Ze 20 .mv [Zc 5] 11 18 true,Ze 21 (.call 155) [Zc 19,Zc 20] 11 18 true,Ze 22 .not [Zc 21] 11 18 true,Zb 23 .pick [Zc 18,Zc 22,.bool false],Za 4 23] .ret)))⟩
def x106:XF:=⟨9,[.tmp 4],[0,1,4],(Zg [Zb 4 .mv [.bool false]] (Zg [Za 5 0,Za 6 1,Zb 7 (.call 156) [.t 5,.t 6],Zb 8 (.bin .geq) [.t 7,.int .i64 0],Za 4 8] .ret))⟩
def x107:XF:=⟨9,[.tmp 4],[0,1,4],(Zg [Zb 4 .mv [.bool false]] (Zg [Za 5 0,Za 6 1,Zb 7 (.call 157) [.t 5,.t 6],Zb 8 (.bin .geq) [.t 7,.int .i64 0],Za 4 8] .ret))⟩
def x108:XF:=⟨9,[.tmp 4],[0,1,4],(Zg [Zb 4 .mv [.bool false]] (Zg [Za 5 0,Za 6 1,Zb 7 (.call 158) [.t 5,.t 6],Zb 8 (.bin .geq) [.t 7,.int .i64 0],Za 4 8] .ret))⟩
def x109:XF:=⟨47,[.tmp 6],[0,1,2,3,6,7,8],(Zg [Zb 3 (.box 27) [Zc 0],Zb 6 .mv [.bool false]] (Zg [Zb 7 .mv [.fn 159]] (Zg [Zb 9 (.faddr 0 Z1) [Zc 3],Zb 10 (.load Z1) [Zc 9],Zb 11 (.call 160) [Zc 10,.int .i64 1,.int .i64 1048576],Za 12 11,Ze 13 (.faddr 1 Z1) [Zc 3] 3 12 true,Ze 14 (.load Z1) [Zc 13] 3 12 true,Ze 15 (.call 160) [Zc 14,.int .i64 1,.int .i64 1048576] 3 12 true,Zb 16 .pick [Zc 12,Zc 15,.bool false],Za 17 16,Ze 18 (.faddr 2 Z1) [Zc 3] 8 17 true,Ze 19 (.load Z1) [Zc 18] 8 17 true,Ze 20 (.call 160) [Zc 19,.int .i64 1,.int .i64 1048576] 8 17 true,Zb 21 .pick [Zc 17,Zc 20,.bool false],Za 8 21] (.clean (Zg [Za 22 8,Za 23 22,Ze 24 .mv [Zc 1] 1 23 true,Ze 25 (.len false) [Zc 24] 1 23 true,Ze 26 (.bin .leq) [Zc 25,.int .i64 80] 1 23 true,Zb 27 .pick [Zc 23,Zc 26,.bool false],Za 28 27,Ze 29 .mv [Zc 2] 6 28 true,Ze 30 (.len false) [Zc 29] 6 28 true,Ze 31 .mv [Zc 1] 6 28 true,Ze 32 (.len false) [Zc 31] 6 28 true,Ze 33 (.bin .eql) [Zc 30,Zc 32] 6 28 true,Zb 34 .pick [Zc 28,Zc 33,.bool false],Za 35 34,Ze 36 .mv [Zc 1] 13 35 true,Ze 37 .mv [Zc 7] 13 35 true,Ze 38 (.call 91) [Zc 36,Zc 37] 13 35 true,Ze 39 .not [Zc 38] 13 35 true,Zb 40 .pick [Zc 35,Zc 39,.bool false],Za 41 40,Ze 42 .mv [Zc 2] 19 41 true,Ze 43 .mv [Zc 7] 19 41 true,Ze 44 (.call 91) [Zc 42,Zc 43] 19 41 true,Ze 45 .not [Zc 44] 19 41 true,Zb 46 .pick [Zc 41,Zc 45,.bool false],Za 6 46] .ret)))))⟩
def x110_0:XC:=(Zg [Zb 9 (.bin .lss) [.t 8,.t 7]] (.seq (.cond (.t 9) .skip (.exit 0)) (.seq (.block 1 (Zg [Za 10 8,Za 5 10] (Zg [Za 11 1,Za 12 0,Za 13 5,Zb 14 (.iaddr Z11) [.t 12,.t 13],Zb 15 (.load Z11) [.t 14],Zb 16 .callv [.t 11,.t 15]] (.cond (.t 16) (Zg [Za 17 5,Za 4 17] .ret) .skip)))) (.reg false [Zb 18 (.bin .add) [.t 8,.int .i64 1],Za 8 18]))))
def x110_0d:List Nat:=[4,5,8]
def x110:XF:=⟨19,[.tmp 4],[0,1,4,5,7,8],(Zg [Zb 4 .mv [.int .i64 0]] (.seq (Zg [Zb 6 .mv [.t 0],Zb 7 (.len false) [.t 6],Zb 8 .mv [.int .i64 0]] (.block 0 (.loop x110_0))) (Zg [Zb 4 .mv [.int .i64 (-1)]] .ret)))⟩
def x111_0:XC:=(Zg [Zb 9 (.bin .lss) [.t 8,.t 7]] (.seq (.cond (.t 9) .skip (.exit 0)) (.seq (.block 1 (Zg [Za 10 8,Za 5 10] (Zg [Za 11 1,Za 12 0,Za 13 5,Zb 14 (.iaddr Z8) [.t 12,.t 13],Zb 15 (.load Z8) [.t 14],Zb 16 .callv [.t 11,.t 15]] (.cond (.t 16) (Zg [Za 17 5,Za 4 17] .ret) .skip)))) (.reg false [Zb 18 (.bin .add) [.t 8,.int .i64 1],Za 8 18]))))
def x111_0d:List Nat:=[4,5,8]
def x111:XF:=⟨19,[.tmp 4],[0,1,4,5,7,8],(Zg [Zb 4 .mv [.int .i64 0]] (.seq (Zg [Zb 6 .mv [.t 0],Zb 7 (.len false) [.t 6],Zb 8 .mv [.int .i64 0]] (.block 0 (.loop x111_0))) (Zg [Zb 4 .mv [.int .i64 (-1)]] .ret)))⟩
def x112_0:XC:=(Zg [Zb 9 (.bin .lss) [.t 8,.t 7]] (.seq (.cond (.t 9) .skip (.exit 0)) (.seq (.block 1 (Zg [Za 10 8,Za 5 10] (Zg [Za 11 1,Za 12 0,Za 13 5,Zb 14 (.iaddr Z1) [.t 12,.t 13],Zb 15 (.load Z1) [.t 14],Zb 16 (.bin .eql) [.t 11,.t 15]] (.cond (.t 16) (Zg [Za 17 5,Za 4 17] .ret) .skip)))) (.reg false [Zb 18 (.bin .add) [.t 8,.int .i64 1],Za 8 18]))))
def x112_0d:List Nat:=[4,5,8]
def x112:XF:=⟨19,[.tmp 4],[0,1,4,5,7,8],(Zg [Zb 4 .mv [.int .i64 0]] (.seq (Zg [Zb 6 .mv [.t 0],Zb 7 (.len false) [.t 6],Zb 8 .mv [.int .i64 0]] (.block 0 (.loop x112_0))) (Zg [Zb 4 .mv [.int .i64 (-1)]] .ret)))⟩
def x134:XF:=⟨22,[.tmp 4],[0,1,2,4,5],(Zg [Zb 2 (.box 102) [Zc 0],Zb 4 .mv [.bool false]] (Zg [Zb 5 .mv [.fn 187]] (Zg [Zb 6 (.load Z14) [Zc 2],Zb 7 (.call 53) [Zc 6],Za 8 7,Ze 9 .mv [Zc 1] 2 8 true,Ze 10 (.len false) [Zc 9] 2 8 true,Ze 11 (.faddr 0 Z3) [Zc 2] 2 8 true,Ze 12 (.load Z3) [Zc 11] 2 8 true,Ze 13 (.len false) [Zc 12] 2 8 true,Ze 14 (.bin .eql) [Zc 10,Zc 13] 2 8 true,Zb 15 .pick [Zc 8,Zc 14,.bool false],Za 16 15,Ze 17 .mv [Zc 1] 10 16 true,Ze 18 .mv [Zc 5] 10 16 true,Ze 19 (.call 85) [Zc 17,Zc 18] 10 16 true,Ze 20 .not [Zc 19] 10 16 true,Zb 21 .pick [Zc 16,Zc 20,.bool false],Za 4 21] .ret)))⟩
def x135_0:XC:=(Zg [Zf 16 (.bin .lss) [Zc 15,Zc 14] []] (.seq (.cond (Zc 16) .skip (.exit 0)) (.seq (.block 1 (Zg [Za 17 15,Zf 18 (.iaddr Z1) [Zc 13,Zc 15] [],Zf 19 (.load Z1) [Zc 18] [],Za 6 17,Za 7 19] (.reg true [Za 20 5,Za 21 5,Za 22 6,Zf 23 (.iaddr Z1) [Zc 21,Zc 22] [1,2],Zf 24 (.load Z1) [Zc 23] [3,1,2],Za 25 7,Zf 26 (.bin .add) [Zc 24,Zc 25] [4,3,1,2,5],Za 27 0,Za 28 6,Zf 29 (.bin .add) [Zc 28,.int .i64 1] [8],Zf 30 (.iaddr Z1) [Zc 27,Zc 29] [7,9,8],Zf 31 (.load Z1) [Zc 30] [10,7,9,8],Zf 32 .max [Zc 26,Zc 31] [6,4,3,1,2,5,11,10,7,9,8],Zf 33 (.bslice 3 Z1 1 [0]) [Zc 32] [12,6,4,3,1,2,5,11,10,7,9,8],Zf 34 (.append 3 Z1 8) [Zc 20,Zc 33] [0,13,12,6,4,3,1,2,5,11,10,7,9,8],Zf 5 .mv [Zc 34] [14,0,13,12,6,4,3,1,2,5,11,10,7,9,8]]))) (.reg false [Zf 35 (.bin .add) [Zc 15,.int .i64 1] [],Za 15 35]))))
def x135_0d:List Nat:=[5,6,7,15]
def x135:XF:=⟨37,[.tmp 4],[0,1,4,5,6,7,13,14,15],(Zg [Zb 4 (.nilrow 3 Z1) []] (Zg [Za 8 0,Zb 9 (.iaddr Z1) [.t 8,.int .i64 0],Zb 10 (.load Z1) [.t 9],Zb 11 .max [.int .i64 0,.t 10],Zb 12 (.bslice 3 Z1 1 [0]) [.t 11],Za 5 12] (.clean (.seq (Zg [Za 13 1,Zb 14 (.len false) [.t 13],Zb 15 .mv [.int .i64 0]] (.block 0 (.loop x135_0))) (Zg [Za 36 5,Za 4 36] .ret)))))⟩
def x138_0:XC:=(.seq (Zg [Za 20 6,Zb 21 (.bin .geq) [Zc 20,.int .i64 0]] (.cond (Zc 21) .skip (.exit 0))) (.seq (.block 1 (Zg [Za 24 0,Za 25 6,Zb 26 (.iaddr Z8) [Zc 24,Zc 25],Zd 27 Z8 26,Zb 7 (.alloc 68 Z8) [],⟨none,.store Z8,[Zc 7,Zc 27],none,[]⟩] (.seq (.seq (.reg true [Zb 28 (.faddr 0 Z1) [Zc 7],Zf 29 (.load Z1) [Zc 28] [0],Zf 30 (.bin .lss) [Zc 29,.int .i64 0] [1,0],Zf 31 .mv [Zc 30] [2,1,0],Zh 32 (.faddr 0 Z1) [Zc 7] 3 31 false [3,2,1,0],Zh 33 (.load Z1) [Zc 32] 3 31 false [4,3,2,1,0],Zh 34 .mv [Zc 1] 3 31 false [3,2,1,0],Zh 35 (.len false) [Zc 34] 3 31 false [6,3,2,1,0],Zh 36 (.bin .geq) [Zc 33,Zc 35] 3 31 false [5,4,3,2,1,0,7,6],Zf 37 .pick [Zc 31,.bool true,Zc 36] [3,2,1,0,8,5,4,7,6],Zf 38 .mv [Zc 37] [9,3,2,1,0,8,5,4,7,6],Zh 39 .mv [Zc 1] 10 38 false [10,9,3,2,1,0,8,5,4,7,6],Zh 40 (.faddr 0 Z1) [Zc 7] 10 38 false [10,9,3,2,1,0,8,5,4,7,6],Zh 41 (.load Z1) [Zc 40] 10 38 false [12,10,9,3,2,1,0,8,5,4,7,6],Zh 42 (.iaddr Z6) [Zc 39,Zc 41] 10 38 false [11,10,9,3,2,1,0,8,5,4,7,6,13,12],Zh 43 (.load Z6) [Zc 42] 10 38 false [14,11,10,9,3,2,1,0,8,5,4,7,6,13,12],Zh 44 (.call 190) [Zc 43] 10 38 false [15,14,11,10,9,3,2,1,0,8,5,4,7,6,13,12],Zh 45 (.call 140) [Zc 44] 10 38 false [16,15,14,11,10,9,3,2,1,0,8,5,4,7,6,13,12],Zh 46 .not [Zc 45] 10 38 false [17,16,15,14,11,10,9,3,2,1,0,8,5,4,7,6,13,12],Zf 47 .pick [Zc 38,.bool true,Zc 46] [10,9,3,2,1,0,8,5,4,7,6,18,17,16,15,14,11,13,12],Zf 48 .mv [Zc 47] [19,10,9,3,2,1,0,8,5,4,7,6,18,17,16,15,14,11,13,12],Zh 49 .mv [Zc 0] 20 48 false [20,19,10,9,3,2,1,0,8,5,4,7,6,18,17,16,15,14,11,13,12],Zh 50 .mv [Zc 6] 20 48 false [20,19,10,9,3,2,1,0,8,5,4,7,6,18,17,16,15,14,11,13,12],Zh 51 (.slice Z8 false true false) [Zc 49,Zc 50] 20 48 false [21,20,19,10,9,3,2,1,0,8,5,4,7,6,18,17,16,15,14,11,13,12,22],Zh 52 (.load Z8) [Zc 7] 20 48 false [20,19,10,9,3,2,1,0,8,5,4,7,6,18,17,16,15,14,11,13,12],Zh 53 (.call 191) [Zc 51,Zc 52] 20 48 false [23,21,20,19,10,9,3,2,1,0,8,5,4,7,6,18,17,16,15,14,11,13,12,22,24],Zf 54 .pick [Zc 48,.bool true,Zc 53] [20,19,10,9,3,2,1,0,8,5,4,7,6,18,17,16,15,14,11,13,12,25,23,21,22,24],Zf 55 .mv [Zc 54] [26,20,19,10,9,3,2,1,0,8,5,4,7,6,18,17,16,15,14,11,13,12,25,23,21,22,24],Zh 56 (.faddr 1 .bool) [Zc 7] 27 55 false [27,26,20,19,10,9,3,2,1,0,8,5,4,7,6,18,17,16,15,14,11,13,12,25,23,21,22,24],Zh 57 (.load .bool) [Zc 56] 27 55 false [28,27,26,20,19,10,9,3,2,1,0,8,5,4,7,6,18,17,16,15,14,11,13,12,25,23,21,22,24],Zh 58 .mv [Zc 57] 27 55 false [29,28,27,26,20,19,10,9,3,2,1,0,8,5,4,7,6,18,17,16,15,14,11,13,12,25,23,21,22,24],Zh 59 .mv [Zc 5] 30 58 true [30,29,28,27,26,20,19,10,9,3,2,1,0,8,5,4,7,6,18,17,16,15,14,11,13,12,25,23,21,22,24],Zh 60 (.faddr 0 Z1) [Zc 7] 30 58 true [30,29,28,27,26,20,19,10,9,3,2,1,0,8,5,4,7,6,18,17,16,15,14,11,13,12,25,23,21,22,24],Zh 61 (.load Z1) [Zc 60] 30 58 true [32,30,29,28,27,26,20,19,10,9,3,2,1,0,8,5,4,7,6,18,17,16,15,14,11,13,12,25,23,21,22,24],Zh 62 (.mapget .i64 .bool false) [Zc 59,Zc 61] 30 58 true [31,30,29,28,27,26,20,19,10,9,3,2,1,0,8,5,4,7,6,18,17,16,15,14,11,13,12,25,23,21,22,24,33,32],Zh 63 .not [Zc 62] 30 58 true [34,31,30,29,28,27,26,20,19,10,9,3,2,1,0,8,5,4,7,6,18,17,16,15,14,11,13,12,25,23,21,22,24,33,32],Zh 64 .pick [Zc 58,Zc 63,.bool false] 27 55 false [30,29,28,27,26,20,19,10,9,3,2,1,0,8,5,4,7,6,18,17,16,15,14,11,13,12,25,23,21,22,24,35,34,31,33,32],Zf 65 .pick [Zc 55,.bool true,Zc 64] [27,26,20,19,10,9,3,2,1,0,8,5,4,7,6,18,17,16,15,14,11,13,12,25,23,21,22,24,36,30,29,28,35,34,31,33,32]]) (.cond (Zc 65) (Zg [Zb 4 .mv [.bool false]] .ret) .skip)) (.clean (Zg [Zb 66 (.faddr 1 .bool) [Zc 7],Zd 67 .bool 66,Zb 68 .not [Zc 67]] (.cond (Zc 68) (.reg false [Za 69 5,Zb 70 (.faddr 0 Z1) [Zc 7],Zd 71 Z1 70,⟨none,.mapset .i64 .bool,[Zc 69,Zc 71,.bool true],none,[]⟩]) .skip)))))) (.clean (.reg false [Za 22 6,Zb 23 (.bin .sub) [Zc 22,.int .i64 1],Za 6 23]))))
def x138_0d:List Nat:=[4,6,7]
def x138:XF:=⟨72,[.tmp 4],[0,1,4,5,6,7],(Zg [Zb 4 .mv [.bool false]] (.seq (Zg [Za 8 0,Zb 9 (.len false) [.t 8],Zb 10 (.bin .gtr) [.t 9,.int .i64 80],Za 11 10,⟨some 12,.mv,[.t 1],some (3,11,false),[]⟩,⟨some 13,.len false,[.t 12],some (3,11,false),[]⟩,⟨some 14,.bin .gtr,[.t 13,.int .i64 30000],some (3,11,false),[]⟩,Zb 15 .pick [.t 11,.bool true,.t 14]] (.cond (.t 15) (Zg [Zb 4 .mv [.bool false]] .ret) .skip)) (.clean (Zg [Zb 16 (.mkmap .i64 .bool) [],Za 5 16] (.seq (Zg [Za 17 0,Zb 18 (.len false) [.t 17],Zb 19 (.bin .sub) [.t 18,.int .i64 1],Za 6 19] (.block 0 (.loop x138_0))) (Zg [Zb 4 .mv [.bool true]] .ret))))))⟩
def x139:XF:=⟨13,[.tmp 4,.tmp 5],[0,1,3,4,5],(Zg [Zb 3 (.box 24) [.t 1],Zb 4 (.nilrow 192 Z5) [],Zb 5 .mv [.int .i64 0]] (.seq (Zg [Za 6 0,Zb 7 (.load Z7) [.t 3],Zb 8 (.call 138) [.t 6,.t 7],Zb 9 .not [.t 8]] (.cond (.t 9) (Zg [Zb 4 (.nilrow 192 Z5) [],Zb 5 .mv [.int .i64 1]] .ret) .skip)) (.clean (.seq (.icall false [Za 10 0,Zb 11 (.mkfn 193) [.t 3]] (Zb 12 .callv [.fn 192,.t 10,.t 11]) [Za 4 12,Zb 5 .mv [.int .i64 0]] 192 x192.n x192.res x192.kv x192.code) .ret))))⟩
def x140:XF:=⟨20,[.tmp 2],[0,1,2,3],(Zg [Zb 1 (.box 192) [Zc 0],Zb 2 .mv [.bool false]] (Zg [Zb 3 .mv [.fn 195]] (Zg [Za 4 3,Zb 5 (.faddr 0 Z1) [Zc 1],Zb 6 (.load Z1) [Zc 5],Zb 7 .callv [Zc 4,Zc 6],Za 8 7,Ze 9 .mv [Zc 3] 4 8 true,Ze 10 (.faddr 1 Z1) [Zc 1] 4 8 true,Ze 11 (.load Z1) [Zc 10] 4 8 true,⟨some 12,.callv,[Zc 9,Zc 11],some (4,8,true),[]⟩,Zb 13 .pick [Zc 8,Zc 12,.bool false],Za 14 13,Ze 15 .mv [Zc 3] 10 14 true,Ze 16 (.faddr 2 Z1) [Zc 1] 10 14 true,Ze 17 (.load Z1) [Zc 16] 10 14 true,⟨some 18,.callv,[Zc 15,Zc 17],some (10,14,true),[]⟩,Zb 19 .pick [Zc 14,Zc 18,.bool false],Za 2 19] .ret)))⟩
def x141_0:XC:=(Zg [Zb 9 (.bin .lss) [.t 8,.t 7]] (.seq (.cond (.t 9) .skip (.exit 0)) (.seq (.block 1 (Zg [Za 10 8,Za 5 10] (Zg [Za 11 1,Za 12 0,Za 13 5,Zb 14 (.iaddr Z5) [.t 12,.t 13],Zb 15 (.load Z5) [.t 14],Zb 16 .callv [.t 11,.t 15]] (.cond (.t 16) (Zg [Za 17 5,Za 4 17] .ret) .skip)))) (.reg false [Zb 18 (.bin .add) [.t 8,.int .i64 1],Za 8 18]))))
def x141_0d:List Nat:=[4,5,8]
def x141:XF:=⟨19,[.tmp 4],[0,1,4,5,7,8],(Zg [Zb 4 .mv [.int .i64 0]] (.seq (Zg [Zb 6 .mv [.t 0],Zb 7 (.len false) [.t 6],Zb 8 .mv [.int .i64 0]] (.block 0 (.loop x141_0))) (Zg [Zb 4 .mv [.int .i64 (-1)]] .ret)))⟩
def x142:XF:=⟨23,[.tmp 3],[0,1,2,3],(Zg [Zb 2 (.box 192) [Zc 0],Zb 3 .mv [.bool false]] (Zg [Zb 4 (.faddr 0 Z1) [Zc 2],Zb 5 (.load Z1) [Zc 4],Zb 6 (.faddr 4 Z1) [Zc 1],Zb 7 (.load Z1) [Zc 6],Zb 8 (.bin .gtr) [Zc 5,Zc 7],Za 9 8,Ze 10 (.faddr 1 Z1) [Zc 2] 5 9 false,Ze 11 (.load Z1) [Zc 10] 5 9 false,Ze 12 (.faddr 5 Z1) [Zc 1] 5 9 false,Ze 13 (.load Z1) [Zc 12] 5 9 false,Ze 14 (.bin .gtr) [Zc 11,Zc 13] 5 9 false,Zb 15 .pick [Zc 9,.bool true,Zc 14],Za 16 15,Ze 17 (.faddr 2 Z1) [Zc 2] 12 16 false,Ze 18 (.load Z1) [Zc 17] 12 16 false,Ze 19 (.faddr 6 Z1) [Zc 1] 12 16 false,Ze 20 (.load Z1) [Zc 19] 12 16 false,Ze 21 (.bin .gtr) [Zc 18,Zc 20] 12 16 false,Zb 22 .pick [Zc 16,.bool true,Zc 21],Za 3 22] .ret))⟩
def x145_0:XC:=(.seq (.nxt 10 9 [Zb 11 (.extract 0) [.t 10]]) (.seq (.cond (.t 11) .skip (.exit 0)) (.block 1 (Zg [Zb 12 .entry [.t 9],Zb 13 (.extract 0) [.t 12],Za 7 13] (Zg [Za 14 2,Za 15 7,Zb 16 (.iaddr Z6) [.t 14,.t 15],Zb 17 (.faddr 0 Z1) [.t 16],Zb 18 (.load Z1) [.t 17],Za 19 1,Zb 20 (.bin .eql) [.t 18,.t 19]] (.cond (.t 20) (Zg [Zb 6 .mv [.bool true]] .ret) .skip))))))
def x145_0d:List Nat:=[6,7]
def x145:XF:=⟨21,[.tmp 6],[0,1,2,6,7,9],(Zg [Zb 6 .mv [.bool false]] (.seq (Zg [Zb 8 .mv [.t 0],Zb 9 (.mrange .i64 .bool) [.t 8]] (.block 0 (.loop x145_0))) (Zg [Zb 6 .mv [.bool false]] .ret)))⟩
def x146_0:XC:=(Zg [Zb 9 (.bin .lss) [.t 8,.t 7]] (.seq (.cond (.t 9) .skip (.exit 0)) (.seq (.block 1 (Zg [Za 10 8,Za 5 10] (Zg [Za 11 1,Za 12 0,Za 13 5,Zb 14 (.iaddr Z1) [.t 12,.t 13],Zb 15 (.load Z1) [.t 14],Zb 16 .callv [.t 11,.t 15]] (.cond (.t 16) (Zg [Za 17 5,Za 4 17] .ret) .skip)))) (.reg false [Zb 18 (.bin .add) [.t 8,.int .i64 1],Za 8 18]))))
def x146_0d:List Nat:=[4,5,8]
def x146:XF:=⟨19,[.tmp 4],[0,1,4,5,7,8],(Zg [Zb 4 .mv [.int .i64 0]] (.seq (Zg [Zb 6 .mv [.t 0],Zb 7 (.len false) [.t 6],Zb 8 .mv [.int .i64 0]] (.block 0 (.loop x146_0))) (Zg [Zb 4 .mv [.int .i64 (-1)]] .ret)))⟩
def x147_0:XC:=(Zg [Zb 9 (.bin .lss) [.t 8,.t 7]] (.seq (.cond (.t 9) .skip (.exit 0)) (.seq (.block 1 (Zg [Za 10 8,Za 5 10] (Zg [Za 11 1,Za 12 0,Za 13 5,Zb 14 (.iaddr Z2) [.t 12,.t 13],Zb 15 (.load Z2) [.t 14],Zb 16 .callv [.t 11,.t 15]] (.cond (.t 16) (Zg [Za 17 5,Za 4 17] .ret) .skip)))) (.reg false [Zb 18 (.bin .add) [.t 8,.int .i64 1],Za 8 18]))))
def x147_0d:List Nat:=[4,5,8]
def x147:XF:=⟨19,[.tmp 4],[0,1,4,5,7,8],(Zg [Zb 4 .mv [.int .i64 0]] (.seq (Zg [Zb 6 .mv [.t 0],Zb 7 (.len false) [.t 6],Zb 8 .mv [.int .i64 0]] (.block 0 (.loop x147_0))) (Zg [Zb 4 .mv [.int .i64 (-1)]] .ret)))⟩
def x148_0:XC:=(Zg [Zb 9 (.bin .lss) [.t 8,.t 7]] (.seq (.cond (.t 9) .skip (.exit 0)) (.seq (.block 1 (Zg [Za 10 8,Za 5 10] (Zg [Za 11 1,Za 12 0,Za 13 5,Zb 14 (.iaddr Z2) [.t 12,.t 13],Zb 15 (.load Z2) [.t 14],Zb 16 .callv [.t 11,.t 15]] (.cond (.t 16) (Zg [Za 17 5,Za 4 17] .ret) .skip)))) (.reg false [Zb 18 (.bin .add) [.t 8,.int .i64 1],Za 8 18]))))
def x148_0d:List Nat:=[4,5,8]
def x148:XF:=⟨19,[.tmp 4],[0,1,4,5,7,8],(Zg [Zb 4 .mv [.int .i64 0]] (.seq (Zg [Zb 6 .mv [.t 0],Zb 7 (.len false) [.t 6],Zb 8 .mv [.int .i64 0]] (.block 0 (.loop x148_0))) (Zg [Zb 4 .mv [.int .i64 (-1)]] .ret)))⟩
def x149_0:XC:=(Zg [Zb 9 (.bin .lss) [.t 8,.t 7]] (.seq (.cond (.t 9) .skip (.exit 0)) (.seq (.block 1 (Zg [Za 10 8,Za 5 10] (Zg [Za 11 1,Za 12 0,Za 13 5,Zb 14 (.iaddr Z5) [.t 12,.t 13],Zb 15 (.load Z5) [.t 14],Zb 16 .callv [.t 11,.t 15]] (.cond (.t 16) (Zg [Za 17 5,Za 4 17] .ret) .skip)))) (.reg false [Zb 18 (.bin .add) [.t 8,.int .i64 1],Za 8 18]))))
def x149_0d:List Nat:=[4,5,8]
def x149:XF:=⟨19,[.tmp 4],[0,1,4,5,7,8],(Zg [Zb 4 .mv [.int .i64 0]] (.seq (Zg [Zb 6 .mv [.t 0],Zb 7 (.len false) [.t 6],Zb 8 .mv [.int .i64 0]] (.block 0 (.loop x149_0))) (Zg [Zb 4 .mv [.int .i64 (-1)]] .ret)))⟩
def x151:XF:=⟨18,[.tmp 3],[0,1,2,3],(Zg [Zb 2 (.box 149) [Zc 0],Zb 3 .mv [.bool false]] (.seq (.reg true [Zb 4 (.load Z9) [Zc 1],Zb 5 (.faddr 1 Z1) [Zc 2],Zf 6 (.load Z1) [Zc 5] [1],Zf 7 (.iaddr Z1) [Zc 4,Zc 6] [0,2,1],Zf 8 (.load Z1) [Zc 7] [3,0,2,1],Zb 9 (.load Z9) [Zc 1],Zb 10 (.faddr 0 Z1) [Zc 2],Zf 11 (.load Z1) [Zc 10] [6],Zf 12 (.iaddr Z1) [Zc 9,Zc 11] [5,7,6],Zf 13 (.load Z1) [Zc 12] [8,5,7,6],Zf 14 (.bin .sub) [Zc 8,Zc 13] [4,3,0,2,1,9,8,5,7,6],Zb 15 (.faddr 2 Z1) [Zc 2],Zf 16 (.load Z1) [Zc 15] [11],Zf 17 (.bin .gtr) [Zc 14,Zc 16] [10,4,3,0,2,1,9,8,5,7,6,12,11],Zf 3 .mv [Zc 17] [13,10,4,3,0,2,1,9,8,5,7,6,12,11]]) .ret))⟩
def x152_0:XC:=(Zg [Zb 14 (.bin .lss) [Zc 13,Zc 12]] (.seq (.cond (Zc 14) .skip (.exit 0)) (.seq (.block 1 (Zg [Za 15 13,Zb 16 (.iaddr Z2) [Zc 11,Zc 13],Zd 17 Z2 16,Zb 10 (.alloc 89 Z2) [],Za 9 15,⟨none,.store Z2,[Zc 10,Zc 17],none,[]⟩] (.seq (.seq (.reg true [Za 18 2,Za 19 9,Zf 20 (.iaddr Z2) [Zc 18,Zc 19] [0,1],Zf 21 (.faddr 0 Z1) [Zc 20] [2,0,1],Zf 22 (.load Z1) [Zc 21] [3,2,0,1],Zb 23 (.faddr 1 Z1) [Zc 3],Zf 24 (.load Z1) [Zc 23] [5],Zf 25 (.bin .geq) [Zc 22,Zc 24] [4,3,2,0,1,6,5]]) (.cond (Zc 25) (.reg false [Zb 6 .mv [.int .i64 0]]) .skip)) (.clean (.seq (Zg [Za 26 9,Zb 27 (.bin .gtr) [Zc 26,.int .i64 0]] (.cond (Zc 27) (.reg false [Za 28 7,Za 29 2,Za 30 9,Zb 31 (.iaddr Z2) [Zc 29,Zc 30],Zb 32 (.faddr 1 Z1) [Zc 31],Zd 33 Z1 32,Zb 34 (.bin .add) [Zc 28,Zc 33],Za 7 34]) .skip)) (.clean (Zg [Za 35 6,Zb 36 (.faddr 1 Z1) [Zc 10],Zd 37 Z1 36,Zb 38 (.bin .add) [Zc 35,Zc 37],Za 6 38] (Zg [Za 39 7,Zb 40 (.faddr 1 Z1) [Zc 10],Zd 41 Z1 40,Zb 42 (.bin .add) [Zc 39,Zc 41],Za 7 42] (Zg [Za 43 6,Zb 44 (.faddr 0 Z1) [Zc 3],Zd 45 Z1 44,Zb 46 (.bin .gtr) [Zc 43,Zc 45],Za 47 46,⟨some 48,.mv,[Zc 7],some (4,47,false),[]⟩,⟨some 49,.faddr 2 Z1,[Zc 3],some (4,47,false),[]⟩,⟨some 50,.load Z1,[Zc 49],some (4,47,false),[]⟩,⟨some 51,.bin .gtr,[Zc 48,Zc 50],some (4,47,false),[]⟩,Zb 52 .pick [Zc 47,.bool true,Zc 51]] (.cond (Zc 52) (Zg [Za 53 9,Zb 6 .mv [.int .i64 0],Zb 7 .mv [.int .i64 0],Za 8 53] .ret) .skip)))))))))) (.reg false [Zb 54 (.bin .add) [Zc 13,.int .i64 1],Za 13 54]))))
def x152_0d:List Nat:=[6,7,8,9,10,13]
def x152:XF:=⟨57,[.tmp 6,.tmp 7,.tmp 8],[0,1,2,3,6,7,8,9,10,11,12,13],(Zg [Zb 3 (.box 27) [.t 0],Zb 6 .mv [.int .i64 0],Zb 7 .mv [.int .i64 0],Zb 8 .mv [.int .i64 0]] (.seq (Zg [Za 11 1,Zb 12 (.len false) [.t 11],Zb 13 .mv [.int .i64 0]] (.block 0 (.loop x152_0))) (.clean (Zg [Za 55 6,Za 56 7,Za 6 55,Za 7 56,Zb 8 .mv [.int .i64 (-1)]] .ret))))⟩
def x153:XF:=⟨19,[.tmp 3],[0,1,2,3],(Zg [Zb 2 (.box 113) [Zc 0],Zb 3 .mv [.bool false]] (Zg [Zb 4 (.load Z16) [Zc 2],Zb 5 (.call 154) [Zc 4],Zb 6 .not [Zc 5],Za 7 6,Ze 8 (.faddr 0 Z1) [Zc 2] 3 7 false,Ze 9 (.load Z1) [Zc 8] 3 7 false,Ze 10 (.load Z1) [Zc 1] 3 7 false,Ze 11 (.bin .geq) [Zc 9,Zc 10] 3 7 false,Zb 12 .pick [Zc 7,.bool true,Zc 11],Za 13 12,Ze 14 (.faddr 1 Z1) [Zc 2] 9 13 false,Ze 15 (.load Z1) [Zc 14] 9 13 false,Ze 16 (.load Z1) [Zc 1] 9 13 false,Ze 17 (.bin .geq) [Zc 15,Zc 16] 9 13 false,Zb 18 .pick [Zc 13,.bool true,Zc 17],Za 3 18] .ret))⟩
def x155:XF:=⟨9,[.tmp 4],[0,1,4],(Zg [Zb 4 .mv [.bool false]] (Zg [Za 5 0,Za 6 1,Zb 7 (.call 198) [.t 5,.t 6],Zb 8 (.bin .geq) [.t 7,.int .i64 0],Za 4 8] .ret))⟩
def x156_0:XC:=(Zg [Zb 9 (.bin .lss) [.t 8,.t 7]] (.seq (.cond (.t 9) .skip (.exit 0)) (.seq (.block 1 (Zg [Za 10 8,Za 5 10] (Zg [Za 11 1,Za 12 0,Za 13 5,Zb 14 (.iaddr Z17) [.t 12,.t 13],Zb 15 (.load Z17) [.t 14],Zb 16 .callv [.t 11,.t 15]] (.cond (.t 16) (Zg [Za 17 5,Za 4 17] .ret) .skip)))) (.reg false [Zb 18 (.bin .add) [.t 8,.int .i64 1],Za 8 18]))))
def x156_0d:List Nat:=[4,5,8]
def x156:XF:=⟨19,[.tmp 4],[0,1,4,5,7,8],(Zg [Zb 4 .mv [.int .i64 0]] (.seq (Zg [Zb 6 .mv [.t 0],Zb 7 (.len false) [.t 6],Zb 8 .mv [.int .i64 0]] (.block 0 (.loop x156_0))) (Zg [Zb 4 .mv [.int .i64 (-1)]] .ret)))⟩
def x157_0:XC:=(Zg [Zb 9 (.bin .lss) [.t 8,.t 7]] (.seq (.cond (.t 9) .skip (.exit 0)) (.seq (.block 1 (Zg [Za 10 8,Za 5 10] (Zg [Za 11 1,Za 12 0,Za 13 5,Zb 14 (.iaddr Z6) [.t 12,.t 13],Zb 15 (.load Z6) [.t 14],Zb 16 .callv [.t 11,.t 15]] (.cond (.t 16) (Zg [Za 17 5,Za 4 17] .ret) .skip)))) (.reg false [Zb 18 (.bin .add) [.t 8,.int .i64 1],Za 8 18]))))
def x157_0d:List Nat:=[4,5,8]
def x157:XF:=⟨19,[.tmp 4],[0,1,4,5,7,8],(Zg [Zb 4 .mv [.int .i64 0]] (.seq (Zg [Zb 6 .mv [.t 0],Zb 7 (.len false) [.t 6],Zb 8 .mv [.int .i64 0]] (.block 0 (.loop x157_0))) (Zg [Zb 4 .mv [.int .i64 (-1)]] .ret)))⟩
def x158_0:XC:=(Zg [Zb 9 (.bin .lss) [.t 8,.t 7]] (.seq (.cond (.t 9) .skip (.exit 0)) (.seq (.block 1 (Zg [Za 10 8,Za 5 10] (Zg [Za 11 1,Za 12 0,Za 13 5,Zb 14 (.iaddr Z15) [.t 12,.t 13],Zb 15 (.load Z15) [.t 14],Zb 16 .callv [.t 11,.t 15]] (.cond (.t 16) (Zg [Za 17 5,Za 4 17] .ret) .skip)))) (.reg false [Zb 18 (.bin .add) [.t 8,.int .i64 1],Za 8 18]))))
def x158_0d:List Nat:=[4,5,8]
def x158:XF:=⟨19,[.tmp 4],[0,1,4,5,7,8],(Zg [Zb 4 .mv [.int .i64 0]] (.seq (Zg [Zb 6 .mv [.t 0],Zb 7 (.len false) [.t 6],Zb 8 .mv [.int .i64 0]] (.block 0 (.loop x158_0))) (Zg [Zb 4 .mv [.int .i64 (-1)]] .ret)))⟩
def x159:XF:=⟨14,[.tmp 2],[0,1,2],(Zg [Zb 1 (.box 89) [.t 0],Zb 2 .mv [.bool false]] (Zg [Zb 3 (.faddr 0 Z1) [.t 1],Zb 4 (.load Z1) [.t 3],Zb 5 (.faddr 1 Z1) [.t 1],Zb 6 (.load Z1) [.t 5],Zb 7 (.call 160) [.t 4,.int .i64 0,.t 6],Zb 8 .not [.t 7],Zb 9 .mv [.t 8],⟨some 10,.faddr 1 Z1,[.t 1],some (6,9,false),[]⟩,⟨some 11,.load Z1,[.t 10],some (6,9,false),[]⟩,⟨some 12,.bin .gtr,[.t 11,.int .i64 1048576],some (6,9,false),[]⟩,Zb 13 .pick [.t 9,.bool true,.t 12],Zb 2 .mv [.t 13]] .ret))⟩
def x160:XF:=⟨15,[.tmp 6],[0,1,2,6],(Zg [Zb 6 .mv [.bool false]] (Zg [Za 7 0,Za 8 1,Zb 9 (.bin .geq) [.t 7,.t 8],Za 10 9,⟨some 11,.mv,[.t 0],some (3,10,true),[]⟩,⟨some 12,.mv,[.t 2],some (3,10,true),[]⟩,⟨some 13,.bin .leq,[.t 11,.t 12],some (3,10,true),[]⟩,Zb 14 .pick [.t 10,.t 13,.bool false],Za 6 14] .ret))⟩
def x184_0:XC:=(Zg [Zb 42 (.bin .lss) [Zc 41,Zc 40]] (.seq (.cond (Zc 42) .skip (.exit 0)) (.seq (.block 1 (Zg [Za 43 41,Zb 44 (.iaddr Z16) [Zc 39,Zc 41],Zd 45 Z16 44,Zb 14 (.alloc 113 Z16) [],Za 13 43,⟨none,.store Z16,[Zc 14,Zc 45],none,[]⟩] (.reg true [Zd 46 Z18 12,Zb 47 (.faddr 0 Z1) [Zc 14],Zf 48 (.load Z1) [Zc 47] [1],Zd 49 Z18 12,Zb 50 (.faddr 0 Z1) [Zc 14],Zf 51 (.load Z1) [Zc 50] [4],Zf 52 (.iaddr Z9) [Zc 49,Zc 51] [3,5,4],Zf 53 (.load Z9) [Zc 52] [6,3,5,4],Za 54 13,Zf 55 (.bslice 3 Z1 1 [0]) [Zc 54] [8],Zf 56 (.append 3 Z1 8) [Zc 53,Zc 55] [7,6,3,5,4,9,8],Zf 57 (.iaddr Z9) [Zc 46,Zc 48] [0,2,1,3,4,5,6,7,8,9,10],⟨none,.store Z9,[Zc 57,Zc 56],none,[11,0,2,1,3,4,5,6,7,8,9,10]⟩]))) (.reg false [Zb 58 (.bin .add) [Zc 41,.int .i64 1],Za 41 58]))))
def x184_0d:List Nat:=[13,14,41]
def x184_1:XC:=(Zg [Zf 72 (.bin .lss) [Zc 71,Zc 70] []] (.seq (.cond (Zc 72) .skip (.exit 4)) (.seq (.block 5 (Zg [Zf 73 (.iaddr Z1) [Zc 69,Zc 71] [],Zd 74 Z1 73,Za 18 74] (.icall true [Zd 75 Z19 15,Zd 76 Z20 6,Za 77 18,Zf 78 (.iaddr Z16) [Zc 76,Zc 77] [1,2],Zf 79 (.faddr 1 Z1) [Zc 78] [3,1,2],Zf 80 (.load Z1) [Zc 79] [4,3,1,2],Zd 81 Z20 6,Za 82 18,Zf 83 (.iaddr Z16) [Zc 81,Zc 82] [6,7],Zf 84 (.load Z16) [Zc 83] [8,6,7],Zd 85 Z19 15,Zf 86 .nilck [Zc 85] [10],Zf 87 (.faddr 0 Z3) [Zc 86] [11,10],Zf 88 (.load Z3) [Zc 87] [12,11,10],Za 89 16,Zf 90 (.iaddr Z2) [Zc 88,Zc 89] [13,12,11,10,14],Zf 91 (.faddr 0 Z1) [Zc 90] [15,13,12,11,10,14],Zf 92 (.load Z1) [Zc 91] [16,15,13,12,11,10,14],Zd 93 .bool 9,Zf 94 (.call 221) [Zc 84,Zc 92,Zc 93] [9,8,6,7,17,16,15,13,12,11,10,14,18],Za 95 18] (Zf 96 .callv [.fn 220,Zc 75,Zc 80,Zc 94,Zc 95] [0,5,4,3,1,2,19,9,8,6,7,17,16,15,13,12,11,10,14,18,20]) [] 220 x220.n x220.res x220.kv x220.code))) (.reg false [Zf 97 (.bin .add) [Zc 71,.int .i64 1] [],Za 71 97]))))
def x184_1d:List Nat:=[18,71]
def x184_A:XC:=(.reg false [⟨some 16,.mv,[.t 65],none,[]⟩])
def x184_B:XC:=let i:Ty:=.int .i64;let b:Ty:=.sl i;let a:Ty:=.sl b;let o (d:Nat) (p:XOp) (l:List XA):XO:=⟨some d,p,l,none,[]⟩;(.block 3 (.seq (.reg false [o 66 (.load a) [.t 12],o 67 .mv [.t 16],o 68 (.iaddr b) [.t 66,.t 67],o 69 (.load b) [.t 68],o 70 (.len false) [.t 69],o 71 .mv [.int .i64 0]]) (.clean (.block 4 (.loop x184_1)))))
def x184:XF:=⟨102,[.tmp 10,.tmp 11],[0,1,2,3,4,6,9,10,11,12,13,14,15,16,18,39,40,41,64,69,70,71],(Zg [Zb 6 (.box 22) [Zc 1],Zb 9 (.box 4) [Zc 4],Zb 10 (.nilrow 263 Z2) [],Zb 11 .mv [.int .i64 0]] (.seq (Zg [Za 19 0,Zd 20 Z20 6,Zb 21 (.call 102) [Zc 19,Zc 20],Zb 22 .not [Zc 21],Za 23 22,Ze 24 .mv [Zc 2] 4 23 false,Ze 25 (.bin .lss) [Zc 24,.int .i64 0] 4 23 false,Zb 26 .pick [Zc 23,.bool true,Zc 25],Za 27 26,Ze 28 .mv [Zc 2] 8 27 false,Ze 29 .mv [Zc 0] 8 27 false,Ze 30 (.bin .geq) [Zc 28,Zc 29] 8 27 false,Zb 31 .pick [Zc 27,.bool true,Zc 30],Za 32 31,Ze 33 .mv [Zc 3] 13 32 false,Ze 34 (.call 217) [Zc 33] 13 32 false,Ze 35 .not [Zc 34] 13 32 false,Zb 36 .pick [Zc 32,.bool true,Zc 35]] (.cond (Zc 36) (Zg [Zb 10 (.nilrow 263 Z2) [],Zb 11 .mv [.int .i64 1]] .ret) .skip)) (.clean (Zg [Za 37 0,Zb 38 (.mkarr 31 24) [Zc 37,Zc 37],Zb 12 (.alloc 204 Z18) [],⟨none,.store Z18,[Zc 12,Zc 38],none,[]⟩] (.seq (Zg [Zd 39 Z20 6,Zb 40 (.len false) [Zc 39],Zb 41 .mv [.int .i64 0]] (.block 0 (.top (.loop x184_0)))) (.clean (.seq (.icall false [Za 59 0,Za 60 2,Za 61 3] (Zb 62 .callv [.fn 218,Zc 59,Zc 60,Zc 61,.bool false]) [Zb 15 (.allocz 257 0) [],⟨none,.store Z19,[Zc 15,Zc 62],none,[]⟩] 218 x218.n x218.res x218.kv x218.code) (.seq (Zg [Zd 63 Z19 15,Zb 64 (.mkbnd 219) [Zc 63]] (.block 2 (.rfor (Zc 64) 65 x184_A x184_B 219 62 [0,1,4,5,6,10,11,12] (y219 102 65 [0,1,2,3,4,6,9,10,11,12,13,14,15,16,18,39,40,41,64,69,70,71] x184_A x184_B)))) (.clean (Zg [Zd 98 Z19 15,Zb 99 .nilck [Zc 98],Zb 100 (.faddr 0 Z3) [Zc 99],Zd 101 Z3 100,Za 10 101,Zb 11 .mv [.int .i64 0]] .ret))))))))))⟩
def x185_0:XC:=(.seq (Zg [Za 25 0,Za 26 2,Zb 27 (.iaddr Z2) [Zc 25,Zc 26],Zb 28 (.faddr 1 Z1) [Zc 27],Zd 29 Z1 28,Zb 30 (.bin .neq) [Zc 29,.int .i64 (-1)]] (.cond (Zc 30) .skip (.exit 0))) (.clean (.block 1 (Zg [Za 31 0,Za 32 2,Zb 33 (.iaddr Z2) [Zc 31,Zc 32],Zb 34 (.faddr 1 Z1) [Zc 33],Zd 35 Z1 34,Za 8 35] (.clean (.seq (Zg [Za 36 8,Zb 37 (.bin .lss) [Zc 36,.int .i64 0],Za 38 37,Ze 39 .mv [Zc 8] 2 38 false,Ze 40 .mv [Zc 1] 2 38 false,Ze 41 (.len false) [Zc 40] 2 38 false,Ze 42 (.bin .geq) [Zc 39,Zc 41] 2 38 false,Zb 43 .pick [Zc 38,.bool true,Zc 42],Za 44 43,Ze 45 .mv [Zc 1] 8 44 false,Ze 46 .mv [Zc 8] 8 44 false,Ze 47 (.iaddr Z16) [Zc 45,Zc 46] 8 44 false,Ze 48 (.faddr 1 Z1) [Zc 47] 8 44 false,Ze 49 (.load Z1) [Zc 48] 8 44 false,Ze 50 .mv [Zc 2] 8 44 false,Ze 51 (.bin .neq) [Zc 49,Zc 50] 8 44 false,Zb 52 .pick [Zc 44,.bool true,Zc 51],Za 53 52,Ze 54 .mv [Zc 1] 17 53 false,Ze 55 .mv [Zc 8] 17 53 false,Ze 56 (.iaddr Z16) [Zc 54,Zc 55] 17 53 false,Ze 57 (.faddr 0 Z1) [Zc 56] 17 53 false,Ze 58 (.load Z1) [Zc 57] 17 53 false,Ze 59 (.bin .lss) [Zc 58,.int .i64 0] 17 53 false,Zb 60 .pick [Zc 53,.bool true,Zc 59],Za 61 60,Ze 62 .mv [Zc 1] 25 61 false,Ze 63 .mv [Zc 8] 25 61 false,Ze 64 (.iaddr Z16) [Zc 62,Zc 63] 25 61 false,Ze 65 (.faddr 0 Z1) [Zc 64] 25 61 false,Ze 66 (.load Z1) [Zc 65] 25 61 false,Ze 67 .mv [Zc 0] 25 61 false,Ze 68 (.len false) [Zc 67] 25 61 false,Ze 69 (.bin .geq) [Zc 66,Zc 68] 25 61 false,Zb 70 .pick [Zc 61,.bool true,Zc 69],Za 71 70,Ze 72 .mv [Zc 7] 35 71 false,Ze 73 (.len false) [Zc 72] 35 71 false,Ze 74 .mv [Zc 0] 35 71 false,Ze 75 (.len false) [Zc 74] 35 71 false,Ze 76 (.bin .eql) [Zc 73,Zc 75] 35 71 false,Zb 77 .pick [Zc 71,.bool true,Zc 76]] (.cond (Zc 77) (Zg [Zb 6 (.nilrow 3 Z1) []] .ret) .skip)) (.clean (Zg [Za 78 7,Za 79 8,Zb 80 (.bslice 3 Z1 1 [0]) [Zc 79],Zb 81 (.append 3 Z1 8) [Zc 78,Zc 80],Za 7 81] (.reg false [Za 82 1,Za 83 8,Zb 84 (.iaddr Z16) [Zc 82,Zc 83],Zb 85 (.faddr 0 Z1) [Zc 84],Zd 86 Z1 85,Za 2 86])))))))))
def x185_0d:List Nat:=[2,6,7,8]
def x185:XF:=⟨90,[.tmp 6],[0,1,2,6,7,8],(Zg [Zb 6 (.nilrow 3 Z1) []] (.seq (Zg [Za 9 2,Zb 10 (.bin .lss) [Zc 9,.int .i64 0],Za 11 10,Ze 12 .mv [Zc 2] 2 11 false,Ze 13 .mv [Zc 0] 2 11 false,Ze 14 (.len false) [Zc 13] 2 11 false,Ze 15 (.bin .geq) [Zc 12,Zc 14] 2 11 false,Zb 16 .pick [Zc 11,.bool true,Zc 15],Za 17 16,Ze 18 .mv [Zc 0] 8 17 false,Ze 19 .mv [Zc 2] 8 17 false,Ze 20 (.iaddr Z2) [Zc 18,Zc 19] 8 17 false,Ze 21 (.faddr 0 Z1) [Zc 20] 8 17 false,Ze 22 (.load Z1) [Zc 21] 8 17 false,Ze 23 (.bin .eql) [Zc 22,.int .i64 (-1)] 8 17 false,Zb 24 .pick [Zc 17,.bool true,Zc 23]] (.cond (Zc 24) (Zg [Zb 6 (.nilrow 3 Z1) []] .ret) .skip)) (.clean (Zg [Zb 7 (.nilrow 3 Z1) []] (.seq (.block 0 (.loop x185_0)) (.clean (.seq (.icall false [Za 87 7] (Zb 88 .callv [.fn 222,Zc 87]) [] 222 x222.n x222.res x222.kv x222.code) (Zg [Za 89 7,Za 6 89] .ret))))))))⟩
def x187:XF:=⟨9,[.tmp 2],[0,2],(Zg [Zb 2 .mv [.bool false]] (Zg [Za 3 0,Zb 4 (.bin .lss) [.t 3,.int .i64 0],Za 5 4,⟨some 6,.mv,[.t 0],some (2,5,false),[]⟩,⟨some 7,.bin .gtr,[.t 6,.int .i64 2097152],some (2,5,false),[]⟩,Zb 8 .pick [.t 5,.bool true,.t 7],Za 2 8] .ret))⟩
def x190:XF:=⟨10,[.cell 2 Z5],[0,1,2],(Zg [Zb 1 (.box 117) [.t 0],Zb 2 (.alloc 192 Z5) []] (Zg [Zb 3 (.faddr 7 Z1) [.t 1],Zd 4 Z1 3,Zb 5 (.faddr 8 Z1) [.t 1],Zd 6 Z1 5,Zb 7 (.faddr 9 Z1) [.t 1],Zd 8 Z1 7,Zb 9 (.build Z5 [(0,Z1),(1,Z1),(2,Z1)]) [.t 4,.t 6,.t 8],⟨none,.store Z5,[.t 2,.t 9],none,[]⟩] .ret))⟩
def x191:XF:=⟨9,[.tmp 4],[0,1,3,4],(Zg [Zb 3 (.box 68) [.t 1],Zb 4 .mv [.bool false]] (Zg [Zb 5 .mv [.t 0],Zb 6 (.load Z8) [.t 3],Zb 7 (.call 224) [.t 5,.t 6],Zb 8 (.bin .geq) [.t 7,.int .i64 0],Zb 4 .mv [.t 8]] .ret))⟩
def x194_0:XC:=(.seq (.nxt 10 9 [Zb 11 (.extract 0) [Zc 10]]) (.seq (.cond (Zc 11) .skip (.exit 0)) (.block 1 (Zg [Zb 12 .entry [Zc 9],Zb 13 (.extract 0) [Zc 12],Za 6 13] (Zg [Za 14 1,Za 15 6,Zb 16 (.iaddr Z6) [Zc 14,Zc 15],Zd 17 Z6 16,Zb 18 (.call 190) [Zc 17],Zb 7 (.alloc 192 Z5) [],Zi Z5 7 18] (.clean (Zg [Zb 19 (.faddr 0 Z1) [Zc 5],Zd 20 Z1 19,Zb 21 (.faddr 0 Z1) [Zc 7],Zd 22 Z1 21,Zb 23 (.bin .add) [Zc 20,Zc 22],Zb 24 (.faddr 0 Z1) [Zc 5],Zi Z1 24 23] (.clean (Zg [Zb 25 (.faddr 1 Z1) [Zc 5],Zd 26 Z1 25,Zb 27 (.faddr 1 Z1) [Zc 7],Zd 28 Z1 27,Zb 29 (.bin .add) [Zc 26,Zc 28],Zb 30 (.faddr 1 Z1) [Zc 5],Zi Z1 30 29] (.clean (.reg false [Zb 31 (.faddr 2 Z1) [Zc 5],Zd 32 Z1 31,Zb 33 (.faddr 2 Z1) [Zc 7],Zd 34 Z1 33,Zb 35 (.bin .add) [Zc 32,Zc 34],Zb 36 (.faddr 2 Z1) [Zc 5],Zi Z1 36 35])))))))))))
def x194_0d:List Nat:=[6,7]
def x194:XF:=⟨38,[.cell 4 Z5],[0,1,4,5,6,7,9],(Zg [Zb 4 (.alloc 192 Z5) []] (Zg [Zb 5 (.alloc 192 Z5) []] (.seq (Zg [Zb 8 .mv [.t 0],Zb 9 (.mrange .i64 .bool) [.t 8]] (.block 0 (.loop x194_0))) (Zg [Zb 37 (.load Z5) [.t 5],⟨none,.store Z5,[.t 4,.t 37],none,[]⟩] .ret))))⟩
def x195:XF:=⟨9,[.tmp 2],[0,2],(Zg [Zb 2 .mv [.bool false]] (Zg [Za 3 0,Zb 4 (.bin .leq) [.int .i64 0,.t 3],Za 5 4,⟨some 6,.mv,[.t 0],some (2,5,true),[]⟩,⟨some 7,.bin .leq,[.t 6,.int .i64 60],some (2,5,true),[]⟩,Zb 8 .pick [.t 5,.t 7,.bool false],Za 2 8] .ret))⟩
def x198_0:XC:=(Zg [Zb 9 (.bin .lss) [.t 8,.t 7]] (.seq (.cond (.t 9) .skip (.exit 0)) (.seq (.block 1 (Zg [Za 10 8,Za 5 10] (Zg [Za 11 1,Za 12 0,Za 13 5,Zb 14 (.iaddr Z16) [.t 12,.t 13],Zb 15 (.load Z16) [.t 14],Zb 16 .callv [.t 11,.t 15]] (.cond (.t 16) (Zg [Za 17 5,Za 4 17] .ret) .skip)))) (.reg false [Zb 18 (.bin .add) [.t 8,.int .i64 1],Za 8 18]))))
def x198_0d:List Nat:=[4,5,8]
def x198:XF:=⟨19,[.tmp 4],[0,1,4,5,7,8],(Zg [Zb 4 .mv [.int .i64 0]] (.seq (Zg [Zb 6 .mv [.t 0],Zb 7 (.len false) [.t 6],Zb 8 .mv [.int .i64 0]] (.block 0 (.loop x198_0))) (Zg [Zb 4 .mv [.int .i64 (-1)]] .ret)))⟩
def x217:XF:=⟨9,[.tmp 2],[0,2],(Zg [Zb 2 .mv [.bool false]] (Zg [Za 3 0,Zb 4 (.bin .geq) [.t 3,.int .i64 0],Za 5 4,⟨some 6,.mv,[.t 0],some (2,5,true),[]⟩,⟨some 7,.bin .leq,[.t 6,.int .i64 1048576],some (2,5,true),[]⟩,Zb 8 .pick [.t 5,.t 7,.bool false],Za 2 8] .ret))⟩
def x224_0:XC:=(Zg [Zf 9 (.bin .lss) [.t 8,.t 7] []] (.seq (.cond (.t 9) .skip (.exit 0)) (.seq (.block 1 (Zg [Za 10 8,Za 5 10] (.seq (.reg true [Zf 11 (.load Z8) [.t 3] [],Za 12 0,Za 13 5,Zf 14 (.iaddr Z8) [.t 12,.t 13] [1,2],Zf 15 (.load Z8) [.t 14] [3,1,2],Zf 16 (.steq false Z8) [.t 11,.t 15] [0,4,3,1,2]]) (.cond (.t 16) (Zg [Za 17 5,Za 4 17] .ret) .skip)))) (.reg false [Zf 18 (.bin .add) [.t 8,.int .i64 1] [],Za 8 18]))))
def x224_0d:List Nat:=[4,5,8]
def x224:XF:=⟨19,[.tmp 4],[0,1,3,4,5,7,8],(Zg [Zb 3 (.box 68) [.t 1],Zb 4 .mv [.int .i64 0]] (.seq (Zg [Zb 6 .mv [.t 0],Zb 7 (.len false) [.t 6],Zb 8 .mv [.int .i64 0]] (.block 0 (.loop x224_0))) (Zg [Zb 4 .mv [.int .i64 (-1)]] .ret)))⟩
def x233_0:XC:=(.seq (Zg [Za 34 8,Za 35 7,Zf 36 (.len false) [.t 35] [],Zf 37 (.bin .lss) [.t 34,.t 36] []] (.cond (.t 37) .skip (.exit 0))) (.block 1 (.reg true [Za 38 8,Za 39 7,Za 40 8,Zf 41 (.slice Z2 true false true) [.t 39,.t 40] [1,2],Za 42 7,Za 43 8,Zf 44 (.slice Z2 false true true) [.t 42,.t 43] [4,5],Zf 45 (.copy 263 Z2) [.t 41,.t 44] [3,1,2,6,4,5],Zf 46 (.bin .add) [.t 38,.t 45] [0,7,3,1,2,6,4,5],Zf 8 .mv [.t 46] [8,0,7,3,1,2,6,4,5]])))
def x233_0d:List Nat:=[8]
def x233:XF:=⟨48,[.tmp 4],[0,1,4,5,6,7,8],(Zg [Zb 4 (.nilrow 263 Z2) []] (.seq (Zg [Za 9 1,Zb 10 (.bin .lss) [Zc 9,.int .i64 0]] (.cond (Zc 10) .dead  .skip)) (Zg [Za 13 0,Zb 14 (.len false) [Zc 13],Zb 15 (.conv .u64) [Zc 14],Za 16 1,Zb 17 (.conv .u64) [Zc 16],Zb 18 (.call 240) [Zc 15,Zc 17],Za 12 18,Zb 19 (.extract 0) [Zc 12],Zb 20 (.extract 1) [Zc 12],Za 5 19,Za 6 20] (.clean (.seq (Zg [Za 21 5,Zb 22 (.bin .gtr) [Zc 21,.int .u64 0],Za 23 22,⟨some 24,.mv,[Zc 6],some (2,23,false),[]⟩,⟨some 25,.bin .gtr,[Zc 24,.int .u64 9223372036854775807],some (2,23,false),[]⟩,Zb 26 .pick [Zc 23,.bool true,Zc 25]] (.cond (Zc 26) .dead  .skip)) (.clean (Zg [Za 28 6,Zb 29 (.conv .i64) [Zc 28],Zb 30 (.mkslice 263 Z2 16) [Zc 29,Zc 29],Za 7 30] (Zg [Za 31 7,Za 32 0,Zb 33 (.copy 263 Z2) [Zc 31,Zc 32],Za 8 33] (.seq (.block 0 (.loop x233_0)) (Zg [Za 47 7,Za 4 47] .ret))))))))))⟩
def x234:XF:=⟨19,[.tmp 6],[0,1,2,6],(Zg [Zb 6 .mv [.bool false]] (.seq (Zg [Za 7 2,Zb 8 (.bin .lss) [.t 7,.int .i64 0]] (.cond (.t 8) (Zg [Zb 6 .mv [.bool true]] .ret) .skip)) (.seq (Zg [Za 9 0,Zb 10 .nilck [.t 9],Zb 11 (.faddr 2 .bool) [.t 10],Zb 12 (.load .bool) [.t 11]] (.cond (.t 12) (Zg [Za 13 1,Za 14 2,Zb 15 (.bin .gtr) [.t 13,.t 14],Za 6 15] .ret) .skip)) (.clean (Zg [Za 16 1,Za 17 2,Zb 18 (.bin .lss) [.t 16,.t 17],Za 6 18] .ret)))))⟩
def x240:XF:=⟨30,[.tmp 4,.tmp 5],[0,1,4,5,6,7,8,9],(Zg [Zb 4 .mv [.int .u64 0],Zb 5 .mv [.int .u64 0]] (.seq (.cond (.bool false) (Zg [Za 11 0,Zb 12 (.conv .u32) [.t 11],Za 13 1,Zb 14 (.conv .u32) [.t 13],Zb 15 (.call 243) [.t 12,.t 14],Za 10 15,Zb 16 (.extract 0) [.t 10],Zb 17 (.extract 1) [.t 10],Za 6 16,Za 7 17] (.clean (Zg [Za 18 6,Zb 19 (.conv .u64) [.t 18],Za 20 7,Zb 21 (.conv .u64) [.t 20],Za 4 19,Za 5 21] .ret))) .skip) (.clean (Zg [Za 23 0,Za 24 1,Zb 25 (.call 244) [.t 23,.t 24],Za 22 25,Zb 26 (.extract 0) [.t 22],Zb 27 (.extract 1) [.t 22],Za 8 26,Za 9 27] (.clean (Zg [Za 28 8,Za 29 9,Za 4 28,Za 5 29] .ret))))))⟩
def x244:XF:=⟨51,[.tmp 4,.tmp 5],[0,1,4,5,6,7,8,9,10,11,12,13],(Zg [Zb 4 .mv [.int .u64 0],Zb 5 .mv [.int .u64 0]] (Zg [Za 14 0,Zb 15 (.bin .and) [Zc 14,.int .u64 4294967295],Za 6 15] (Zg [Za 16 0,Zb 17 (.bin .shr) [Zc 16,.int .u64 32],Za 7 17] (Zg [Za 18 1,Zb 19 (.bin .and) [Zc 18,.int .u64 4294967295],Za 8 19] (Zg [Za 20 1,Zb 21 (.bin .shr) [Zc 20,.int .u64 32],Za 9 21] (Zg [Za 22 6,Za 23 8,Zb 24 (.bin .mul) [Zc 22,Zc 23],Za 10 24] (Zg [Za 25 7,Za 26 8,Zb 27 (.bin .mul) [Zc 25,Zc 26],Za 28 10,Zb 29 (.bin .shr) [Zc 28,.int .u64 32],Zb 30 (.bin .add) [Zc 27,Zc 29],Za 11 30] (.clean (Zg [Za 31 11,Zb 32 (.bin .and) [Zc 31,.int .u64 4294967295],Za 12 32] (Zg [Za 33 11,Zb 34 (.bin .shr) [Zc 33,.int .u64 32],Za 13 34] (Zg [Za 35 12,Za 36 6,Za 37 9,Zb 38 (.bin .mul) [Zc 36,Zc 37],Zb 39 (.bin .add) [Zc 35,Zc 38],Za 12 39] (.clean (Zg [Za 40 7,Za 41 9,Zb 42 (.bin .mul) [Zc 40,Zc 41],Za 43 13,Zb 44 (.bin .add) [Zc 42,Zc 43],Za 45 12,Zb 46 (.bin .shr) [Zc 45,.int .u64 32],Zb 47 (.bin .add) [Zc 44,Zc 46],Za 4 47] (.clean (Zg [Za 48 0,Za 49 1,Zb 50 (.bin .mul) [Zc 48,Zc 49],Za 5 50] .ret)))))))))))))))⟩
end T
end Go.Proofs.YtpocfbfmjippnaaGreat
end
section
namespace Go.Proofs.YtpocfbfmjippnaaGreat
open Go.RowKit
namespace T
abbrev DArc:=Int×Int×List Int×List Int
@[reducible] def toArc (x:DArc):Arc:=⟨x.1,x.2.1,x.2.2.1,x.2.2.2⟩
section
variable {P:Program} {w:World} {M:Nat→Prop}
theorem ints_is {d:List Int} {cs:List Value} (q:Rd P (.sl (.int .i64)) w M d cs):∃A n c,cs=[.slice A n c]∧IsInts w A n d:=by
 obtain ⟨A,n,c,e,h1,h2,h3,h4⟩:=q;refine ⟨A,n,c,e,h1,by simp only[maxLen] at h3;omega,?_⟩;rcases h4 with h4|⟨b,off,cc,rfl,hb,_,hc,hr⟩
 ·exact .inl h4
 ·refine .inr ⟨b,off,rfl,hb,fun i hi=>?_⟩;have hi':i<d.length:=by omega
  obtain ⟨c1,c0,c2,rfl,r1,r2,_⟩:=hr.at hi';have hl:c1.length=i:=by rw[RowsBy.len (n:=1) (fun _ _ q=>q.len) r1,List.length_take,Nat.min_eq_left (by omega)];omega
  obtain rfl:=r2.1;have:=hc.left.right 0 _ rfl;rw[hl] at this;rw[List.getD_eq_getElem?_getD,List.getElem?_eq_getElem hi'];simpa using this
theorem arc_is {x:DArc} {v:Value} (q:RdV P (.st (.cons (.int .i64) (.cons (.int .i64) (.cons (.sl (.int .i64)) (.sl (.int .i64)))))) w M x v):IsArc w v (toArc x)∧(IntKind.i64.min≤x.1∧x.1≤IntKind.i64.max)∧IntKind.i64.min≤x.2.1∧x.2.1≤IntKind.i64.max:=by
 obtain ⟨hs,c1,c2,e,⟨rfl,r1⟩,c3,c4,rfl,⟨rfl,r2⟩,c5,c6,rfl,q3,q4⟩:=q;obtain ⟨cs,rfl⟩:=hs.2 rfl;obtain ⟨A,n,c,rfl,h3⟩:=ints_is q3;obtain ⟨A',n',c',rfl,h4⟩:=ints_is q4;refine ⟨⟨A,n,c,A',n',c',?_,h3,h4⟩,r1,r2⟩;congr 1;apply Array.ext';simpa [Value.cells,toArc] using e
theorem small_i64 {x:Int} (h:-9223372036854775808≤x∧x≤9223372036854775807):IntKind.i64.min≤x∧x≤IntKind.i64.max:=h
end
def entClockRight:Ent:=⟨154,.cons Z16 .nil,.bool,false,none,fun _=>True,fun x=>(toArc x.1).rightB⟩
theorem conClockRight:Con Tryz.prog entClockRight:=by
 refine ⟨by kernel_rfl,?_⟩;rintro ⟨x,_⟩ _ w M vs hM ⟨v,_,rfl,q,rfl⟩;refine (Clock.right_any (arc_is q).1).mono ?_;rintro e w' ⟨rfl,hb⟩;exact ⟨_,rfl,hb,bool_avr (hp:=fun _=>none) (ψ:=fun _=>undef)⟩
theorem passF_range (a:Arc) (hi:Bool) (t:Int):IntKind.i64.min≤a.passF hi t∧a.passF hi t≤IntKind.i64.max:=by
 unfold Arc.passF;split
 ·rename_i h;obtain ⟨⟨h1,h2⟩,h3⟩:=Arc.validB_true h;have:=a.pass_bd h3 hi h2;have:=a.tk_bd h3 hi t;exact small_i64 (by omega)
 ·exact small_i64 (by omega)
def entPass:Ent:=⟨221,.cons Z16 (.cons Z1 (.cons .bool .nil)),(.int .i64),false,none,fun _=>True,fun x=>(toArc x.1).passF x.2.2.1 x.2.1⟩
theorem conPass:Con Tryz.prog entPass:=by
 refine ⟨by kernel_rfl,?_⟩;rintro ⟨x,t,hi,_⟩ _ w M vs hM ⟨v,_,rfl,q,v1,_,rfl,q1,v2,_,rfl,q2,rfl⟩;obtain ⟨rfl,_⟩:=avr_int (hp:=fun _=>none) (ψ:=fun _=>undef) q1;obtain rfl:=avr_bool (hp:=fun _=>none) (ψ:=fun _=>undef) q2;refine (Clock.pass_any (arc_is q).1 t hi).mono ?_;rintro e w' ⟨rfl,hb⟩;exact ⟨_,rfl,hb,int_avr (hp:=fun _=>none) (ψ:=fun _=>undef) (passF_range _ _ _)⟩
end T
end Go.Proofs.YtpocfbfmjippnaaGreat
end
section
namespace Go.Proofs.YtpocfbfmjippnaaGreat
open Go.RowKit
namespace T
section
variable {P:Program} {B:Nat} {M M':Nat→Prop} {hp hp':Hp} {ψ ψ':Nat→Value} {w:World} {n:Nat} {st:AS} {w0:Fix} {a:Act}
theorem OBR.move {Mw Mw':Nat→Prop} {fr l:Nat} {ob:OB} (h:OBR P B hp ψ w Mw l ob) (hl:Later w Mw w Mw') (hψ:∀l,l≠fr→ψ' l=ψ l) (hk:∀l ob',l≠fr→hp' l=some ob'→∃ob,hp l=some ob∧ob.like ob') (hlf:l≠fr) (hf:fr∉ob.locs):OBR P B hp' ψ' w Mw' l ob:=by
 cases ob with
 |box T cs=>
  obtain ⟨b,cells,e,hB,hg,q,q1⟩:=h;exact ⟨b,cells,by rw[hψ l hlf];exact e,hB,hg,AVRs.later hl hψ hk hf q,q1⟩
 |row e ty xs=>
  obtain ⟨cells,h1,h2⟩:=h;exact ⟨cells,by rw[hψ l hlf];exact h1,h2.mono fun x _ c q=>q.later hl⟩
 |mp k ty xs=>
  obtain ⟨b,es,clock,e,q⟩:=h;exact ⟨b,es,clock,by rw[hψ l hlf];exact e,q⟩
 |lp bs r=>
  obtain ⟨b,e,q⟩:=h;exact ⟨b,by rw[hψ l hlf];exact e,q⟩
 |it k ty left cur=>
  obtain ⟨b,e,hB,q⟩:=h;exact ⟨b,by rw[hψ l hlf];exact e,hB,q.later hl rfl⟩
theorem Sim.move (s:Sim P B M n st ψ w0 a w) {h2:List (Nat×OB)} {nx' fr:Nat} (hfr:fr=st.nx) (hnx:st.nx≤nx') (hsub:∀b,Mu M' (look h2) ψ' b→Mu M (look st.hp) ψ b) (hψ:∀l,l≠fr→ψ' l=ψ l) (hk:∀l ob',l≠fr→look h2 l=some ob'→look st.hp l=some ob')
  (hfo:∀ob,look h2 fr=some ob→fr<nx'∧(∀k∈ob.locs,k<nx')∧OBR P B (look h2) ψ' w (Mu M' (look h2) ψ') fr ob) (hdj:∀l ob b,l≠fr→look st.hp l=some ob→look h2 l=some ob→blk (ψ l)=some b→∀ob',look h2 fr=some ob'→blk (ψ' fr)≠some b)
  (hmb:∀b,M' b→b<w.heap.size) (hmd:∀l ob b,look h2 l=some ob→blk (ψ' l)=some b→¬M' b):Sim P B M' n ⟨st.tm,h2,nx',st.kv⟩ ψ' ⟨w,w0.vs,w0.dm,w0.ms⟩ a w:=by
 subst hfr
 have hbd:∀b,Mu M' (look h2) ψ' b→b<w.heap.size:=fun b q=>s.hok.mu b (hsub b q)
 have hl:Later w (Mu M (look st.hp) ψ) w (Mu M' (look h2) ψ'):=⟨Nat.le_refl _,fun _ _ _=>rfl,fun b _ q=>hsub b q,hbd⟩
 have hk':∀l ob',l≠st.nx→look h2 l=some ob'→∃ob,look st.hp l=some ob∧ob.like ob':=fun l ob' h1 h2=>⟨ob',hk l ob' h1 h2,like_refl _⟩
 have hfresh:∀l ob,look st.hp l=some ob→st.nx∉ob.locs:=fun l ob q hm=>Nat.lt_irrefl _ ((s.hlt l ob q).2 _ hm)
 have av:∀{av:AV} {v:Value},st.nx∉av.locs→AVR P (look st.hp) ψ w (Mu M (look st.hp) ψ) av v→AVR P (look h2) ψ' w (Mu M' (look h2) ψ') av v:=fun hf q=>AVR.later hl hψ hk' hf q
 refine ⟨⟨fun l ob q=>?_,fun l l' ob ob' b q1 q2 q3 q4=>?_,hmb,hmd,s.hok.bz⟩,fun t=>av (fun hm=>Nat.lt_irrefl _ (s.lt t _ hm)) (s.av t),s.size,⟨s.defers.1,s.defers.2.map fun u q=>av (by simp[AV.locs]) q⟩,fun t l q=>Nat.lt_of_lt_of_le (s.lt t l q) hnx,fun l ob q=>?_,Stay.refl⟩
 ·by_cases e:l=st.nx
  ·subst e;exact (hfo ob q).2.2
  ·have q0:=hk l ob e q
   exact (s.hok.ob l ob q0).move hl hψ hk' e (hfresh l ob q0)
 ·by_cases e:l=st.nx
  ·by_cases e':l'=st.nx
   ·rw[e,e']
   ·exfalso
    subst e
    rw[hψ l' e'] at q4
    exact hdj l' ob' b e' (hk l' ob' e' q2) q2 q4 ob q1 q3
  ·by_cases e':l'=st.nx
   ·exfalso
    subst e'
    rw[hψ l e] at q3
    exact hdj l ob b e (hk l ob e q1) q1 q3 ob' q2 q4
   ·rw[hψ l e] at q3
    rw[hψ l' e'] at q4
    exact s.hok.dj l l' ob ob' b (hk l ob e q1) (hk l' ob' e' q2) q3 q4
 ·by_cases e:l=st.nx
  ·subst e;exact ⟨(hfo ob q).1,(hfo ob q).2.1⟩
  ·have:=s.hlt l ob (hk l ob e q)
   exact ⟨Nat.lt_of_lt_of_le this.1 hnx,fun k hk=>Nat.lt_of_lt_of_le (this.2 k hk) hnx⟩
theorem look_cons {l:Nat} {ob:OB} {h:List (Nat×OB)}:look ((l,ob)::h)=putHp (look h) l ob:=by
 funext x;simp only[look,putHp]
theorem Sim.adopt (s:Sim P B M n st ψ w0 a w) {ob:OB} {u:Value} (hu:∀b,blk u=some b→M b∧B≤b) (hlocs:∀k∈ob.locs,k<st.nx+1)
  (hob:OBR P B (putHp (look st.hp) st.nx ob) (upd' ψ st.nx u) w (Mu M (look st.hp) ψ) st.nx ob):Sim P B (fun x=>M x∧blk u≠some x) n ⟨st.tm,(st.nx,ob)::st.hp,st.nx+1,st.kv⟩ (upd' ψ st.nx u) ⟨w,w0.vs,w0.dm,w0.ms⟩ a w:=by
 have hnew:look st.hp st.nx=none:=(sim_ctx s).new
 have hmu:Mu (fun x=>M x∧blk u≠some x) (look ((st.nx,ob)::st.hp)) (upd' ψ st.nx u)=Mu M (look st.hp) ψ:=by
  funext x;apply propext;rw[look_cons];constructor
  ·rintro (q|⟨l,ob',h1,h2⟩)
   ·exact .inl q.1
   ·by_cases e:l=st.nx
    ·subst e;rw[upd'_same] at h2;exact .inl (hu x h2).1
    ·rw[putHp_other _ _ e] at h1;rw[upd'_other _ _ e] at h2;exact .inr ⟨l,ob',h1,h2⟩
  ·rintro (q|⟨l,ob',h1,h2⟩)
   ·by_cases c:blk u=some x
    ·exact .inr ⟨st.nx,ob,by simp,by rw[upd'_same];exact c⟩
    ·exact .inl ⟨q,c⟩
   ·have e:l≠st.nx:=fun e=>by rw[e,hnew] at h1;cases h1
    exact .inr ⟨l,ob',by rw[putHp_other _ _ e];exact h1,by rw[upd'_other _ _ e];exact h2⟩
 refine s.move rfl (Nat.le_succ _) (fun b q=>by rw[hmu] at q;exact q) (fun l e=>upd'_other _ _ e) (fun l ob' e q=>by rw[look_cons,putHp_other _ _ e] at q;exact q) (fun ob' q=>?_) (fun l ob' b e h1 _ h3 ob2 _ h4=>?_) (fun b q=>s.hok.mb b q.1) (fun l ob' b q1 q2 q3=>?_)
 ·rw[look_cons,putHp_same] at q
  injection q with q;subst q
  refine ⟨Nat.lt_succ_self _,hlocs,?_⟩
  rw[hmu,look_cons];exact hob
 ·rw[upd'_same] at h4
  exact s.hok.md l ob' b h1 h3 (hu b h4).1
 ·by_cases e:l=st.nx
  ·subst e;rw[upd'_same] at q2;exact q3.2 q2
  ·rw[look_cons,putHp_other _ _ e] at q1
   rw[upd'_other _ _ e] at q2
   exact s.hok.md l ob' b q1 q2 q3.1
theorem Sim.release (s:Sim P B M n st ψ w0 a w) {l:Nat} {ob:OB} (hl:look st.hp l=some ob):Sim P B (fun x=>M x∨blk (ψ l)=some x) n ⟨st.tm,killL st.hp [l],st.nx,st.kv⟩ ψ ⟨w,w0.vs,w0.dm,w0.ms⟩ a w:=by
 have hnew:look st.hp st.nx=none:=(sim_ctx s).new;have hin:∀l' ob',look (killL st.hp [l]) l'=some ob'→l'≠l∧look st.hp l'=some ob':=fun l' ob' q=>by
  rw[look_kill] at q;obtain ⟨h1,h2⟩:=kill_some q;exact ⟨fun e=>h1 (by simp[e]),h2⟩
 refine s.move rfl (Nat.le_refl _) (fun b q=>?_) (fun _ _=>rfl) (fun l' ob' _ q=>(hin l' ob' q).2) (fun ob' q=>?_) (fun l' ob' b _ _ _ _ ob2 q _=>?_) (fun b q=>?_) (fun l' ob' b q1 q2 q3=>?_)
 ·rcases q with (q|q)|⟨l',ob',h1,h2⟩
  ·exact .inl q
  ·exact .inr ⟨l,ob,hl,q⟩
  ·exact .inr ⟨l',ob',(hin l' ob' h1).2,h2⟩
 ·rw[(hin _ _ q).2] at hnew;cases hnew
 ·rw[(hin _ _ q).2] at hnew;cases hnew
 ·rcases q with q|q
  ·exact s.hok.mb b q
  ·exact ((s.hok.ob l ob hl).bk q).2
 ·obtain ⟨h1,h2⟩:=hin l' ob' q1;rcases q3 with q3|q3
  ·exact s.hok.md l' ob' b h2 q2 q3
  ·exact h1 (s.hok.dj l' l ob' ob b h2 hl q2 q3)
theorem Sim.fewer (s:Sim P B M n st ψ w0 a w) (h:∀b,M' b→M b):Sim P B M' n st ψ ⟨w,w0.vs,w0.dm,w0.ms⟩ a w:=by
 have hnew:look st.hp st.nx=none:=(sim_ctx s).new;exact s.move (h2:=st.hp) (nx':=st.nx) rfl (Nat.le_refl _) (fun b q=>by
  rcases q with q|q
  ·exact .inl (h b q)
  ·exact .inr q) (fun _ _=>rfl) (fun _ _ _ q=>q) (fun ob q=>by rw[hnew] at q;cases q) (fun _ _ _ _ _ _ _ ob q=>by rw[hnew] at q;cases q) (fun b q=>s.hok.mb b (h b q)) (fun l ob b q1 q2 q3=>s.hok.md l ob b q1 q2 (h b q3))
theorem Sim.base {w1:World} (s:Sim P B M n st ψ ⟨w1,w0.vs,w0.dm,w0.ms⟩ a w) (h:Stay B M w0.w w1):Sim P B M n st ψ w0 a w:=⟨s.hok,s.av,s.size,s.defers,s.lt,s.hlt,h.trans s.bel⟩
theorem Sim.slot (s:Sim P B M n st ψ w0 a w) {t:Nat} {av:AV} (h:AVR P (look st.hp) ψ w (Mu M (look st.hp) ψ) av (sval w0 n a t)) (hl:∀l∈av.locs,l<st.nx):Sim P B M n ⟨(t,av)::st.tm,st.hp,st.nx,st.kv⟩ ψ w0 a w:=by
 refine ⟨s.hok,fun t'=>?_,s.size,s.defers,fun t' l q=>?_,s.hlt,s.bel⟩
 ·show AVR P _ ψ w _ (if t'=t then av else tmG st.tm t') _;split
  ·rename_i e;subst e;exact h
  ·exact s.av t'
 ·have q':l∈(if t'=t then av else tmG st.tm t').locs:=q;split at q'
  ·exact hl l q'
  ·exact s.lt t' l q'
theorem Sim.only (s:Sim P B M n st ψ w0 a w) (ks:List Nat):Sim P B M n ⟨ks.map fun k=>(k,tmG st.tm k),st.hp,st.nx,st.kv⟩ ψ w0 a w:=by
 refine ⟨s.hok,fun t=>?_,s.size,s.defers,fun t l q=>?_,s.hlt,s.bel⟩
 ·show AVR P _ ψ w _ (tmG (ks.map fun k=>(k,tmG st.tm k)) t) _;rw[tmG_map (fun k=>tmG st.tm k)];split
  ·exact s.av t
  ·exact trivial
 ·have q':l∈(tmG (ks.map fun k=>(k,tmG st.tm k)) t).locs:=q;rw[tmG_map (fun k=>tmG st.tm k)] at q';split at q'
  ·exact s.lt t l q'
  ·cases q'
theorem XW_top {P:Program} {C:List Ent} {n:Nat} {c:XC} {Q:XQ} {st:AS} (h:XW P C n c Q st):XW P C n (.top c) Q st:=by
 intro code hc hC B M w0 ψ a w s ro hR;exact h code (by unfold codeChk at hc;exact hc) hC B M w0 ψ a w s ro hR
theorem AVRs.put {P:Program} {hp:Hp} {ψ:Nat→Value} {w:World} {M:Nat→Prop} {av:AV} {v:Value}:∀{avs:List AV} {vs:List Value} {u:Nat},AVRs P hp ψ w M avs vs→vs[u]?=some v→AVR P hp ψ w M av v→AVRs P hp ψ w M (avs.set u av) vs
 |[],_,_,h,_,_=>h
 |x::r,_,0,⟨v',vs,e,h1,h2⟩,hv,h=>by
  subst e;simp only[List.getElem?_cons_zero,Option.some.injEq] at hv;subst hv;exact ⟨_,vs,rfl,h,h2⟩
 |x::r,_,u+1,⟨v',vs,e,h1,h2⟩,hv,h=>by
  subst e;simp only[List.getElem?_cons_succ] at hv;exact ⟨v',vs,rfl,h1,AVRs.put h2 hv h⟩
theorem XW_frz {P:Program} {C:List Ent} {n:Nat} {c:XC} {Q:XQ} {st:AS} (z l:Nat) {e:TypeId} {t:Ty} {xs:List t.den} (h1:tmG st.tm z= .own l) (h2:look st.hp l=some (.row e t xs))
  (h:XW P C n c Q ⟨(z,.val (.sl t) xs)::st.tm,killL st.hp [l],st.nx,st.kv⟩):XW P C n c Q st:=by
 intro code hc hC B M w0 ψ a w s ro hR
 have s3:Sim P B M n ⟨st.tm,killL st.hp [l],st.nx,st.kv⟩ ψ w0 a w:=Sim.base (w1:=w) ((s.release h2).fewer (M':=M) (fun b h=>.inl h)) s.bel
 refine h code hc hC B M w0 ψ a w (s3.slot (t:=z) (av:=.val (.sl t) xs) ?_ (fun l q=>absurd q (by simp[AV.locs]))) ro hR
 have hv:=s.av z
 rw[h1] at hv
 have e1:sval w0 n a z=ψ l:=hv _ h2
 rw[e1]
 show RdV P (.sl t) w (Mu M (look (killL st.hp [l])) ψ) xs (ψ l)
 rw[look_kill]
 exact rd_own s.hok h2 (by simp)
end
section
variable {P:Program} {B:Nat} {n:Nat} {C:List Ent}
structure RowsAt (B:Nat) (M M':Nat→Prop) (w:World) (T1 T0 et:TypeId) (n0 b1 b2 c:Nat) (vs:List Value) (D:List (List Int)):Prop where
 h1:w.heap[b1]?=some (.cells #[.slice (some ⟨b2,0,none⟩) n0 c] T1 (0,0))
 h2:w.heap[b2]?=some (.cells vs.toArray T0 (0,0))
 len:vs.length=n0
 lenD:D.length=n0
 cap:n0≤c∧c≤maxLen
 o1:B≤b1
 o2:B≤b2
 ne:b1≠b2
 m:∀b,M' b↔M b∨b=b1∨b=b2∨∃v∈vs,blk v=some b
 m1:¬M b1
 m2:¬M b2
 rm:∀v∈vs,∀b,blk v=some b→¬M b∧b≠b1∧b≠b2
 dj:∀(u u':Nat) (v v':Value) (b:Nat),vs[u]?=some v→vs[u']?=some v'→blk v=some b→blk v'=some b→u=u'
 row:∀(u:Nat) (v:Value),vs[u]?=some v→∃zs,w.ownsRow B et 1 v (D.getD u []).length zs∧RowsBy (fun (x:Int) c=>Rd P (.int .i64) w M x c) (D.getD u []) zs
 one:∀v∈vs,v.oneCell'=true
theorem rd_int {w w':World} {M M':Nat→Prop} {x:Int} {c:List Value} (h:Rd P (.int .i64) w M x c):Rd P (.int .i64) w' M' x c:=h
theorem ownsRow_at {w w':World} {e:TypeId} {s:Nat} {v:Value} {k:Nat} {zs:List Value} (h:w.ownsRow B e s v k zs) (hb:∀b,blk v=some b→w'.heap[b]?=w.heap[b]?):w'.ownsRow B e s v k zs:=by
 refine ⟨h.1,?_⟩;rcases h.2 with q|⟨g,cap,cur,q1,q2,q3,q4⟩
 ·exact .inl q
 ·exact .inr ⟨g,cap,cur,q1,q2,by rw[hb g (by rw[q1];rfl)];exact q3,q4⟩
theorem RowsAt.stay {M M':Nat→Prop} {w w':World} {T1 T0 et:TypeId} {n0 b1 b2 c:Nat} {vs:List Value} {D:List (List Int)} (r:RowsAt (P:=P) B M M' w T1 T0 et n0 b1 b2 c vs D) (h:∀b,M' b→w'.heap[b]?=w.heap[b]?):RowsAt (P:=P) B M M' w' T1 T0 et n0 b1 b2 c vs D:=
 { r with
  h1:=by rw[h b1 ((r.m b1).2 (.inr (.inl rfl)))];exact r.h1
  h2:=by rw[h b2 ((r.m b2).2 (.inr (.inr (.inl rfl))))];exact r.h2
  row:=fun u v hv=>by
   obtain ⟨zs,q1,q2⟩:=r.row u v hv;refine ⟨zs,ownsRow_at q1 fun b hb=>h b ((r.m b).2 (.inr (.inr (.inr ⟨v,List.mem_of_getElem? hv,hb⟩)))),q2.mono fun x _ c q=>rd_int q⟩ }
theorem RowsAt.data {M M':Nat→Prop} {Mu:Nat→Prop} {w:World} {T1 T0 et:TypeId} {n0 b1 b2 c:Nat} {vs:List Value} {D:List (List Int)} (r:RowsAt (P:=P) B M M' w T1 T0 et n0 b1 b2 c vs D) (hmu:∀b,M' b→¬M b→¬Mu b):RdV P (.ptr (.sl (.sl (.int .i64)))) w Mu D (.pointer (some ⟨b1,0,none⟩)):=by
 have n1:¬Mu b1:=hmu b1 ((r.m b1).2 (.inr (.inl rfl))) r.m1;have n2:¬Mu b2:=hmu b2 ((r.m b2).2 (.inr (.inr (.inl rfl)))) r.m2;have cell:∀{b:Nat} {cs:Array Value} {T:TypeId},w.heap[b]?=some (.cells cs T (0,0))→CellsAt w b 0 cs.toList:=by
  intro b cs T hb j v hj;rw[Nat.zero_add];simp only[World.cell?,hb];simpa using hj
 have rows:∀(us:List Value) (E:List (List Int)),us.length=E.length→(∀(u:Nat) (v:Value),us[u]?=some v→v∈vs∧∃zs,w.ownsRow B et 1 v (E.getD u []).length zs∧RowsBy (fun (x:Int) c=>Rd P (.int .i64) w M x c) (E.getD u []) zs)→RowsBy (fun (x:List Int) c=>Rd P Z9 w Mu x c) E us:=by
  intro us;induction us with
  |nil=>intro E hl _;cases E with
   |nil=>rfl
   |cons _ _=>cases hl
  |cons v us ih=>
   intro E hl h;cases E with
   |nil=>cases hl
   |cons x E=>
    refine ⟨[v],us,rfl,?_,ih E (by simpa using hl) fun u v' hv=>?_⟩
    ·obtain ⟨hv,zs,q1,q2⟩:=h 0 v rfl;simp only[List.getD_cons_zero] at q1 q2;rcases q1.2 with ⟨rfl,q⟩|⟨g,cp,cur,rfl,k1,k2,k3,k4,k5,k6⟩
     ·exact ⟨none,0,0,rfl,q,Nat.le_refl _,Nat.zero_le _,.inl rfl⟩
     ·refine ⟨_,_,cp,rfl,rfl,k3,k4,.inr ⟨g,0,zs,rfl,lt_of_block k2,?_,?_,q2.mono fun x _ c q=>rd_int q⟩⟩
      ·exact hmu g ((r.m g).2 (.inr (.inr (.inr ⟨_,hv,rfl⟩)))) (r.rm _ hv g rfl).1
      ·intro j z hj;refine cell k2 j z ?_;rw[←k6,List.getElem?_take] at hj;split at hj
       ·exact hj
       ·cases hj
    ·have:=h (u+1) v' (by simpa using hv);simpa using this
 have hb1:=r.h1;refine ⟨by unfold Ty.shape Ty.isSt;simp,?_⟩;exact ⟨b1,0,[.slice (some ⟨b2,0,none⟩) n0 c],rfl,lt_of_block r.h1,n1,cell r.h1,some ⟨b2,0,none⟩,n0,c,rfl,r.lenD,r.cap.1,r.cap.2,.inr ⟨b2,0,vs,rfl,lt_of_block r.h2,n2,cell r.h2,rows vs D (by rw[r.len,r.lenD]) fun u v hv=>⟨List.mem_of_getElem? hv,r.row u v hv⟩⟩⟩
theorem avrs_set {hp:Hp} {ψ:Nat→Value} {w:World} {M:Nat→Prop} {av:AV}:∀(vs:List Value) (u:Nat),(∀v,vs[u]?=some v→AVR P hp ψ w M av v)→AVRs P hp ψ w M ((vs.map .cst).set u av) vs
 |[],_,_=>rfl
 |v::vs,0,h=>⟨v,vs,rfl,h v rfl,by
   have:∀us:List Value,AVRs P hp ψ w M (us.map .cst) us:=fun us=>by
    induction us with
    |nil=>rfl
    |cons x r ih=>exact ⟨x,r,rfl,rfl,ih⟩
   exact this vs⟩
 |v::vs,u+1,h=>⟨v,vs,rfl,rfl,avrs_set vs u fun x hx=>h x (by simpa using hx)⟩
theorem set_avrs {hp:Hp} {ψ:Nat→Value} {w:World} {M:Nat→Prop} {av:AV}:∀(vs:List Value) (u:Nat) (us:List Value),AVRs P hp ψ w M ((vs.map .cst).set u av) us→us.length=vs.length∧(∀v,us[u]?=some v→AVR P hp ψ w M av v)∧∀i,i≠u→us[i]?=vs[i]?
 |[],u,us,h=>by obtain rfl:us=[]:=h;exact ⟨rfl,fun v q=>by simp at q,fun _ _=>rfl⟩
 |v::vs,0,us,h=>by
  obtain ⟨x,r,rfl,h1,h2⟩:=h;have:∀(vs us:List Value),AVRs P hp ψ w M (vs.map .cst) us→us=vs:=fun vs=>by
   induction vs with
   |nil=>intro us q;exact q
   |cons y s ih=>rintro us ⟨z,t,rfl,q1,q2⟩;rw[ih t q2,show z=y from q1]
  rw[this vs r h2];exact ⟨rfl,fun v' q=>by simp at q;subst q;exact h1,fun i hi=>by
   cases i with
   |zero=>exact absurd rfl hi
   |succ i=>rfl⟩
 |v::vs,u+1,us,h=>by
  obtain ⟨x,r,rfl,h1,h2⟩:=h;obtain ⟨q1,q2,q3⟩:=set_avrs vs u r h2;have:x=v:=h1;subst this;exact ⟨by simp[q1],fun v' q=>q2 v' (by simpa using q),fun i hi=>by
   cases i with
   |zero=>rfl
   |succ i=>simpa using q3 i (by omega)⟩
theorem tmG_over {d:Nat} {x y:AV} {tm:List (Nat×AV)}:tmG ((d,x)::(d,y)::tm)=tmG ((d,x)::tm):=by
 funext t;simp only[tmG];split<;>rfl
theorem rows_take {M M':Nat→Prop} {tm:List (Nat×AV)} {hp:List (Nat×OB)} {N:Nat} {kv:List Nat} {ψ:Nat→Value} {w0:Fix} {a:Act} {w:World} {T1 T0 et:TypeId} {n0 b1 b2 c d u:Nat} {vs:List Value} {D:List (List Int)}
  (s:Sim P B M' n ⟨(d,.cst (.pointer (some ⟨b1,0,none⟩)))::tm,hp,N,kv⟩ ψ w0 a w) (r:RowsAt (P:=P) B M M' w T1 T0 et n0 b1 b2 c vs D) (hu:u<n0):
  ∃ψ',Sim P B (fun x=>((M' x∧blk (vs.getD u undef)≠some x)∧b2≠x)∧b1≠x) n ⟨(d,.ptr (N+2) 0)::tm,(N+2,.box T1 [.arr (N+1) n0])::(N+1,.box T0 ((vs.map .cst).set u (.own N)))::(N,.row et (.int .i64) (D.getD u []))::hp,N+3,kv⟩ ψ' ⟨w,w0.vs,w0.dm,w0.ms⟩ a w:=by
 have hul:u<vs.length:=by rw[r.len];exact hu
 have eu:vs[u]?=some (vs.getD u undef):=by rw[List.getD_eq_getElem?_getD,List.getElem?_eq_getElem hul];rfl
 generalize vs.getD u undef=v at eu
 have hv:v∈vs:=List.mem_of_getElem? eu
 obtain ⟨zs,q1,q2⟩:=r.row u v eu
 have s1:=s.adopt (ob:=.row et (.int .i64) (D.getD u [])) (u:=v) (fun b hb=>⟨(r.m b).2 (.inr (.inr (.inr ⟨v,hv,hb⟩))),(ownsRow_blk q1 hb).1⟩) (by simp[OB.locs]) ⟨zs,by rw[upd'_same];exact q1,q2.mono fun x _ c q=>rd_int q⟩
 dsimp only at s1
 have s2:=s1.adopt (ob:=.box T0 ((vs.map .cst).set u (.own N))) (u:=.pointer (some ⟨b2,0,none⟩)) (fun b hb=>by
  simp only[blk,Option.some.injEq] at hb;subst hb;exact ⟨⟨(r.m b2).2 (.inr (.inr (.inl rfl))),fun e=>(r.rm v hv b2 e).2.2 rfl⟩,r.o2⟩) (by
  intro k hk;simp only[OB.locs] at hk;obtain ⟨x,hx,hl⟩:=locsL_of hk;rcases List.mem_or_eq_of_mem_set hx with hx|rfl
  ·obtain ⟨y,_,rfl⟩:=List.mem_map.1 hx;cases hl
  ·simp only[AV.locs,List.mem_singleton] at hl;rw[hl];show N<N+1+1;omega) ⟨b2,vs.toArray,upd'_same _ _ _,r.o2,r.h2,by
   refine avrs_set vs u fun x hx ob hob=>?_;rw[eu] at hx;injection hx with hx;subst hx;rw[upd'_other _ _ (show N≠N+1 by omega),upd'_same],r.one⟩
 dsimp only at s2
 have s3:=s2.adopt (ob:=.box T1 [.arr (N+1) n0]) (u:=.pointer (some ⟨b1,0,none⟩)) (fun b hb=>by
  simp only[blk,Option.some.injEq] at hb;subst hb;exact ⟨⟨⟨(r.m b1).2 (.inr (.inl rfl)),fun e=>(r.rm v hv b1 e).2.1 rfl⟩,fun e=>by simp only[blk,Option.some.injEq] at e;exact r.ne e.symm⟩,r.o1⟩) (by
  intro k hk;simp[OB.locs,AV.locsL,AV.locs] at hk;rw[hk];show N+1<N+1+1+1;omega) ⟨b1,#[.slice (some ⟨b2,0,none⟩) n0 c],upd'_same _ _ _,r.o1,r.h1,by
   refine ⟨_,[],rfl,fun ob hob=>⟨b2,c,?_,rfl,r.cap⟩,rfl⟩;show upd' _ (N+1+1) _ (N+1)=_;rw[upd'_other _ _ (show N+1≠N+1+1 by omega),upd'_same],fun x hx=>by simp at hx;subst hx;rfl⟩
 dsimp only at s3
 have s4:=s3.slot (t:=d) (av:=.ptr (N+2) 0) (fun ob hob=>⟨b1,upd'_same _ _ _,by
  have:=s3.av d;simp only[tmG,if_true] at this;exact this⟩) (by intro l hl;simp only[AV.locs,List.mem_singleton] at hl;rw[hl];show N+2<N+1+1+1;omega)
 refine ⟨upd' (upd' (upd' ψ N v) (N+1) (.pointer (some ⟨b2,0,none⟩))) (N+2) (.pointer (some ⟨b1,0,none⟩)),?_⟩
 have e:(fun x=>((M' x∧blk v≠some x)∧b2≠x)∧b1≠x)=(fun x=>((M' x∧blk v≠some x)∧blk (.pointer (some ⟨b2,0,none⟩))≠some x)∧blk (.pointer (some ⟨b1,0,none⟩))≠some x):=by
  funext x;simp[blk]
 rw[e]
 unfold Sim at s4⊢
 rw[←tmG_over (y:=.cst (.pointer (some ⟨b1,0,none⟩)))]
 exact s4
theorem rows_give {M M':Nat→Prop} {s0:AS} {ψ:Nat→Value} {w0:Fix} {a:Act} {w':World} {T1 T0 et:TypeId} {n0 b1 b2 c d u na nb nr:Nat} {vs:List Value} {D:List (List Int)} {ys:List Int}
  (s:Sim P B (fun x=>((M' x∧blk (vs.getD u undef)≠some x)∧b2≠x)∧b1≠x) n s0 ψ w0 a w') (r:RowsAt (P:=P) B M M' w0.w T1 T0 et n0 b1 b2 c vs D) (hM:∀b,M' b→b<w0.w.heap.size) (hu:u<n0)
  (ht:tmG s0.tm d= .ptr nb 0) (hb:look s0.hp nb=some (.box T1 [.arr na n0])) (ha:look s0.hp na=some (.box T0 ((vs.map .cst).set u (.own nr)))) (hr:look s0.hp nr=some (.row et (.int .i64) ys)) (hne:na≠nb):
  ∃b1' b2' c' vs' M3,Sim P B M3 n ⟨(d,.cst (.pointer (some ⟨b1',0,none⟩)))::s0.tm,killL (killL (killL s0.hp [nb]) [na]) [nr],s0.nx,s0.kv⟩ ψ ⟨w',w0.vs,w0.dm,w0.ms⟩ a w'∧RowsAt (P:=P) B M M3 w' T1 T0 et n0 b1' b2' c' vs' (D.set u ys):=by
 have hrb:nr≠nb:=fun e=>by rw[e,hb] at hr;cases hr
 have hra:nr≠na:=fun e=>by rw[e,ha] at hr;cases hr
 have hul:u<vs.length:=by rw[r.len];exact hu
 have eu:vs[u]?=some (vs.getD u undef):=by rw[List.getD_eq_getElem?_getD,List.getElem?_eq_getElem hul];rfl
 obtain ⟨b1',cells1,e1,o1,h1,a1,on1⟩:=s.hok.ob nb _ hb
 obtain ⟨x1,y1,ex,a2,a3⟩:=a1
 obtain rfl:y1=[]:=a3
 obtain ⟨b2',c',e2,rfl,hc1,hc2⟩:=a2 _ ha
 obtain ⟨b2x,cells2,e2',o2,h2,a4,on2⟩:=s.hok.ob na _ ha
 rw[e2] at e2'
 simp only[Value.pointer.injEq,Option.some.injEq,Addr.mk.injEq,and_true] at e2'
 subst e2'
 obtain ⟨zs,q1,q2⟩:=s.hok.ob nr _ hr
 obtain ⟨hl,hnew,hold⟩:=set_avrs vs u cells2.toList a4
 have bb1:blk (ψ nb)=some b1':=by rw[e1];rfl
 have bb2:blk (ψ na)=some b2':=by rw[e2];rfl
 have enu:cells2.toList[u]?=some (ψ nr):=by
  have:u<cells2.toList.length:=by rw[hl];exact hul
  rw[List.getElem?_eq_getElem this];exact congrArg some (hnew _ (List.getElem?_eq_getElem this) _ hr)
 have keep:∀(i:Nat) (v:Value) (g:Nat),i≠u→vs[i]?=some v→blk v=some g→((M' g∧blk (vs.getD u undef)≠some g)∧b2≠g)∧b1≠g:=fun i v g hi hv hg=>by
  have:=r.rm v (List.mem_of_getElem? hv) g hg;exact ⟨⟨⟨(r.m g).2 (.inr (.inr (.inr ⟨v,List.mem_of_getElem? hv,hg⟩))),fun e=>hi (r.dj i u v _ g hv eu hg e)⟩,fun e=>this.2.2 e.symm⟩,fun e=>this.2.1 e.symm⟩
 have hsub:∀b,M b→((M' b∧blk (vs.getD u undef)≠some b)∧b2≠b)∧b1≠b:=fun b hb=>⟨⟨⟨(r.m b).2 (.inl hb),fun e=>(r.rm _ (List.mem_of_getElem? eu) b e).1 hb⟩,fun e=>r.m2 (e▸hb)⟩,fun e=>r.m1 (e▸hb)⟩
 have s1:=s.release hb
 have s2:=s1.release (l:=na) (ob:=.box T0 ((vs.map .cst).set u (.own nr))) (by rw[look_kill,kill_not (by simpa using hne)];exact ha)
 have s3:=s2.release (l:=nr) (ob:=.row et (.int .i64) ys) (by rw[look_kill,kill_not (by simpa using hra),look_kill,kill_not (by simpa using hrb)];exact hr)
 have s4:=s3.slot (t:=d) (av:=.cst (.pointer (some ⟨b1',0,none⟩))) (by
  obtain ⟨b,q3,q4⟩:=(show AVR P _ ψ w' _ (.ptr nb 0) _ from ht▸s.av d) _ hb;rw[e1] at q3;simp only[Value.pointer.injEq,Option.some.injEq,Addr.mk.injEq,and_true] at q3;subst q3;exact q4) (by intro l hl;cases hl)
 refine ⟨b1',b2',c',cells2.toList,_,s4,?_⟩
 have vold:∀(i:Nat) (v:Value),i≠u→cells2.toList[i]?=some v→vs[i]?=some v:=fun i v hi hv=>by rw[←hold i hi];exact hv
 have hnr:∀b,blk (ψ nr)=some b→¬(((M' b∧blk (vs.getD u undef)≠some b)∧b2≠b)∧b1≠b):=fun b hb=>s.hok.md nr _ b hr hb
 refine { h1:=?_,h2:=by simpa using h2,len:=by rw[hl,r.len],lenD:=by rw[List.length_set,r.lenD],cap:=⟨hc1,hc2⟩,o1:=o1,o2:=o2,ne:=fun e=>?_,m:=fun b=>?_,m1:=fun q=>s.hok.md nb _ _ hb bb1 (hsub _ q),m2:=fun q=>s.hok.md na _ _ ha bb2 (hsub _ q),rm:=fun v hv b hb'=>?_,dj:=fun i i' v v' b hi hi' q q'=>?_,row:=fun i v hi=>?_,one:=on2 }
 ·have:cells1= #[.slice (some ⟨b2',0,none⟩) n0 c']:=by rw[←Array.toArray_toList (xs:=cells1),ex]
  rw[←this];exact h1
 ·exact hne (s.hok.dj na nb _ _ b1' ha hb (e▸bb2) bb1)
 ·constructor
  ·rintro (((q|q)|q)|q)
   ·rcases (r.m b).1 q.1.1.1 with k|k|k|⟨v,hv,hg⟩
    ·exact .inl k
    ·exact absurd k.symm q.2
    ·exact absurd k.symm q.1.2
    ·obtain ⟨i,hi⟩:=List.mem_iff_getElem?.1 hv
     by_cases e:i=u
     ·subst e;rw[eu] at hi;injection hi with hi;subst hi;exact absurd hg q.1.1.2
     ·exact .inr (.inr (.inr ⟨v,List.mem_of_getElem? (by rw[hold i e];exact hi),hg⟩))
   ·rw[bb1] at q;injection q with q;exact .inr (.inl q.symm)
   ·rw[bb2] at q;injection q with q;exact .inr (.inr (.inl q.symm))
   ·exact .inr (.inr (.inr ⟨_,List.mem_of_getElem? enu,q⟩))
  ·rintro (q|q|q|⟨v,hv,hg⟩)
   ·exact .inl (.inl (.inl (hsub b q)))
   ·exact .inl (.inl (.inr (by rw[bb1,q])))
   ·exact .inl (.inr (by rw[bb2,q]))
   ·obtain ⟨i,hi⟩:=List.mem_iff_getElem?.1 hv
    by_cases e:i=u
    ·subst e;rw[enu] at hi;injection hi with hi;subst hi;exact .inr hg
    ·exact .inl (.inl (.inl (keep i v b e (vold i v e hi) hg)))
 ·obtain ⟨i,hi⟩:=List.mem_iff_getElem?.1 hv
  by_cases e:i=u
  ·subst e;rw[enu] at hi;injection hi with hi;subst hi
   exact ⟨fun q=>hnr b hb' (hsub b q),fun e=>hrb (s.hok.dj nr nb _ _ b hr hb hb' (e▸bb1)),fun e=>hra (s.hok.dj nr na _ _ b hr ha hb' (e▸bb2))⟩
  ·have k:=keep i v b e (vold i v e hi) hb'
   exact ⟨(r.rm v (List.mem_of_getElem? (vold i v e hi)) b hb').1,fun e=>s.hok.md nb _ _ hb bb1 (e▸k),fun e=>s.hok.md na _ _ ha bb2 (e▸k)⟩
 ·by_cases e:i=u
  ·by_cases e':i'=u
   ·rw[e,e']
   ·subst e;rw[enu] at hi;injection hi with hi;subst hi
    exact absurd (keep i' v' b e' (vold i' v' e' hi') q') (hnr b q)
  ·by_cases e':i'=u
   ·subst e';rw[enu] at hi';injection hi' with hi';subst hi'
    exact absurd (keep i v b e (vold i v e hi) q) (hnr b q')
   ·exact r.dj i i' v v' b (vold i v e hi) (vold i' v' e' hi') q q'
 ·by_cases e:i=u
  ·subst e;rw[enu] at hi;injection hi with hi;subst hi
   have:(D.set i ys).getD i []=ys:=by rw[List.getD_eq_getElem?_getD,List.getElem?_set_self (by rw[r.lenD];exact hu)];rfl
   rw[this]
   exact ⟨zs,q1,q2.mono fun x _ c q=>rd_int q⟩
  ·obtain ⟨zs',k1,k2⟩:=r.row i v (vold i v e hi)
   have:(D.set u ys).getD i []=D.getD i []:=by rw[List.getD_eq_getElem?_getD,List.getElem?_set_ne (Ne.symm e),List.getD_eq_getElem?_getD]
   rw[this]
   refine ⟨zs',ownsRow_at k1 fun g hg=>?_,k2.mono fun x _ c q=>rd_int q⟩
   have k:=keep i v g e (vold i v e hi) hg
   exact s.bel.stay g k (hM g k.1.1.1)
theorem RowsAt.sub {M M':Nat→Prop} {w:World} {T1 T0 et:TypeId} {n0 b1 b2 c u:Nat} {vs:List Value} {D:List (List Int)} (r:RowsAt (P:=P) B M M' w T1 T0 et n0 b1 b2 c vs D) (hu:u<n0):∀b,M b→((M' b∧blk (vs.getD u undef)≠some b)∧b2≠b)∧b1≠b:=fun b hb=>by
 have hul:u<vs.length:=by rw[r.len];exact hu
 have eu:vs[u]?=some (vs.getD u undef):=by rw[List.getD_eq_getElem?_getD,List.getElem?_eq_getElem hul];rfl
 exact ⟨⟨⟨(r.m b).2 (.inl hb),fun e=>(r.rm _ (List.mem_of_getElem? eu) b e).1 hb⟩,fun e=>r.m2 (e▸hb)⟩,fun e=>r.m1 (e▸hb)⟩
theorem csts_avrs {hp:Hp} {ψ:Nat→Value} {w:World} {M:Nat→Prop} {v:Value}:∀(k:Nat) (us:List Value),AVRs P hp ψ w M (List.replicate k (.cst v)) us→us=List.replicate k v
 |0,us,h=>h
 |k+1,us,h=>by
  obtain ⟨x,r,rfl,h1,h2⟩:=h;rw[csts_avrs k r h2,show x=v from h1];rfl
theorem rows_start {M:Nat→Prop} {st:AS} {ψ:Nat→Value} {w0:Fix} {a:Act} {w:World} {T1 T0:TypeId} (et:TypeId) {n0 d lb lo:Nat} (s:Sim P B M n st ψ w0 a w) (ht:tmG st.tm d= .ptr lb 0) (hb:look st.hp lb=some (.box T1 [.arr lo n0])) (ho:look st.hp lo=some (.box T0 (List.replicate n0 (.cst (.slice none 0 0))))) (hne:lo≠lb):
  ∃b1 b2 c M',Sim P B M' n ⟨(d,.cst (.pointer (some ⟨b1,0,none⟩)))::st.tm,killL (killL st.hp [lb]) [lo],st.nx,st.kv⟩ ψ ⟨w,w0.vs,w0.dm,w0.ms⟩ a w∧RowsAt (P:=P) B M M' w T1 T0 et n0 b1 b2 c (List.replicate n0 (.slice none 0 0)) (List.replicate n0 []):=by
 obtain ⟨b1,cells1,e1,o1,h1,a1,on1⟩:=s.hok.ob lb _ hb
 obtain ⟨x1,y1,ex,a2,a3⟩:=a1
 obtain rfl:y1=[]:=a3
 obtain ⟨b2,c,e2,rfl,hc1,hc2⟩:=a2 _ ho
 obtain ⟨b2x,cells2,e2',o2,h2,a4,on2⟩:=s.hok.ob lo _ ho
 rw[e2] at e2'
 simp only[Value.pointer.injEq,Option.some.injEq,Addr.mk.injEq,and_true] at e2'
 subst e2'
 have ec:=csts_avrs _ _ a4
 have bb1:blk (ψ lb)=some b1:=by rw[e1];rfl
 have bb2:blk (ψ lo)=some b2:=by rw[e2];rfl
 have s1:=s.release hb
 have s2:=s1.release (l:=lo) (by rw[look_kill,kill_not (by simpa using hne)];exact ho)
 have s3:=s2.slot (t:=d) (av:=.cst (.pointer (some ⟨b1,0,none⟩))) (by
  obtain ⟨b,q3,q4⟩:=(show AVR P _ ψ w _ (.ptr lb 0) _ from ht▸s.av d) _ hb;rw[e1] at q3;simp only[Value.pointer.injEq,Option.some.injEq,Addr.mk.injEq,and_true] at q3;subst q3;exact q4) (by intro l hl;cases hl)
 refine ⟨b1,b2,c,_,s3,?_⟩
 have nb:∀v∈List.replicate n0 (Value.slice none 0 0),v= .slice none 0 0:=fun v hv=>(List.mem_replicate.1 hv).2
 refine { h1:=?_,h2:=by rw[←ec];simpa using h2,len:=by simp,lenD:=by simp,cap:=⟨hc1,hc2⟩,o1:=o1,o2:=o2,ne:=fun e=>?_,m:=fun b=>?_,m1:=s.hok.md lb _ _ hb bb1,m2:=s.hok.md lo _ _ ho bb2,rm:=fun v hv b hb'=>?_,dj:=fun i i' v v' b hi hi' q q'=>?_,row:=fun i v hi=>?_,one:=fun v hv=>by rw[nb v hv];rfl }
 ·have:cells1= #[.slice (some ⟨b2,0,none⟩) n0 c]:=by rw[←Array.toArray_toList (xs:=cells1),ex]
  rw[←this];exact h1
 ·exact hne (s.hok.dj lo lb _ _ b1 ho hb (e▸bb2) bb1)
 ·rw[bb1,bb2]
  constructor
  ·rintro ((q|q)|q)
   ·exact .inl q
   ·injection q with q;exact .inr (.inl q.symm)
   ·injection q with q;exact .inr (.inr (.inl q.symm))
  ·rintro (q|q|q|⟨v,hv,hg⟩)
   ·exact .inl (.inl q)
   ·exact .inl (.inr (by rw[q]))
   ·exact .inr (by rw[q])
   ·rw[nb v hv] at hg;cases hg
 ·rw[nb v hv] at hb';cases hb'
 ·rw[nb v (List.mem_of_getElem? hi)] at q;cases q
 ·rw[nb v (List.mem_of_getElem? hi)]
  have hi':=(List.getElem?_eq_some_iff.1 hi).1
  have:(List.replicate n0 ([]:List Int)).getD i []=[]:=by
   rw[List.getD_eq_getElem?_getD,List.getElem?_replicate];split<;>rfl
  rw[this]
  exact ⟨[],⟨rfl,.inl ⟨rfl,rfl⟩⟩,rfl⟩
def AS.with (st:AS) (d:Nat) (av:AV):AS:=⟨(d,av)::st.tm,st.hp,st.nx,st.kv⟩
theorem XW_rows {b:XC} {Q:XQ} {st:AS} (i:Nat) (X:Type) (I:X→AS) (inv done:X→Prop) (μ:X→Nat) (x0:X) (d lb lo n0:Nat) (T1 T0 et:TypeId) (D:X→List (List Int)) (sel:X→Nat)
  (ht:tmG st.tm d= .ptr lb 0) (hb:look st.hp lb=some (.box T1 [.arr lo n0])) (ho:look st.hp lo=some (.box T0 (List.replicate n0 (.cst (.slice none 0 0))))) (hne:lo≠lb)
  (h0:∀v,AS.le P n ⟨(d,.cst v)::st.tm,killL (killL st.hp [lb]) [lo],st.nx,st.kv⟩ ((I x0).with d (.cst v))) (hi:inv x0) (hD0:D x0=List.replicate n0 [])
  (hdone:∀x,inv x→done x→Q (.exit i) ((I x).with d (.val (.ptr (.sl (.sl (.int .i64)))) (D x)))∧∀v,xwp P C n b (fun e s=>e= .exit i∧AS.le P n s ((I x).with d (.cst v))) ((I x).with d (.cst v)))
  (hr:∀x,inv x→¬done x→sel x<n0∧∀vs:List Value,vs.length=n0→xwp P C n b (fun e s=>e= .normal∧∃x' nr ys,μ x'<μ x∧inv x'∧tmG s.tm d= .ptr ((I x).nx+2) 0∧look s.hp ((I x).nx+2)=some (.box T1 [.arr ((I x).nx+1) n0])∧look s.hp ((I x).nx+1)=some (.box T0 ((vs.map .cst).set (sel x) (.own nr)))∧look s.hp nr=some (.row et (.int .i64) ys)∧D x'=(D x).set (sel x) ys∧
    ∀v,AS.le P n ⟨(d,.cst v)::s.tm,killL (killL (killL s.hp [(I x).nx+2]) [(I x).nx+1]) [nr],s.nx,s.kv⟩ ((I x').with d (.cst v)))
   ⟨(d,.ptr ((I x).nx+2) 0)::(I x).tm,((I x).nx+2,.box T1 [.arr ((I x).nx+1) n0])::((I x).nx+1,.box T0 ((vs.map .cst).set (sel x) (.own (I x).nx)))::((I x).nx,.row et (.int .i64) ((D x).getD (sel x) []))::(I x).hp,(I x).nx+3,(I x).kv⟩):XW P C n (.loop b) Q st:=by
 intro code hc hC B M w0 ψ a w s ro hR
 cases code<;>simp[codeChk] at hc
 obtain ⟨b1,b2,c,M',s1,r1⟩:=rows_start et s ht hb ho hne
 obtain ⟨ψ1,s2⟩:=h0 _ B M' _ ψ a w s1
 refine wpIn_loop_ghost (fun k a w=>∃x ψ M' b1 b2 c vs,μ x=k∧inv x∧Stay B M w0.w w∧Sim P B M' n ((I x).with d (.cst (.pointer (some ⟨b1,0,none⟩)))) ψ ⟨w,w0.vs,w0.dm,w0.ms⟩ a w∧RowsAt (P:=P) B M M' w T1 T0 et n0 b1 b2 c vs (D x)) (μ x0) ⟨x0,ψ1,M',b1,b2,c,_,rfl,hi,s.bel,s2,hD0▸r1⟩ ?_
 rintro k a w ⟨x,ψ,M',b1,b2,c,vs,rfl,hx,hst,s,r⟩
 by_cases hdn:done x
 ·obtain ⟨hq,hw⟩:=hdone x hx hdn
  refine wpIn_mono (XW_of (hw _) _ hc hC B M' _ ψ a w s ro hR) fun e a' w' q=>?_
  cases e with
  |normal=>obtain ⟨_,_,_,h2,_⟩:=q;cases h2
  |ret=>obtain ⟨_,_,_,h2,_⟩:=q;cases h2
  |exit j=>
   obtain ⟨s1,ψ1,h1,h2,h3⟩:=q
   injection h2 with h2;subst h2
   obtain ⟨ψ2,s3⟩:=h3 B M' _ ψ1 a' w' h1
   have r':=r.stay (w':=w') fun b hb=>h1.bel.stay b hb (s.hok.mb b hb)
   have s4:=s3.fewer (M':=M) fun b hb=>(r.m b).2 (.inl hb)
   have hmu:∀b,M' b→¬M b→¬Mu M (look (I x).hp) ψ2 b:=fun b k1 k2 k3=>by
    rcases k3 with k3|⟨l,ob,k4,k5⟩
    ·exact k2 k3
    ·exact s3.hok.md l ob b k4 k5 k1
   have s5:=s4.slot (t:=d) (av:=.val (.ptr Z18) (D x)) (by
    have:=s3.av d;simp only[AS.with,tmG,if_true] at this;have hdt:=r'.data hmu;rw[←this] at hdt;exact hdt) (by intro l hl;cases hl)
   refine ⟨_,ψ2,Sim.base (w1:=w') (st:=(I x).with d (.val (.ptr Z18) (D x))) ?_ (hst.trans (h1.bel.fewer fun b hb=>(r.m b).2 (.inl hb))),hq⟩
   unfold Sim AS.with at s5⊢
   rw[tmG_over] at s5
   exact s5
  |_=>exact q.elim
 ·obtain ⟨hsel,hw⟩:=hr x hx hdn
  obtain ⟨ψ1,s1⟩:=rows_take s r hsel
  refine wpIn_mono (XW_of (hw vs r.len) _ hc hC B _ _ ψ1 a w s1 ro hR) fun e a' w' q=>?_
  cases e with
  |normal=>
   obtain ⟨s2,ψ2,h1,_,x',nr,ys,k1,k2,k3,k4,k5,k6,k7,k8⟩:=q
   obtain ⟨b1',b2',c',vs',M3,s3,r3⟩:=rows_give (w0:=⟨w,w0.vs,w0.dm,w0.ms⟩) h1 r (fun b=>s.hok.mb b) hsel k3 k4 k5 k6 (by omega)
   obtain ⟨ψ4,s4⟩:=k8 _ B M3 _ ψ2 a' w' s3
   exact ⟨μ x',k1,x',ψ4,M3,b1',b2',c',vs',rfl,k2,hst.trans (h1.bel.fewer (r.sub hsel)),s4,k7▸r3⟩
  |ret=>obtain ⟨_,_,_,h2,_⟩:=q;cases h2
  |exit j=>obtain ⟨_,_,_,h2,_⟩:=q;cases h2
  |_=>exact q.elim
theorem XW_rowsN {b:XC} {Q:XQ} {st:AS} (i N:Nat) (ds ls:List Nat) (live:Nat→List (Nat×AV)) (m d lb lo n0:Nat) (T1 T0 et:TypeId) (D:Nat→List (List Int)) (sel:Nat→Nat) (nr:Nat) (ys:Nat→List Int)
  (ht:tmG st.tm d= .ptr lb 0) (hb:look st.hp lb=some (.box T1 [.arr lo n0])) (ho:look st.hp lo=some (.box T0 (List.replicate n0 (.cst (.slice none 0 0))))) (hne:lo≠lb)
  (h0:∀v,le' ⟨(d,.cst v)::st.tm,killL (killL st.hp [lb]) [lo],st.nx,st.kv⟩ ((headOf ⟨st.tm,killL (killL st.hp [lb]) [lo],st.nx,st.kv⟩ N ds (live 0) ls []).with d (.cst v))) (hD0:D 0=List.replicate n0 [])
  (hq:Q (.exit i) ((headOf ⟨st.tm,killL (killL st.hp [lb]) [lo],st.nx,st.kv⟩ N ds (live m) ls []).with d (.val (.ptr (.sl (.sl (.int .i64)))) (D m))))
  (hx:∀v,xwp P C n b (fun e s=>e= .exit i∧leQ s ((headOf ⟨st.tm,killL (killL st.hp [lb]) [lo],st.nx,st.kv⟩ N ds (live m) ls []).with d (.cst v))) ((headOf ⟨st.tm,killL (killL st.hp [lb]) [lo],st.nx,st.kv⟩ N ds (live m) ls []).with d (.cst v)))
  (hr:∀k,k<m→sel k<n0∧D (k+1)=(D k).set (sel k) (ys k)∧∀vs:List Value,vs.length=n0→xwp P C n b (fun e s=>e= .normal∧tmG s.tm d= .ptr (N+2) 0∧look s.hp (N+2)=some (.box T1 [.arr (N+1) n0])∧look s.hp (N+1)=some (.box T0 ((vs.map .cst).set (sel k) (.own nr)))∧look s.hp nr=some (.row et (.int .i64) (ys k))∧
    ∀v,leQ ⟨(d,.cst v)::s.tm,killL (killL (killL s.hp [N+2]) [N+1]) [nr],s.nx,s.kv⟩ ((headOf ⟨st.tm,killL (killL st.hp [lb]) [lo],st.nx,st.kv⟩ N ds (live (k+1)) ls []).with d (.cst v)))
   ⟨(d,.ptr (N+2) 0)::headT st.tm st.kv ds (live k),(N+2,.box T1 [.arr (N+1) n0])::(N+1,.box T0 ((vs.map .cst).set (sel k) (.own N)))::(N,.row et (.int .i64) ((D k).getD (sel k) []))::puts (keep (killL (killL st.hp [lb]) [lo]) ls) [],N+3,st.kv⟩):XW P C n (.loop b) Q st:=by
 refine XW_rows i Nat (fun k=>headOf ⟨st.tm,killL (killL st.hp [lb]) [lo],st.nx,st.kv⟩ N ds (live k) ls []) (fun k=>k≤m) (fun k=>k=m) (fun k=>m-k) 0 d lb lo n0 T1 T0 et D sel ht hb ho hne (fun v=>le_of (h0 v)) (Nat.zero_le _) hD0 (fun k _ hk=>?_) (fun k hk hkm=>?_)
 ·subst hk
  exact ⟨hq,fun v=>xwp_mono (fun e s q=>⟨q.1,le_of q.2⟩) (hx v)⟩
 ·obtain ⟨h1,h2,h3⟩:=hr k (by omega)
  exact ⟨h1,fun vs hvs=>xwp_mono (fun e s q=>⟨q.1,k+1,nr,ys k,by omega,by omega,q.2.1,q.2.2.1,q.2.2.2.1,q.2.2.2.2.1,h2,fun v=>le_of (q.2.2.2.2.2 v)⟩) (h3 vs hvs)⟩
end
end T
end Go.Proofs.YtpocfbfmjippnaaGreat
end
section
namespace Go.Proofs.YtpocfbfmjippnaaGreat
namespace T
def x7:XF:=⟨161,[.tmp 0],[0,1,2,3,4,5,6,7,8,9,10,11,12,13,14,15],(Zg [Zb 0 .mv [.bool false]] (Zg [Zb 17 (.call 28) [],Zb 18 (.build Z8 [(1,.bool)]) [.bool true],Zb 19 (.build Z8 []) [],Zb 20 (.bslice 68 Z8 2 [0,1]) [Zc 18,Zc 19],Zb 21 (.call 27) [Zc 17,.int .i64 0,Zc 20],Za 16 21,Zb 22 (.extract 0) [Zc 16],Zb 23 (.extract 1) [Zc 16],Zb 1 (.alloc 65 Z11) [],Zi Z11 1 22,Za 2 23] (.clean (Zg [Zb 25 (.call 28) [],Zb 26 (.build Z8 [(0,Z1),(1,.bool)]) [.int .i64 2,.bool true],Zb 27 (.build Z8 [(0,Z1)]) [.int .i64 2],Zb 28 (.bslice 68 Z8 2 [0,1]) [Zc 26,Zc 27],Zb 29 (.call 27) [Zc 25,.int .i64 1,Zc 28],Za 24 29,Zb 30 (.extract 0) [Zc 24],Zb 31 (.extract 1) [Zc 24],Zb 3 (.alloc 65 Z11) [],Zi Z11 3 30,Za 4 31] (.clean (Zg [Zb 33 (.call 28) [],Zb 34 (.call 27) [Zc 33,.int .i64 2,.nil],Za 32 34,Zb 35 (.extract 0) [Zc 32],Zb 36 (.extract 1) [Zc 32],Zb 5 (.alloc 65 Z11) [],Zi Z11 5 35,Za 6 36] (.clean (.seq (Zg [Za 37 2,Zb 38 (.bin .neq) [Zc 37,.int .i64 0],Za 39 38,Ze 40 .mv [Zc 4] 2 39 false,Ze 41 (.bin .neq) [Zc 40,.int .i64 0] 2 39 false,Zb 42 .pick [Zc 39,.bool true,Zc 41],Za 43 42,Ze 44 .mv [Zc 6] 6 43 false,Ze 45 (.bin .neq) [Zc 44,.int .i64 0] 6 43 false,Zb 46 .pick [Zc 43,.bool true,Zc 45]] (.cond (Zc 46) (Zg [Zb 0 .mv [.bool false]] .ret) .skip)) (.clean (.seq (.reg true [Zb 48 (.call 28) [],Zd 49 Z11 1,Zd 50 Z11 3,Zd 51 Z11 5,Zf 52 (.bslice 65 Z11 3 [0,1,2]) [Zc 49,Zc 50,Zc 51] [1,2,3],Zb 53 (.bslice 3 Z1 1 [0]) [.int .i64 0],Zf 54 (.call 9) [Zc 48,Zc 52,.int .i64 0,Zc 53] [0,4,1,2,3,5],Zf 47 .mv [Zc 54] [6,0,4,1,2,3,5],Zf 55 (.extract 0) [Zc 47] [7,6,0,4,1,2,3,5],Zf 56 (.extract 1) [Zc 47] [7,6,0,4,1,2,3,5],Zf 57 (.extract 2) [Zc 47] [7,6,0,4,1,2,3,5],Zf 58 (.extract 3) [Zc 47] [7,6,0,4,1,2,3,5],Zf 7 .mv [Zc 55] [8,7,6,0,4,1,2,3,5],Zf 8 .mv [Zc 56] [9,7,6,0,4,1,2,3,5,12,8],Zf 9 .mv [Zc 57] [10,7,6,0,4,1,2,3,5,13,9,12,8],Zf 10 .mv [Zc 58] [11,7,6,0,4,1,2,3,5,14,10,13,9,12,8]]) (.clean (.seq (.reg true [Zb 60 (.call 28) [],Zd 61 Z11 1,Zd 62 Z11 3,Zf 63 (.bslice 65 Z11 2 [0,1]) [Zc 61,Zc 62] [1,2],Zb 64 (.bslice 3 Z1 1 [0]) [.int .i64 0],Zf 65 (.call 9) [Zc 60,Zc 63,.int .i64 0,Zc 64] [0,3,1,2,4],Zf 59 .mv [Zc 65] [5,0,3,1,2,4],Zf 66 (.extract 0) [Zc 59] [6,5,0,3,1,2,4],Zf 67 (.extract 1) [Zc 59] [6,5,0,3,1,2,4],Zf 68 (.extract 2) [Zc 59] [6,5,0,3,1,2,4],Zf 69 (.extract 3) [Zc 59] [6,5,0,3,1,2,4],Zf 11 .mv [Zc 66] [7,6,5,0,3,1,2,4],Zf 12 .mv [Zc 67] [8,6,5,0,3,1,2,4,11,7],Zf 13 .mv [Zc 68] [9,6,5,0,3,1,2,4,12,8,11,7],Zf 14 .mv [Zc 69] [10,6,5,0,3,1,2,4,13,9,12,8,11,7]]) (.clean (.seq (Zg [Za 70 10,Zb 71 (.bin .neq) [Zc 70,.int .i64 0],Za 72 71,Ze 73 .mv [Zc 14] 2 72 false,Ze 74 (.bin .neq) [Zc 73,.int .i64 0] 2 72 false,Zb 75 .pick [Zc 72,.bool true,Zc 74],Za 76 75,Ze 77 .mv [Zc 7] 6 76 false,Ze 78 (.len false) [Zc 77] 6 76 false,Ze 79 (.bin .neq) [Zc 78,.int .i64 2] 6 76 false,Zb 80 .pick [Zc 76,.bool true,Zc 79],Za 81 80,Ze 82 .mv [Zc 11] 11 81 false,Ze 83 (.len false) [Zc 82] 11 81 false,Ze 84 (.bin .neq) [Zc 83,.int .i64 1] 11 81 false,Zb 85 .pick [Zc 81,.bool true,Zc 84],Za 86 85,Ze 87 .mv [Zc 13] 16 86 false,Ze 88 (.len false) [Zc 87] 16 86 false,Ze 89 (.bin .neq) [Zc 88,.int .i64 1] 16 86 false,Zb 90 .pick [Zc 86,.bool true,Zc 89]] (.cond (Zc 90) (Zg [Zb 0 .mv [.bool false]] .ret) .skip)) (.clean (.seq (.reg true [Za 91 7,Zf 92 (.iaddr Z11) [Zc 91,.int .i64 0] [0],Zf 93 (.load Z11) [Zc 92] [1,0],Zd 94 Z11 3,Zf 95 (.call 29) [Zc 93,Zc 94] [2,1,0,3],Zf 96 .mv [Zc 95] [4,2,1,0,3],Zh 97 .mv [Zc 7] 5 96 true [5,4,2,1,0,3],Zh 98 (.iaddr Z11) [Zc 97,.int .i64 1] 5 96 true [6,5,4,2,1,0,3],Zh 99 (.faddr 1 Z10) [Zc 98] 5 96 true [7,6,5,4,2,1,0,3],Zh 100 (.load Z10) [Zc 99] 5 96 true [8,7,6,5,4,2,1,0,3],Zh 101 (.len false) [Zc 100] 5 96 true [9,8,7,6,5,4,2,1,0,3],Zh 102 (.bin .eql) [Zc 101,.int .i64 2] 5 96 true [10,9,8,7,6,5,4,2,1,0,3],Zf 103 .pick [Zc 96,Zc 102,.bool false] [5,4,2,1,0,3,11,10,9,8,7,6],Zf 104 .mv [Zc 103] [12,5,4,2,1,0,3,11,10,9,8,7,6],Zh 105 .mv [Zc 7] 13 104 true [13,12,5,4,2,1,0,3,11,10,9,8,7,6],Zh 106 (.iaddr Z11) [Zc 105,.int .i64 1] 13 104 true [14,13,12,5,4,2,1,0,3,11,10,9,8,7,6],Zh 107 (.faddr 0 Z1) [Zc 106] 13 104 true [15,14,13,12,5,4,2,1,0,3,11,10,9,8,7,6],Zh 108 (.load Z1) [Zc 107] 13 104 true [16,15,14,13,12,5,4,2,1,0,3,11,10,9,8,7,6],Zh 109 (.bin .eql) [Zc 108,.int .i64 2] 13 104 true [17,16,15,14,13,12,5,4,2,1,0,3,11,10,9,8,7,6],Zf 110 .pick [Zc 104,Zc 109,.bool false] [13,12,5,4,2,1,0,3,11,10,9,8,7,6,18,17,16,15,14],Zf 111 .mv [Zc 110] [19,13,12,5,4,2,1,0,3,11,10,9,8,7,6,18,17,16,15,14],Zh 112 .mv [Zc 8] 20 111 true [20,19,13,12,5,4,2,1,0,3,11,10,9,8,7,6,18,17,16,15,14],Zh 113 (.len false) [Zc 112] 20 111 true [21,20,19,13,12,5,4,2,1,0,3,11,10,9,8,7,6,18,17,16,15,14],Zh 114 (.bin .eql) [Zc 113,.int .i64 0] 20 111 true [22,21,20,19,13,12,5,4,2,1,0,3,11,10,9,8,7,6,18,17,16,15,14],Zf 115 .pick [Zc 111,Zc 114,.bool false] [20,19,13,12,5,4,2,1,0,3,11,10,9,8,7,6,18,17,16,15,14,23,22,21],Zf 116 .mv [Zc 115] [24,20,19,13,12,5,4,2,1,0,3,11,10,9,8,7,6,18,17,16,15,14,23,22,21],Zh 117 .mv [Zc 9] 25 116 true [25,24,20,19,13,12,5,4,2,1,0,3,11,10,9,8,7,6,18,17,16,15,14,23,22,21],Zh 118 (.len false) [Zc 117] 25 116 true [26,25,24,20,19,13,12,5,4,2,1,0,3,11,10,9,8,7,6,18,17,16,15,14,23,22,21],Zh 119 (.bin .eql) [Zc 118,.int .i64 0] 25 116 true [27,26,25,24,20,19,13,12,5,4,2,1,0,3,11,10,9,8,7,6,18,17,16,15,14,23,22,21],Zf 120 .pick [Zc 116,Zc 119,.bool false] [25,24,20,19,13,12,5,4,2,1,0,3,11,10,9,8,7,6,18,17,16,15,14,23,22,21,28,27,26],Zf 15 .mv [Zc 120] [29,25,24,20,19,13,12,5,4,2,1,0,3,11,10,9,8,7,6,18,17,16,15,14,23,22,21,28,27,26]]) (.clean (.seq (.reg true [Za 121 15,Zf 122 .mv [Zc 121] [0],Zh 123 .mv [Zc 11] 1 122 true [1,0],Zh 124 (.iaddr Z11) [Zc 123,.int .i64 0] 1 122 true [2,1,0],Zh 125 (.load Z11) [Zc 124] 1 122 true [3,2,1,0],Zh 126 (.load Z11) [Zc 3] 1 122 true [1,0],Zh 127 (.call 29) [Zc 125,Zc 126] 1 122 true [4,3,2,1,0,5],Zf 128 .pick [Zc 122,Zc 127,.bool false] [1,0,6,4,3,2,5],Zf 129 .mv [Zc 128] [7,1,0,6,4,3,2,5],Zh 130 .mv [Zc 12] 8 129 true [8,7,1,0,6,4,3,2,5],⟨some 131,.bslice 3 Z1 1 [0],[.int .i64 0],some (8,129,true),[8,7,1,0,6,4,3,2,5]⟩,Zh 132 (.call 13) [Zc 130,Zc 131] 8 129 true [9,8,7,1,0,6,4,3,2,5,10],Zf 133 .pick [Zc 129,Zc 132,.bool false] [8,7,1,0,6,4,3,2,5,11,9,10],Zf 134 .mv [Zc 133] [12,8,7,1,0,6,4,3,2,5,11,9,10],Zh 135 .mv [Zc 13] 13 134 true [13,12,8,7,1,0,6,4,3,2,5,11,9,10],Zh 136 (.iaddr Z12) [Zc 135,.int .i64 0] 13 134 true [14,13,12,8,7,1,0,6,4,3,2,5,11,9,10],Zh 137 (.faddr 1 Z1) [Zc 136] 13 134 true [15,14,13,12,8,7,1,0,6,4,3,2,5,11,9,10],Zh 138 (.load Z1) [Zc 137] 13 134 true [16,15,14,13,12,8,7,1,0,6,4,3,2,5,11,9,10],Zh 139 (.bin .eql) [Zc 138,.int .i64 0] 13 134 true [17,16,15,14,13,12,8,7,1,0,6,4,3,2,5,11,9,10],Zf 140 .pick [Zc 134,Zc 139,.bool false] [13,12,8,7,1,0,6,4,3,2,5,11,9,10,18,17,16,15,14],Zf 141 .mv [Zc 140] [19,13,12,8,7,1,0,6,4,3,2,5,11,9,10,18,17,16,15,14],Zh 142 .mv [Zc 13] 20 141 true [20,19,13,12,8,7,1,0,6,4,3,2,5,11,9,10,18,17,16,15,14],Zh 143 (.iaddr Z12) [Zc 142,.int .i64 0] 20 141 true [21,20,19,13,12,8,7,1,0,6,4,3,2,5,11,9,10,18,17,16,15,14],Zh 144 (.faddr 0 Z9) [Zc 143] 20 141 true [22,21,20,19,13,12,8,7,1,0,6,4,3,2,5,11,9,10,18,17,16,15,14],Zh 145 (.load Z9) [Zc 144] 20 141 true [23,22,21,20,19,13,12,8,7,1,0,6,4,3,2,5,11,9,10,18,17,16,15,14],⟨some 146,.bslice 3 Z1 1 [0],[.int .i64 0],some (20,141,true),[20,19,13,12,8,7,1,0,6,4,3,2,5,11,9,10,18,17,16,15,14]⟩,Zh 147 (.call 13) [Zc 145,Zc 146] 20 141 true [24,23,22,21,20,19,13,12,8,7,1,0,6,4,3,2,5,11,9,10,18,17,16,15,14,25],Zf 148 .pick [Zc 141,Zc 147,.bool false] [20,19,13,12,8,7,1,0,6,4,3,2,5,11,9,10,18,17,16,15,14,26,24,23,22,21,25],Zf 149 .mv [Zc 148] [27,20,19,13,12,8,7,1,0,6,4,3,2,5,11,9,10,18,17,16,15,14,26,24,23,22,21,25],Zh 150 (.call 28) [] 28 149 true [28,27,20,19,13,12,8,7,1,0,6,4,3,2,5,11,9,10,18,17,16,15,14,26,24,23,22,21,25],Zh 151 (.load Z11) [Zc 1] 28 149 true [28,27,20,19,13,12,8,7,1,0,6,4,3,2,5,11,9,10,18,17,16,15,14,26,24,23,22,21,25],Zh 152 (.load Z11) [Zc 3] 28 149 true [28,27,20,19,13,12,8,7,1,0,6,4,3,2,5,11,9,10,18,17,16,15,14,26,24,23,22,21,25],⟨some 153,.bslice 65 Z11 2 [0,1],[Zc 151,Zc 152],some (28,149,true),[30,28,27,20,19,13,12,8,7,1,0,6,4,3,2,5,11,9,10,18,17,16,15,14,26,24,23,22,21,25,31]⟩,⟨some 154,.bslice 3 Z1 1 [0],[.int .i64 0],some (28,149,true),[28,27,20,19,13,12,8,7,1,0,6,4,3,2,5,11,9,10,18,17,16,15,14,26,24,23,22,21,25]⟩,Zh 155 .mv [Zc 11] 28 149 true [28,27,20,19,13,12,8,7,1,0,6,4,3,2,5,11,9,10,18,17,16,15,14,26,24,23,22,21,25],Zh 156 .mv [Zc 12] 28 149 true [28,27,20,19,13,12,8,7,1,0,6,4,3,2,5,11,9,10,18,17,16,15,14,26,24,23,22,21,25],Zh 157 .mv [Zc 13] 28 149 true [28,27,20,19,13,12,8,7,1,0,6,4,3,2,5,11,9,10,18,17,16,15,14,26,24,23,22,21,25],Zh 158 (.call 16) [Zc 150,Zc 153,.int .i64 0,Zc 154,Zc 155,Zc 156,Zc 157] 28 149 true [29,28,27,20,19,13,12,8,7,1,0,6,4,3,2,5,11,9,10,18,17,16,15,14,26,24,23,22,21,25,32,30,31,33,34,35,36],Zh 159 (.bin .eql) [Zc 158,.int .i64 0] 28 149 true [37,29,28,27,20,19,13,12,8,7,1,0,6,4,3,2,5,11,9,10,18,17,16,15,14,26,24,23,22,21,25,32,30,31,33,34,35,36],Zf 160 .pick [Zc 149,Zc 159,.bool false] [28,27,20,19,13,12,8,7,1,0,6,4,3,2,5,11,9,10,18,17,16,15,14,26,24,23,22,21,25,38,37,29,32,30,31,33,34,35,36],Zf 0 .mv [Zc 160] [39,28,27,20,19,13,12,8,7,1,0,6,4,3,2,5,11,9,10,18,17,16,15,14,26,24,23,22,21,25,38,37,29,32,30,31,33,34,35,36]]) .ret))))))))))))))))))⟩
def x8_0:XC:=(.seq (Zg [Za 39 9,Za 40 1,Zb 41 (.len false) [Zc 40],Zb 42 (.bin .lss) [Zc 39,Zc 41]] (.cond (Zc 42) .skip (.exit 0))) (.seq (.block 1 (Zg [Za 45 1,Za 46 9,Zb 47 (.iaddr Z11) [Zc 45,Zc 46],Zb 48 (.faddr 1 Z10) [Zc 47],Zb 49 (.load Z10) [Zc 48],Zb 50 (.len false) [Zc 49],Zb 51 (.bin .gtr) [Zc 50,.int .i64 4],Za 52 51,Ze 53 .mv [Zc 1] 7 52 false,Ze 54 .mv [Zc 9] 7 52 false,Ze 55 (.iaddr Z11) [Zc 53,Zc 54] 7 52 false,Ze 56 (.faddr 2 Z3) [Zc 55] 7 52 false,Ze 57 (.load Z3) [Zc 56] 7 52 false,Ze 58 (.len false) [Zc 57] 7 52 false,Ze 59 (.bin .gtr) [Zc 58,.int .i64 6] 7 52 false,Zb 60 .pick [Zc 52,.bool true,Zc 59],Za 61 60,Ze 62 .mv [Zc 1] 16 61 false,Ze 63 .mv [Zc 9] 16 61 false,Ze 64 (.iaddr Z11) [Zc 62,Zc 63] 16 61 false,Ze 65 (.faddr 3 Z9) [Zc 64] 16 61 false,Ze 66 (.load Z9) [Zc 65] 16 61 false,Ze 67 (.len false) [Zc 66] 16 61 false,Ze 68 (.bin .gtr) [Zc 67,.int .i64 6] 16 61 false,Zb 69 .pick [Zc 61,.bool true,Zc 68]] (.cond (Zc 69) (Zg [Zb 8 .mv [.bool false]] .ret) .skip))) (.clean (.reg false [Za 43 9,Zb 44 (.bin .add) [Zc 43,.int .i64 1],Za 9 44]))))
def x8_0d:List Nat:=[8,9]
def x8_1:XC:=(.seq (Zg [Za 70 10,Za 71 3,Zb 72 (.len false) [.t 71],Zb 73 (.bin .lss) [.t 70,.t 72]] (.cond (.t 73) .skip (.exit 2))) (.seq (.block 3 (Zg [Za 76 3,Za 77 10,Zb 78 (.iaddr Z12) [.t 76,.t 77],Zb 79 (.faddr 0 Z9) [.t 78],Zb 80 (.load Z9) [.t 79],Zb 81 (.len false) [.t 80],Zb 82 (.bin .gtr) [.t 81,.int .i64 3]] (.cond (.t 82) (Zg [Zb 8 .mv [.bool false]] .ret) .skip))) (.clean (.reg false [Za 74 10,Zb 75 (.bin .add) [.t 74,.int .i64 1],Za 10 75]))))
def x8_1d:List Nat:=[8,10]
def x8:XF:=⟨83,[.tmp 8],[0,1,2,3,4,8,9,10],(Zg [Zb 4 (.box 29) [Zc 0],Zb 8 .mv [.bool false]] (.seq (Zg [Zb 11 (.load Z23) [Zc 4],Zb 12 (.call 30) [Zc 11,.nil],Zb 13 .not [Zc 12],Za 14 13,Ze 15 .mv [Zc 1] 3 14 false,Ze 16 (.len false) [Zc 15] 3 14 false,Ze 17 (.bin .gtr) [Zc 16,.int .i64 3] 3 14 false,Zb 18 .pick [Zc 14,.bool true,Zc 17],Za 19 18,Ze 20 .mv [Zc 2] 8 19 false,Ze 21 (.len false) [Zc 20] 8 19 false,Ze 22 (.bin .gtr) [Zc 21,.int .i64 2] 8 19 false,Ze 23 .mv [Zc 22] 8 19 false,Ze 24 .mv [Zc 2] 12 23 true,Ze 25 (.len false) [Zc 24] 12 23 true,Ze 26 (.bin .leq) [Zc 25,.int .i64 4] 12 23 true,Ze 27 .pick [Zc 23,Zc 26,.bool false] 8 19 false,Zb 28 .pick [Zc 19,.bool true,Zc 27],Za 29 28,Ze 30 .mv [Zc 2] 18 29 false,Ze 31 (.len false) [Zc 30] 18 29 false,Ze 32 (.bin .gtr) [Zc 31,.int .i64 8] 18 29 false,Zb 33 .pick [Zc 29,.bool true,Zc 32],Za 34 33,Ze 35 .mv [Zc 3] 23 34 false,Ze 36 (.len false) [Zc 35] 23 34 false,Ze 37 (.bin .gtr) [Zc 36,.int .i64 12] 23 34 false,Zb 38 .pick [Zc 34,.bool true,Zc 37]] (.cond (Zc 38) (Zg [Zb 8 .mv [.bool false]] .ret) .skip)) (.clean (.seq (Zg [Zb 9 .mv [.int .i64 0]] (.block 0 (.loop x8_0))) (.clean (.seq (Zg [Zb 10 .mv [.int .i64 0]] (.block 2 (.loop x8_1))) (Zg [Zb 8 .mv [.bool true]] .ret)))))))⟩
def x10:XF:=⟨16,[.cell 2 Z23],[0,1,2],(Zg [Zb 1 (.box 29) [.t 0],Zb 2 (.alloc 39 Z23) []] (Zg [Zb 3 (.faddr 0 Z1) [.t 1],Zd 4 Z1 3,Zb 5 (.faddr 1 Z20) [.t 1],Zd 6 Z20 5,Zb 7 (.faddr 2 Z22) [.t 1],Zd 8 Z22 7,Zb 9 (.faddr 3 Z7) [.t 1],Zd 10 Z7 9,Zb 11 (.faddr 4 Z21) [.t 1],Zd 12 Z21 11,Zb 13 (.faddr 5 Z5) [.t 1],Zd 14 Z5 13,Zb 15 (.build Z23 [(0,Z1),(1,Z20),(2,Z22),(3,Z7),(4,Z21),(5,Z5)]) [.t 4,.t 6,.t 8,.t 10,.t 12,.t 14],⟨none,.store Z23,[.t 2,.t 15],none,[]⟩] .ret))⟩
def x13_0:XC:=(.seq (Zg [Za 11 5,Za 12 0,Zf 13 (.len false) [.t 12] [],Zf 14 (.bin .lss) [.t 11,.t 13] []] (.cond (.t 14) .skip (.exit 0))) (.seq (.block 1 (.seq (.reg true [Za 17 0,Za 18 5,Zf 19 (.iaddr Z1) [.t 17,.t 18] [0,1],Zf 20 (.load Z1) [.t 19] [2,0,1],Za 21 1,Za 22 5,Zf 23 (.iaddr Z1) [.t 21,.t 22] [4,5],Zf 24 (.load Z1) [.t 23] [6,4,5],Zf 25 (.bin .neq) [.t 20,.t 24] [3,2,0,1,7,6,4,5]]) (.cond (.t 25) (Zg [Zf 4 .mv [.bool false] []] .ret) .skip))) (.clean (.reg false [Za 15 5,Zf 16 (.bin .add) [.t 15,.int .i64 1] [],Za 5 16]))))
def x13_0d:List Nat:=[4,5]
def x13:XF:=⟨26,[.tmp 4],[0,1,4,5],(Zg [Zb 4 .mv [.bool false]] (.seq (Zg [Zb 6 .mv [.t 0],Zb 7 (.len false) [.t 6],Zb 8 .mv [.t 1],Zb 9 (.len false) [.t 8],Zb 10 (.bin .neq) [.t 7,.t 9]] (.cond (.t 10) (Zg [Zb 4 .mv [.bool false]] .ret) .skip)) (.clean (.seq (Zg [Zb 5 .mv [.int .i64 0]] (.block 0 (.loop x13_0))) (Zg [Zb 4 .mv [.bool true]] .ret)))))⟩
def x26:XF:=⟨60,[.tmp 4],[0,1,2,3,4,5,6],(Zg [Zb 2 (.box 39) [Zc 0],Zb 3 (.box 65) [Zc 1],Zb 4 .mv [.int .i64 0]] (Zg [Zd 8 Z23 2,Zb 9 (.faddr 0 Z1) [Zc 3],Zd 10 Z1 9,Zb 11 (.faddr 1 Z10) [Zc 3],Zd 12 Z10 11,Zb 13 (.call 51) [Zc 8,Zc 10,Zc 12],Za 7 13,Zb 14 (.extract 0) [Zc 7],Zb 15 (.extract 1) [Zc 7],Zb 5 (.alloc 102 Z14) [],⟨none,.store Z14,[Zc 5,Zc 14],none,[]⟩,Za 6 15] (.clean (.seq (.block 0 (Zg [Za 17 6,Zb 18 (.bin .neq) [Zc 17,.int .i64 0],Za 16 18] (.cond (Zc 16) (Zg [Za 19 6,Za 4 19] .ret) (Zg [Zb 21 (.faddr 2 Z3) [Zc 3],Zd 22 Z3 21,Zb 23 (.faddr 1 Z3) [Zc 5],Zd 24 Z3 23,Zb 25 (.call 43) [Zc 22,Zc 24],Zb 26 .not [Zc 25],Za 27 26,Ze 28 (.faddr 3 Z9) [Zc 3] 6 27 false,Ze 29 (.load Z9) [Zc 28] 6 27 false,Ze 30 (.len false) [Zc 29] 6 27 false,Ze 31 (.faddr 0 Z3) [Zc 5] 6 27 false,Ze 32 (.load Z3) [Zc 31] 6 27 false,Ze 33 (.len false) [Zc 32] 6 27 false,Ze 34 (.bin .neq) [Zc 30,Zc 33] 6 27 false,Zb 35 .pick [Zc 27,.bool true,Zc 34],Za 36 35,Ze 37 (.faddr 3 Z9) [Zc 3] 15 36 false,Ze 38 (.load Z9) [Zc 37] 15 36 false,Ze 39 (.call 52) [.int .i64 1048576,Zc 38] 15 36 false,Ze 40 .not [Zc 39] 15 36 false,Zb 41 .pick [Zc 36,.bool true,Zc 40],Za 42 41,Ze 43 (.load Z14) [Zc 5] 21 42 false,Ze 44 (.call 53) [Zc 43] 21 42 false,Ze 45 .not [Zc 44] 21 42 false,Zb 46 .pick [Zc 42,.bool true,Zc 45],Za 20 46] (.cond (Zc 20) (Zg [Zb 4 .mv [.int .i64 23]] .ret) (Zg [Zd 48 Z14 5,Zb 49 (.faddr 3 Z9) [Zc 3],Zd 50 Z9 49,Zb 51 (.call 54) [Zc 48,Zc 50],Zb 52 .not [Zc 51],Za 47 52] (.cond (Zc 47) (Zg [Zb 4 .mv [.int .i64 20]] .ret) (Zg [Zd 54 Z23 2,Zd 55 Z14 5,Zb 56 (.faddr 3 Z9) [Zc 3],Zd 57 Z9 56,Zb 58 (.call 55) [Zc 54,Zc 55,Zc 57],Zb 59 .not [Zc 58],Za 53 59] (.cond (Zc 53) (Zg [Zb 4 .mv [.int .i64 29]] .ret) .skip))))))))) (Zg [Zb 4 .mv [.int .i64 0]] .ret)))))⟩
def x27:XF:=⟨45,[.cell 6 Z11,.tmp 7],[0,1,2,3,6,7,8,9,10],(Zg [Zb 3 (.box 39) [Zc 0],Zb 6 (.alloc 65 Z11) [],Zb 7 .mv [.int .i64 0]] (Zg [Zd 12 Z23 3,Za 13 1,Za 14 2,Zb 15 (.call 51) [Zc 12,Zc 13,Zc 14],Za 11 15,Zb 16 (.extract 0) [Zc 11],Zb 17 (.extract 1) [Zc 11],Zb 8 (.alloc 102 Z14) [],Zi Z14 8 16,Za 9 17] (.clean (.seq (Zg [Za 18 9,Zb 19 (.bin .neq) [Zc 18,.int .i64 0]] (.cond (Zc 19) (Zg [Zb 20 (.build Z11 []) [],Za 21 9,Zi Z11 6 20,Za 7 21] .ret) .skip)) (.clean (Zg [Zd 23 Z14 8,Zb 24 (.call 56) [Zc 23],Za 22 24,Zb 25 (.extract 0) [Zc 22],Zb 26 (.extract 1) [Zc 22],Za 10 25,Za 9 26] (.clean (.seq (.block 0 (Zg [Za 28 9,Zb 29 (.bin .neq) [Zc 28,.int .i64 0],Za 27 29] (.cond (Zc 27) (Zg [Zb 30 (.build Z11 []) [],Zi Z11 6 30,Zb 7 .mv [.int .i64 20]] .ret) (Zg [Zd 32 Z23 3,Zd 33 Z14 8,Za 34 10,Zb 35 (.call 55) [Zc 32,Zc 33,Zc 34],Zb 36 .not [Zc 35],Za 31 36] (.cond (Zc 31) (Zg [Zb 37 (.build Z11 []) [],Zi Z11 6 37,Zb 7 .mv [.int .i64 29]] .ret) .skip))))) (.clean (.seq (.reg true [Za 38 1,Za 39 2,Zf 40 (.call 57) [Zc 39] [1],Zb 41 (.faddr 1 Z3) [Zc 8],Zf 42 (.load Z3) [Zc 41] [3],Za 43 10,Zf 44 (.build Z11 [(0,Z1),(1,Z10),(2,Z3),(3,Z9)]) [Zc 38,Zc 40,Zc 42,Zc 43] [0,2,1,4,3,5],⟨none,.store Z11,[Zc 6,Zc 44],none,[6,0,2,1,4,3,5]⟩,Zf 7 .mv [.int .i64 0] [7,6,0,2,1,4,3,5]]) .ret))))))))))⟩
def x28_1:XC:=(.seq (Zg [Za 17 4,Zb 18 (.bin .lss) [Zc 17,.int .i64 24]] (.cond (Zc 18) .skip (.exit 2))) (.seq (.block 3 (Zg [Zb 21 (.faddr 2 Z9) [Zc 3],Zb 22 (.load Z9) [Zc 21],Zb 23 (.bslice 3 Z1 1 [0]) [.int .i64 10],Zb 24 (.append 3 Z1 8) [Zc 22,Zc 23],Zb 25 (.faddr 2 Z9) [Zc 3],⟨none,.store Z9,[Zc 25,Zc 24],none,[]⟩] (.reg false [Zb 26 (.faddr 3 Z9) [Zc 3],Zb 27 (.load Z9) [Zc 26],Zb 28 (.bslice 3 Z1 1 [0]) [.int .i64 10],Zb 29 (.append 3 Z1 8) [Zc 27,Zc 28],Zb 30 (.faddr 3 Z9) [Zc 3],⟨none,.store Z9,[Zc 30,Zc 29],none,[]⟩]))) (.clean (.reg false [Za 19 4,Zb 20 (.bin .add) [Zc 19,.int .i64 1],Za 4 20]))))
def x28_1d:List Nat:=[4]
def x28_0:XC:=(.seq (Zg [Za 9 2,Zb 10 (.bin .lss) [Zc 9,.int .i64 2]] (.cond (Zc 10) .skip (.exit 0))) (.seq (.block 1 (Zg [Za 13 2,Za 14 2,Zb 15 (.bin .sub) [.int .i64 1,Zc 14],Zb 16 (.build Z16 [(0,Z1),(1,Z1)]) [Zc 13,Zc 15],Zb 3 (.alloc 113 Z16) [],⟨none,.store Z16,[Zc 3,Zc 16],none,[]⟩] (.seq (Zg [Zb 4 .mv [.int .i64 0]] (.block 2 (.loop x28_1))) (.clean (.reg false [Zb 31 (.faddr 1 Z20) [Zc 1],Zb 32 (.load Z20) [Zc 31],Zb 33 (.load Z16) [Zc 3],Zb 34 (.bslice 113 Z16 1 [0]) [Zc 33],Zb 35 (.append 113 Z16 64) [Zc 32,Zc 34],Zb 36 (.faddr 1 Z20) [Zc 1],⟨none,.store Z20,[Zc 36,Zc 35],none,[]⟩]))))) (.clean (.reg false [Za 11 2,Zb 12 (.bin .add) [Zc 11,.int .i64 1],Za 2 12]))))
def x28_0d:List Nat:=[2,3,4]
def x28_2:XC:=(.seq (Zg [Za 37 5,Zb 38 (.bin .lss) [Zc 37,.int .i64 3]] (.cond (Zc 38) .skip (.exit 4))) (.seq (.block 5 (Zg [Zb 41 (.faddr 2 Z22) [Zc 1],Zb 42 (.load Z22) [Zc 41],Zb 43 (.build Z17 [(3,Z1),(4,Z1)]) [.int .i64 100,.int .i64 1],Zb 44 (.bslice 115 Z17 1 [0]) [Zc 43],Zb 45 (.append 115 Z17 72) [Zc 42,Zc 44],Zb 46 (.faddr 2 Z22) [Zc 1],⟨none,.store Z22,[Zc 46,Zc 45],none,[]⟩] (.clean (.reg false [Zb 47 (.faddr 3 Z7) [Zc 1],Zb 48 (.load Z7) [Zc 47],Zb 49 (.build Z6 [(2,Z1),(3,Z1),(4,Z1),(5,Z1),(6,Z1),(7,Z1)]) [.int .i64 1,.int .i64 20,.int .i64 30,.int .i64 60,.int .i64 40,.int .i64 1],Zb 50 (.bslice 117 Z6 1 [0]) [Zc 49],Zb 51 (.append 117 Z6 80) [Zc 48,Zc 50],Zb 52 (.faddr 3 Z7) [Zc 1],⟨none,.store Z7,[Zc 52,Zc 51],none,[]⟩])))) (.clean (.reg false [Za 39 5,Zb 40 (.bin .add) [Zc 39,.int .i64 1],Za 5 40]))))
def x28_2d:List Nat:=[5]
def x28:XF:=⟨54,[.cell 0 Z23],[0,1,2,3,4,5],(Zg [Zb 0 (.alloc 39 Z23) []] (Zg [Zb 1 (.alloc 39 Z23) []] (Zg [Zb 6 (.faddr 0 Z1) [.t 1],⟨none,.store Z1,[.t 6,.int .i64 2],none,[]⟩] (Zg [Zb 7 (.build Z5 [(0,Z1),(1,Z1),(2,Z1)]) [.int .i64 100,.int .i64 30,.int .i64 300],Zb 8 (.faddr 5 Z5) [.t 1],⟨none,.store Z5,[.t 8,.t 7],none,[]⟩] (.seq (Zg [Zb 2 .mv [.int .i64 0]] (.block 0 (.loop x28_0))) (.clean (.seq (Zg [Zb 5 .mv [.int .i64 0]] (.block 4 (.loop x28_2))) (Zg [Zb 53 (.load Z23) [.t 1],⟨none,.store Z23,[.t 0,.t 53],none,[]⟩] .ret))))))))⟩
def x29:XF:=⟨31,[.tmp 4],[0,1,2,3,4],(Zg [Zb 2 (.box 65) [Zc 0],Zb 3 (.box 65) [Zc 1],Zb 4 .mv [.bool false]] (Zg [Zb 5 (.faddr 0 Z1) [Zc 2],Zb 6 (.load Z1) [Zc 5],Zb 7 (.faddr 0 Z1) [Zc 3],Zb 8 (.load Z1) [Zc 7],Zb 9 (.bin .eql) [Zc 6,Zc 8],Za 10 9,Ze 11 (.faddr 1 Z10) [Zc 2] 5 10 true,Ze 12 (.load Z10) [Zc 11] 5 10 true,Ze 13 (.faddr 1 Z10) [Zc 3] 5 10 true,Ze 14 (.load Z10) [Zc 13] 5 10 true,Ze 15 (.call 58) [Zc 12,Zc 14] 5 10 true,Zb 16 .pick [Zc 10,Zc 15,.bool false],Za 17 16,Ze 18 (.faddr 2 Z3) [Zc 2] 12 17 true,Ze 19 (.load Z3) [Zc 18] 12 17 true,Ze 20 (.faddr 2 Z3) [Zc 3] 12 17 true,Ze 21 (.load Z3) [Zc 20] 12 17 true,Ze 22 (.call 59) [Zc 19,Zc 21] 12 17 true,Zb 23 .pick [Zc 17,Zc 22,.bool false],Za 24 23,Ze 25 (.faddr 3 Z9) [Zc 2] 19 24 true,Ze 26 (.load Z9) [Zc 25] 19 24 true,Ze 27 (.faddr 3 Z9) [Zc 3] 19 24 true,Ze 28 (.load Z9) [Zc 27] 19 24 true,Ze 29 (.call 60) [Zc 26,Zc 28] 19 24 true,Zb 30 .pick [Zc 24,Zc 29,.bool false],Za 4 30] .ret))⟩
def x30_0:XC:=(.seq (Zg [Za 6 5,Zb 7 (.faddr 1 Z20) [Zc 2],Zd 8 Z20 7,Zb 9 (.len false) [Zc 8],Zb 10 (.bin .lss) [Zc 6,Zc 9],Za 11 10,Ze 12 .mv [Zc 5] 5 11 true,Ze 13 (.bin .leq) [Zc 12,.int .i64 10] 5 11 true,Zb 14 .pick [Zc 11,Zc 13,.bool false]] (.cond (Zc 14) .skip (.exit 0))) (.clean (.seq (.block 1 (Zg [Zb 17 (.faddr 1 Z20) [Zc 2],Zd 18 Z20 17,Za 19 5,Zb 20 (.iaddr Z16) [Zc 18,Zc 19],Zb 21 (.faddr 2 Z9) [Zc 20],Zd 22 Z9 21,Zb 23 (.len false) [Zc 22],Zb 24 (.bin .gtr) [Zc 23,.int .i64 25],Za 25 24,Ze 26 (.faddr 1 Z20) [Zc 2] 8 25 false,Ze 27 (.load Z20) [Zc 26] 8 25 false,Ze 28 .mv [Zc 5] 8 25 false,Ze 29 (.iaddr Z16) [Zc 27,Zc 28] 8 25 false,Ze 30 (.faddr 3 Z9) [Zc 29] 8 25 false,Ze 31 (.load Z9) [Zc 30] 8 25 false,Ze 32 (.len false) [Zc 31] 8 25 false,Ze 33 (.bin .gtr) [Zc 32,.int .i64 25] 8 25 false,Zb 34 .pick [Zc 25,.bool true,Zc 33]] (.cond (Zc 34) (Zg [Zb 4 .mv [.bool false]] .ret) .skip))) (.clean (.reg false [Za 15 5,Zb 16 (.bin .add) [Zc 15,.int .i64 1],Za 5 16])))))
def x30_0d:List Nat:=[4,5]
def x30:XF:=⟨72,[.tmp 4],[0,1,2,4,5],(Zg [Zb 2 (.box 29) [Zc 0],Zb 4 .mv [.bool false]] (.seq (Zg [Zb 5 .mv [.int .i64 0]] (.block 0 (.loop x30_0))) (.clean (Zg [Zb 35 (.faddr 0 Z1) [Zc 2],Zb 36 (.load Z1) [Zc 35],Zb 37 (.bin .leq) [Zc 36,.int .i64 5],Za 38 37,Ze 39 (.faddr 0 Z1) [Zc 2] 3 38 false,Ze 40 (.load Z1) [Zc 39] 3 38 false,Ze 41 (.bin .gtr) [Zc 40,.int .i64 2000] 3 38 false,Zb 42 .pick [Zc 38,.bool true,Zc 41],Za 43 42,Ze 44 (.faddr 1 Z20) [Zc 2] 8 43 true,Ze 45 (.load Z20) [Zc 44] 8 43 true,Ze 46 (.len false) [Zc 45] 8 43 true,Ze 47 (.bin .leq) [Zc 46,.int .i64 10] 8 43 true,Zb 48 .pick [Zc 43,Zc 47,.bool false],Za 49 48,Ze 50 (.faddr 2 Z22) [Zc 2] 14 49 true,Ze 51 (.load Z22) [Zc 50] 14 49 true,Ze 52 (.len false) [Zc 51] 14 49 true,Ze 53 (.bin .leq) [Zc 52,.int .i64 4] 14 49 true,Zb 54 .pick [Zc 49,Zc 53,.bool false],Za 55 54,Ze 56 (.faddr 3 Z7) [Zc 2] 20 55 true,Ze 57 (.load Z7) [Zc 56] 20 55 true,Ze 58 (.len false) [Zc 57] 20 55 true,Ze 59 (.bin .leq) [Zc 58,.int .i64 8] 20 55 true,Zb 60 .pick [Zc 55,Zc 59,.bool false],Za 61 60,Ze 62 (.faddr 4 Z21) [Zc 2] 26 61 true,Ze 63 (.load Z21) [Zc 62] 26 61 true,Ze 64 (.len false) [Zc 63] 26 61 true,Ze 65 (.bin .leq) [Zc 64,.int .i64 5] 26 61 true,Zb 66 .pick [Zc 61,Zc 65,.bool false],Za 67 66,Ze 68 .mv [Zc 1] 32 67 true,Ze 69 (.len false) [Zc 68] 32 67 true,Ze 70 (.bin .leq) [Zc 69,.int .i64 10] 32 67 true,Zb 71 .pick [Zc 67,Zc 70,.bool false],Za 4 71] .ret))))⟩
def x31_0:XC:=(Zg [Zb 32 (.bin .lss) [Zc 31,Zc 30]] (.seq (.cond (Zc 32) .skip (.exit 0)) (.seq (.block 1 (Zg [Za 33 31,Zb 34 (.iaddr Z11) [Zc 29,Zc 31],Zb 35 (.load Z11) [Zc 34],Zb 10 (.alloc 65 Z11) [],Za 9 33,⟨none,.store Z11,[Zc 10,Zc 35],none,[]⟩] (Zg [Za 36 1,Za 37 9,Zb 38 (.slice Z11 false true false) [Zc 36,Zc 37],Zb 39 (.mkfn 63) [Zc 10],Zb 40 (.call 62) [Zc 38,Zc 39],Za 11 40] (.clean (Zg [Zb 41 (.faddr 0 Z1) [Zc 10],Zb 42 (.load Z1) [Zc 41],Za 43 2,Zb 44 (.bin .neq) [Zc 42,Zc 43],Za 45 44,Ze 46 (.faddr 1 Z10) [Zc 10] 4 45 true,Ze 47 (.load Z10) [Zc 46] 4 45 true,Ze 48 (.mkfn 65) [Zc 7] 4 45 true,Ze 49 (.call 64) [Zc 47,Zc 48] 4 45 true,Zb 50 .pick [Zc 45,Zc 49,.bool false],Za 12 50] (.clean (Zg [Za 51 11,Za 52 51,Ze 53 .mv [Zc 12] 1 52 false,Zb 54 .pick [Zc 52,.bool true,Zc 53],Za 55 54,Ze 56 (.load Z23) [Zc 4] 4 55 false,Ze 57 (.load Z11) [Zc 10] 4 55 false,Ze 58 (.call 26) [Zc 56,Zc 57] 4 55 false,Ze 59 (.bin .neq) [Zc 58,.int .i64 0] 4 55 false,Zb 60 .pick [Zc 55,.bool true,Zc 59]] (.cond (Zc 60) (Zg [Zb 8 .mv [.bool false]] .ret) .skip)))))))) (.reg false [Zb 61 (.bin .add) [Zc 31,.int .i64 1],Za 31 61]))))
def x31_0d:List Nat:=[8,9,10,11,12,31]
def x31_1:XC:=(Zg [Zb 65 (.bin .lss) [Zc 64,Zc 63]] (.seq (.cond (Zc 65) .skip (.exit 2)) (.seq (.block 3 (Zg [Za 66 64,Zb 67 (.iaddr Z1) [Zc 62,Zc 64],Zb 68 (.load Z1) [Zc 67],Za 13 66,Za 14 68] (Zg [Za 69 14,Zb 70 (.bin .lss) [Zc 69,.int .i64 0],Za 71 70,Ze 72 .mv [Zc 14] 2 71 false,Ze 73 (.faddr 3 Z7) [Zc 4] 2 71 false,Ze 74 (.load Z7) [Zc 73] 2 71 false,Ze 75 (.len false) [Zc 74] 2 71 false,Ze 76 (.bin .geq) [Zc 72,Zc 75] 2 71 false,Zb 77 .pick [Zc 71,.bool true,Zc 76],Za 78 77,Ze 79 (.load Z9) [Zc 7] 9 78 false,Ze 80 .mv [Zc 13] 9 78 false,Ze 81 (.slice Z1 false true false) [Zc 79,Zc 80] 9 78 false,Ze 82 .mv [Zc 14] 9 78 false,Ze 83 (.call 66) [Zc 81,Zc 82] 9 78 false,Zb 84 .pick [Zc 78,.bool true,Zc 83]] (.cond (Zc 84) (Zg [Zb 8 .mv [.bool false]] .ret) .skip)))) (.reg false [Zb 85 (.bin .add) [Zc 64,.int .i64 1],Za 64 85]))))
def x31_1d:List Nat:=[8,13,14,64]
def x31:XF:=⟨86,[.tmp 8],[0,1,2,3,4,7,8,9,10,11,12,13,14,29,30,31,62,63,64],(Zg [Zb 4 (.box 39) [Zc 0],Zb 7 (.box 31) [Zc 3],Zb 8 .mv [.bool false]] (.seq (Zg [Zb 15 (.load Z23) [Zc 4],Zb 16 (.call 61) [Zc 15],Zb 17 .not [Zc 16],Za 18 17,Ze 19 .mv [Zc 2] 3 18 false,Ze 20 (.bin .lss) [Zc 19,.int .i64 0] 3 18 false,Zb 21 .pick [Zc 18,.bool true,Zc 20],Za 22 21,Ze 23 .mv [Zc 2] 7 22 false,Ze 24 (.faddr 2 Z22) [Zc 4] 7 22 false,Ze 25 (.load Z22) [Zc 24] 7 22 false,Ze 26 (.len false) [Zc 25] 7 22 false,Ze 27 (.bin .geq) [Zc 23,Zc 26] 7 22 false,Zb 28 .pick [Zc 22,.bool true,Zc 27]] (.cond (Zc 28) (Zg [Zb 8 .mv [.bool false]] .ret) .skip)) (.clean (.seq (Zg [Za 29 1,Zb 30 (.len false) [Zc 29],Zb 31 .mv [.int .i64 0]] (.block 0 (.loop x31_0))) (.clean (.seq (Zg [Zb 62 (.load Z9) [Zc 7],Zb 63 (.len false) [Zc 62],Zb 64 .mv [.int .i64 0]] (.block 2 (.loop x31_1))) (Zg [Zb 8 .mv [.bool true]] .ret)))))))⟩
def x32_0:XC:=(Zg [Zb 11 (.bin .lss) [.t 10,.t 9]] (.seq (.cond (.t 11) .skip (.exit 0)) (.seq (.block 1 (Zg [Zb 12 (.iaddr Z11) [.t 8,.t 10],Zd 13 Z11 12,Zb 7 (.alloc 65 Z11) [],⟨none,.store Z11,[.t 7,.t 13],none,[]⟩] (Zg [Zb 14 (.faddr 0 Z1) [.t 7],Zd 15 Z1 14,Za 16 1,Zb 17 (.bin .neq) [.t 15,.t 16]] (.cond (.t 17) (.reg false [Za 18 5,Zd 19 Z11 7,Zb 20 (.bslice 65 Z11 1 [0]) [.t 19],Zb 21 (.append 65 Z11 80) [.t 18,.t 20],Za 5 21]) .skip)))) (.reg false [Zb 22 (.bin .add) [.t 10,.int .i64 1],Za 10 22]))))
def x32_0d:List Nat:=[5,7,10]
def x32:XF:=⟨24,[.tmp 4],[0,1,4,5,7,8,9,10],(Zg [Zb 4 (.nilrow 65 Z11) []] (Zg [Zb 5 (.nilrow 65 Z11) []] (.seq (Zg [Za 8 0,Zb 9 (.len false) [.t 8],Zb 10 .mv [.int .i64 0]] (.block 0 (.loop x32_0))) (Zg [Za 23 5,Za 4 23] .ret))))⟩
def x36_0:XC:=(Zg [Zb 13 (.bin .lss) [Zc 12,Zc 11]] (.seq (.cond (Zc 13) .skip (.exit 0)) (.seq (.block 1 (Zg [Za 14 12,Za 7 14] (.seq (.reg true [Za 15 0,Za 16 7,Zf 17 (.iaddr Z1) [Zc 15,Zc 16] [0,1],Zf 18 (.load Z1) [Zc 17] [2,0,1],Zf 19 (.bin .lss) [Zc 18,.int .i64 0] [3,2,0,1],Za 20 1,Za 21 7,Zf 22 (.iaddr Z1) [Zc 20,Zc 21] [5,6],Zf 23 (.load Z1) [Zc 22] [7,5,6],Zf 24 (.bin .lss) [Zc 23,.int .i64 0] [8,7,5,6],Zf 8 .mv [Zc 19] [4,3,2,0,1],Zf 9 .mv [Zc 24] [9,8,7,5,6,10,4,3,2,0,1]]) (.clean (.block 2 (Zg [Za 26 8,Za 27 26,⟨some 28,.mv,[Zc 9],some (1,27,true),[]⟩,⟨some 29,.not,[Zc 28],some (1,27,true),[]⟩,Zb 30 .pick [Zc 27,Zc 29,.bool false],Za 25 30] (.cond (Zc 25) (Zg [Za 31 5,Zb 32 (.bin .add) [Zc 31,.int .i64 1],Za 5 32] (Zg [Za 33 6,Zb 34 (.bin .eql) [Zc 33,.int .i64 0]] (.cond (Zc 34) (.reg false [Zb 6 .mv [.int .i64 1]]) .skip))) (Zg [Za 36 9,Za 37 36,⟨some 38,.mv,[Zc 8],some (1,37,true),[]⟩,⟨some 39,.not,[Zc 38],some (1,37,true),[]⟩,Zb 40 .pick [Zc 37,Zc 39,.bool false],Za 35 40] (.cond (Zc 35) (Zg [Za 41 5,Zb 42 (.bin .sub) [Zc 41,.int .i64 1],Za 5 42] (Zg [Za 43 6,Zb 44 (.bin .eql) [Zc 43,.int .i64 0]] (.cond (Zc 44) (.reg false [Zb 6 .mv [.int .i64 (-1)]]) .skip))) .skip))))))))) (.reg false [Zb 45 (.bin .add) [Zc 12,.int .i64 1],Za 12 45]))))
def x36_0d:List Nat:=[5,6,7,8,9,12]
def x36:XF:=⟨50,[.tmp 4],[0,1,4,5,6,7,8,9,11,12],(Zg [Zb 4 .mv [.int .i64 0]] (Zg [Zb 5 .mv [.int .i64 0],Zb 6 .mv [.int .i64 0]] (.seq (Zg [Za 10 0,Zb 11 (.len false) [.t 10],Zb 12 .mv [.int .i64 0]] (.block 0 (.loop x36_0))) (.clean (.seq (Zg [Za 46 5,Zb 47 (.bin .neq) [.t 46,.int .i64 0]] (.cond (.t 47) (Zg [Za 48 5,Za 4 48] .ret) .skip)) (Zg [Za 49 6,Za 4 49] .ret))))))⟩
def x37_0:XC:=(Zg [Zb 9 (.bin .lss) [Zc 8,Zc 7]] (.seq (.cond (Zc 9) .skip (.exit 0)) (.seq (.block 1 (Zg [Zb 10 (.iaddr Z11) [Zc 6,Zc 8],Zb 11 (.load Z11) [Zc 10],Zb 5 (.alloc 65 Z11) [],⟨none,.store Z11,[Zc 5,Zc 11],none,[]⟩] (.reg true [Zb 12 .mv [Zc 3],Zb 13 (.faddr 0 Z1) [Zc 5],Zf 14 (.load Z1) [Zc 13] [1],Zb 15 (.faddr 1 Z10) [Zc 5],Zf 16 (.load Z10) [Zc 15] [3],Zf 17 (.call 57) [Zc 16] [4,3],Zb 18 (.faddr 2 Z3) [Zc 5],Zf 19 (.load Z3) [Zc 18] [6],Zf 20 (.call 71) [Zc 19] [7,6,5,4,3],Zb 21 (.faddr 3 Z9) [Zc 5],Zf 22 (.load Z9) [Zc 21] [9],Zf 23 (.call 67) [Zc 22] [10,9,8,7,6,5,4,3],Zf 24 (.build Z11 [(0,Z1),(1,Z10),(2,Z3),(3,Z9)]) [Zc 14,Zc 17,Zc 20,Zc 23] [2,1,5,4,3,8,7,6,11,10,9],Zf 25 (.bslice 65 Z11 1 [0]) [Zc 24] [12,2,1,5,4,3,8,7,6,11,10,9],Zf 26 (.append 65 Z11 80) [Zc 12,Zc 25] [0,13,12,2,1,5,4,3,8,7,6,11,10,9],Zf 3 .mv [Zc 26] [14,0,13,12,2,1,5,4,3,8,7,6,11,10,9]]))) (.reg false [Zb 27 (.bin .add) [Zc 8,.int .i64 1],Zb 8 .mv [Zc 27]]))))
def x37_0d:List Nat:=[3,5,8]
def x37:XF:=⟨29,[.tmp 2],[0,2,3,5,6,7,8],(Zg [Zb 2 (.nilrow 65 Z11) []] (Zg [Zb 3 (.nilrow 65 Z11) []] (.seq (Zg [Za 6 0,Zb 7 (.len false) [.t 6],Zb 8 .mv [.int .i64 0]] (.block 0 (.loop x37_0))) (Zg [Za 28 3,Za 2 28] .ret))))⟩
def x48:XF:=⟨39,[.tmp 4,.tmp 5],[0,1,2,3,4,5,6,7,9],(Zg [Zb 2 (.box 39) [Zc 0],Zb 3 (.box 65) [Zc 1],Zb 4 .mv [.int .i64 0],Zb 5 .mv [.int .i64 0]] (.seq (Zg [Zd 11 Z23 2,Zd 12 Z11 3,Zb 13 (.call 26) [Zc 11,Zc 12],Za 6 13] (Zg [Za 14 6,Zb 15 (.bin .neq) [Zc 14,.int .i64 0]] (.cond (Zc 15) (Zg [Za 16 6,Zb 4 .mv [.int .i64 0],Za 5 16] .ret) .skip))) (.clean (Zg [Zd 18 Z23 2,Zb 19 (.faddr 0 Z1) [Zc 3],Zd 20 Z1 19,Zb 21 (.faddr 1 Z10) [Zc 3],Zd 22 Z10 21,Zb 23 (.call 78) [Zc 18,Zc 20,Zc 22],Za 17 23,Zb 24 (.extract 0) [Zc 17],Zb 25 (.extract 1) [Zc 17],Zb 7 (.alloc 102 Z14) [],⟨none,.store Z14,[Zc 7,Zc 24],none,[]⟩,Za 8 25] (.clean (Zg [Zd 27 Z14 7,Zb 28 (.faddr 3 Z9) [Zc 3],Zd 29 Z9 28,Zb 30 (.call 79) [Zc 27,Zc 29],Za 26 30,Zb 31 (.extract 0) [Zc 26],Zb 32 (.extract 1) [Zc 26],Za 9 31,Za 10 32] (.clean (Zg [Za 33 9,Za 34 9,Zb 35 (.len false) [Zc 34],Zb 36 (.bin .sub) [Zc 35,.int .i64 1],Zb 37 (.iaddr Z1) [Zc 33,Zc 36],Zd 38 Z1 37,Za 4 38,Zb 5 .mv [.int .i64 0]] .ret))))))))⟩
def x50_1:XC:=(.seq (Zg [Za 36 16,Zb 37 (.faddr 1 Z10) [Zc 4],Zd 38 Z10 37,Zb 39 (.len false) [Zc 38],Zb 40 (.bin .leq) [Zc 36,Zc 39]] (.cond (Zc 40) .skip (.exit 2))) (.clean (.seq (.block 3 (.seq (.reg true [Zd 44 Z23 3,Zb 45 (.faddr 0 Z1) [Zc 4],Zf 46 (.load Z1) [Zc 45] [1],Zb 47 (.faddr 1 Z10) [Zc 4],Zf 48 (.load Z10) [Zc 47] [3],Za 49 2,Za 50 15,Za 51 16,Zf 52 (.call 81) [Zc 48,Zc 49,Zc 50,Zc 51] [4,3,5,6,7],Zf 53 (.call 27) [Zc 44,Zc 46,Zc 52] [0,2,1,8,4,3,5,6,7],Zf 43 .mv [Zc 53] [9,0,2,1,8,4,3,5,6,7],Zf 54 (.extract 0) [Zc 43] [10,9,0,2,1,8,4,3,5,6,7],Zf 55 (.extract 1) [Zc 43] [10,9,0,2,1,8,4,3,5,6,7],Zb 17 (.alloc 65 Z11) [],⟨none,.store Z11,[Zc 17,Zc 54],none,[13,11,10,9,0,2,1,8,4,3,5,6,7]⟩,Zf 18 .mv [Zc 55] [12,10,9,0,2,1,8,4,3,5,6,7,14,13,11]]) (.clean (Zg [Za 56 15,Za 57 16,Za 58 18,Zb 59 (.build Z28 [(0,Z1),(1,Z1),(2,Z1)]) [Zc 56,Zc 57,Zc 58],Zb 19 (.alloc 138 Z28) [],Zi Z28 19 59] (.seq (Zg [Za 60 18,Zb 61 (.bin .eql) [Zc 60,.int .i64 0]] (.cond (Zc 61) (Zg [Zd 63 Z23 3,Zd 64 Z11 17,Zb 65 (.call 48) [Zc 63,Zc 64],Za 62 65,Zb 66 (.extract 0) [Zc 62],Zb 67 (.extract 1) [Zc 62],Zb 68 (.faddr 3 Z1) [Zc 19],Zi Z1 68 66] (.clean (.seq (.reg true [Za 69 14,Zf 70 (.bin .lss) [Zc 69,.int .i64 0] [0],Zf 71 .mv [Zc 70] [1,0],Zh 72 (.faddr 3 Z1) [Zc 19] 2 71 false [2,1,0],Zh 73 (.load Z1) [Zc 72] 2 71 false [3,2,1,0],Zh 74 .mv [Zc 13] 2 71 false [2,1,0],Zh 75 .mv [Zc 14] 2 71 false [2,1,0],Zh 76 (.iaddr Z28) [Zc 74,Zc 75] 2 71 false [5,2,1,0,6],Zh 77 (.faddr 3 Z1) [Zc 76] 2 71 false [7,5,2,1,0,6],Zh 78 (.load Z1) [Zc 77] 2 71 false [8,7,5,2,1,0,6],Zh 79 (.bin .lss) [Zc 73,Zc 78] 2 71 false [4,3,2,1,0,9,8,7,5,6],Zf 80 .pick [Zc 71,.bool true,Zc 79] [2,1,0,10,4,3,9,8,7,5,6]]) (.cond (Zc 80) (.reg false [Zd 81 Z11 17,Za 82 13,Zb 83 (.len false) [Zc 82],Zi Z11 12 81,Za 14 83]) .skip)))) .skip)) (.clean (.reg false [Za 84 13,Zd 85 Z28 19,Zb 86 (.bslice 138 Z28 1 [0]) [Zc 85],Zb 87 (.append 138 Z28 32) [Zc 84,Zc 86],Za 13 87]))))))) (.clean (.reg false [Za 41 16,Zb 42 (.bin .add) [Zc 41,.int .i64 1],Za 16 42])))))
def x50_1d:List Nat:=[13,14,16,17,18,19]
def x50_0:XC:=(Zg [Zb 33 (.bin .lss) [.t 32,.t 31]] (.seq (.cond (.t 33) .skip (.exit 0)) (.seq (.block 1 (Zg [Za 34 32,Za 15 34] (Zg [Za 35 15,Za 16 35] (.block 2 (.loop x50_1))))) (.reg false [Zb 88 (.bin .add) [.t 32,.int .i64 1],Za 32 88]))))
def x50_0d:List Nat:=[13,14,15,16,17,18,19,32]
def x50:XF:=⟨105,[.cell 6 Z11,.tmp 7,.tmp 8,.tmp 9,.tmp 10],[0,1,2,3,4,6,7,8,9,10,11,12,13,14,15,16,17,18,19,31,32],(Zg [Zb 3 (.box 39) [Zc 0],Zb 4 (.box 65) [Zc 1],Zb 6 (.alloc 65 Z11) [],Zb 7 .mv [.int .i64 0],Zb 8 .mv [.int .i64 0],Zb 9 (.nilrow 138 Z28) [],Zb 10 .mv [.int .i64 0]] (.clean (.seq (Zg [Zd 20 Z23 3,Zd 21 Z11 4,Za 22 2,Zb 23 (.call 80) [Zc 20,Zc 21,Zc 22],Za 11 23] (Zg [Za 24 11,Zb 25 (.bin .neq) [Zc 24,.int .i64 0]] (.cond (Zc 25) (Zg [Zb 26 (.build Z11 []) [],Za 27 11,⟨none,.store Z11,[Zc 6,Zc 26],none,[]⟩,Zb 7 .mv [.int .i64 0],Zb 8 .mv [.int .i64 0],Zb 9 (.nilrow 138 Z28) [],Za 10 27] .ret) .skip))) (.clean (Zg [Zb 12 (.alloc 65 Z11) []] (Zg [Zb 13 (.nilrow 138 Z28) []] (Zg [Zb 14 .mv [.int .i64 (-1)]] (.seq (Zg [Zb 28 (.faddr 1 Z10) [Zc 4],Zd 29 Z10 28,Zb 30 (.len false) [Zc 29],Zb 31 (.bin .add) [Zc 30,.int .i64 1],Zb 32 .mv [.int .i64 0]] (.block 0 (.loop x50_0))) (.clean (.seq (Zg [Za 89 14,Zb 90 (.bin .lss) [Zc 89,.int .i64 0]] (.cond (Zc 90) (Zg [Zb 91 (.build Z11 []) [],Za 92 13,⟨none,.store Z11,[Zc 6,Zc 91],none,[]⟩,Zb 7 .mv [.int .i64 0],Zb 8 .mv [.int .i64 0],Za 9 92,Zb 10 .mv [.int .i64 4]] .ret) .skip)) (.clean (.seq (.reg true [Zd 93 Z11 12,Za 94 13,Za 95 14,Zf 96 (.iaddr Z28) [Zc 94,Zc 95] [1,2],Zf 97 (.faddr 0 Z1) [Zc 96] [3,1,2],Zf 98 (.load Z1) [Zc 97] [4,3,1,2],Za 99 13,Za 100 14,Zf 101 (.iaddr Z28) [Zc 99,Zc 100] [6,7],Zf 102 (.faddr 1 Z1) [Zc 101] [8,6,7],Zf 103 (.load Z1) [Zc 102] [9,8,6,7],Za 104 13,⟨none,.store Z11,[Zc 6,Zc 93],none,[0]⟩,Zf 7 .mv [Zc 98] [5,4,3,1,2,12,0],Zf 8 .mv [Zc 103] [10,9,8,6,7,13,5,4,3,1,2,12,0],Zf 9 .mv [Zc 104] [11,14,10,9,8,6,7,13,5,4,3,1,2,12,0],Zf 10 .mv [.int .i64 0] [15,11,14,10,9,8,6,7,13,5,4,3,1,2,12,0]]) .ret))))))))))))⟩
def x51:XF:=⟨45,[.cell 6 Z14,.tmp 7],[0,1,2,3,6,7,9],(Zg [Zb 3 (.box 39) [Zc 0],Zb 6 (.alloc 102 Z14) [],Zb 7 .mv [.int .i64 0]] (.seq (Zg [Zd 10 Z23 3,Za 11 1,Za 12 2,Zb 13 (.call 82) [Zc 10,Zc 11,Zc 12],Zb 14 .not [Zc 13]] (.cond (Zc 14) (Zg [Zb 15 (.build Z14 []) [],Zi Z14 6 15,Zb 7 .mv [.int .i64 1]] .ret) .skip)) (.clean (.seq (.seq (.reg true [Zb 17 (.faddr 2 Z22) [Zc 3],Zf 18 (.load Z22) [Zc 17] [0],Za 19 1,Zf 20 (.iaddr Z17) [Zc 18,Zc 19] [1,0,2],Zf 21 (.load Z17) [Zc 20] [3,1,0,2],Za 22 2,Zb 23 (.faddr 3 Z7) [Zc 3],Zf 24 (.load Z7) [Zc 23] [6],Zf 25 (.call 83) [Zc 21,Zc 22,Zc 24] [4,3,1,0,2,5,7,6],Zf 16 .mv [Zc 25] [8,4,3,1,0,2,5,7,6],Zf 26 (.extract 0) [Zc 16] [9,8,4,3,1,0,2,5,7,6],Zf 27 (.extract 1) [Zc 16] [9,8,4,3,1,0,2,5,7,6],Zf 8 .mv [Zc 26] [10,9,8,4,3,1,0,2,5,7,6],Zf 9 .mv [Zc 27] [11,9,8,4,3,1,0,2,5,7,6,12,10]]) (.clean (Zg [Za 28 9,Zb 29 (.bin .neq) [Zc 28,.int .i64 0]] (.cond (Zc 29) (Zg [Zb 30 (.build Z14 []) [],Zi Z14 6 30,Zb 7 .mv [.int .i64 27]] .ret) .skip)))) (.clean (.seq (Zg [Zb 31 (.faddr 4 Z21) [Zc 3],Zd 32 Z21 31,Za 33 2,Zb 34 (.faddr 3 Z7) [Zc 3],Zd 35 Z7 34,Zb 36 (.call 84) [Zc 32,Zc 33,Zc 35],Zb 37 .not [Zc 36]] (.cond (Zc 37) (Zg [Zb 38 (.build Z14 []) [],Zi Z14 6 38,Zb 7 .mv [.int .i64 30]] .ret) .skip)) (.clean (Zg [Zd 39 Z23 3,Za 40 1,Za 41 2,Zb 42 (.call 78) [Zc 39,Zc 40,Zc 41],Zb 43 (.extract 0) [Zc 42],Zb 44 (.extract 1) [Zc 42],Zi Z14 6 43,Za 7 44] .ret))))))))⟩
def x52:XF:=⟨9,[.tmp 4],[0,1,2,4],(Zg [Zb 2 (.box 3) [.t 0],Zb 4 .mv [.bool false]] (Zg [Zb 5 .mv [.t 1],Zb 6 (.mkfn 86) [.t 2],Zb 7 (.call 85) [.t 5,.t 6],Zb 8 .not [.t 7],Zb 4 .mv [.t 8]] .ret))⟩
def x55_0:XC:=(.seq (Zg [Za 37 12,Za 38 11,Zb 39 (.len false) [Zc 38],Zb 40 (.bin .lss) [Zc 37,Zc 39]] (.cond (Zc 40) .skip (.exit 0))) (.seq (.block 1 (.reg true [Za 43 11,Za 44 12,Za 45 9,Za 46 12,Zf 47 (.iaddr Z1) [Zc 45,Zc 46] [2,3],Zf 48 (.load Z1) [Zc 47] [4,2,3],Za 49 9,Za 50 12,Zf 51 (.bin .sub) [Zc 50,.int .i64 1] [7],Zf 52 (.iaddr Z1) [Zc 49,Zc 51] [6,8,7],Zf 53 (.load Z1) [Zc 52] [9,6,8,7],Zf 54 (.bin .sub) [Zc 48,Zc 53] [5,4,2,3,10,9,6,8,7],Zb 55 (.faddr 1 Z3) [Zc 4],Zf 56 (.load Z3) [Zc 55] [12],Za 57 12,Zf 58 (.bin .sub) [Zc 57,.int .i64 1] [14],Zf 59 (.iaddr Z2) [Zc 56,Zc 58] [13,12,15,14],Zf 60 (.faddr 1 Z1) [Zc 59] [16,13,12,15,14],Zf 61 (.load Z1) [Zc 60] [17,16,13,12,15,14],Zf 62 (.bin .sub) [Zc 54,Zc 61] [11,5,4,2,3,10,9,6,8,7,18,17,16,13,12,15,14],Za 63 7,Za 64 12,Zf 65 (.iaddr Z1) [Zc 63,Zc 64] [20,21],Zf 66 (.load Z1) [Zc 65] [22,20,21],Za 67 7,Za 68 12,Zf 69 (.bin .sub) [Zc 68,.int .i64 1] [25],Zf 70 (.iaddr Z1) [Zc 67,Zc 69] [24,26,25],Zf 71 (.load Z1) [Zc 70] [27,24,26,25],Zf 72 (.bin .sub) [Zc 66,Zc 71] [23,22,20,21,28,27,24,26,25],Zb 73 (.faddr 1 Z3) [Zc 4],Zf 74 (.load Z3) [Zc 73] [30],Za 75 12,Zf 76 (.bin .sub) [Zc 75,.int .i64 1] [32],Zf 77 (.iaddr Z2) [Zc 74,Zc 76] [31,30,33,32],Zf 78 (.faddr 0 Z1) [Zc 77] [34,31,30,33,32],Zf 79 (.load Z1) [Zc 78] [35,34,31,30,33,32],Zf 80 (.bin .sub) [Zc 72,Zc 79] [29,23,22,20,21,28,27,24,26,25,36,35,34,31,30,33,32],Zf 81 (.build Z2 [(0,Z1),(1,Z1)]) [Zc 62,Zc 80] [19,11,5,4,2,3,10,9,6,8,7,18,17,16,13,12,15,14,37,29,23,22,20,21,28,27,24,26,25,36,35,34,31,30,33,32],Zf 82 (.iaddr Z2) [Zc 43,Zc 44] [0,1,2,3,4,5,6,7,8,9,10,11,12,13,14,15,16,17,18,19,20,21,22,23,24,25,26,27,28,29,30,31,32,33,34,35,36,37,38],⟨none,.store Z2,[Zc 82,Zc 81],none,[39,0,1,2,3,4,5,6,7,8,9,10,11,12,13,14,15,16,17,18,19,20,21,22,23,24,25,26,27,28,29,30,31,32,33,34,35,36,37,38]⟩])) (.clean (.reg false [Za 41 12,Zb 42 (.bin .add) [Zc 41,.int .i64 1],Za 12 42]))))
def x55_0d:List Nat:=[12]
def x55:XF:=⟨94,[.tmp 6],[0,1,2,3,4,6,7,9,11,12,14],(Zg [Zb 3 (.box 39) [Zc 0],Zb 4 (.box 102) [Zc 1],Zb 6 .mv [.bool false]] (.seq (.reg true [Zd 16 Z14 4,Za 17 2,Zb 18 (.faddr 1 Z3) [Zc 4],Zf 19 (.load Z3) [Zc 18] [2],Zf 20 (.call 93) [Zc 19] [3,2],Zf 21 (.call 96) [Zc 16,Zc 17,Zc 20] [0,1,4,3,2],Zf 15 .mv [Zc 21] [5,0,1,4,3,2],Zf 22 (.extract 0) [Zc 15] [6,5,0,1,4,3,2],Zf 23 (.extract 1) [Zc 15] [6,5,0,1,4,3,2],Zf 7 .mv [Zc 22] [7,6,5,0,1,4,3,2],Zf 8 .mv [Zc 23] [8,6,5,0,1,4,3,2,9,7]]) (.clean (.seq (.reg true [Zd 25 Z14 4,Za 26 2,Zb 27 (.faddr 1 Z3) [Zc 4],Zf 28 (.load Z3) [Zc 27] [2],Zf 29 (.call 94) [Zc 28] [3,2],Zf 30 (.call 96) [Zc 25,Zc 26,Zc 29] [0,1,4,3,2],Zf 24 .mv [Zc 30] [5,0,1,4,3,2],Zf 31 (.extract 0) [Zc 24] [6,5,0,1,4,3,2],Zf 32 (.extract 1) [Zc 24] [6,5,0,1,4,3,2],Zf 9 .mv [Zc 31] [7,6,5,0,1,4,3,2],Zf 10 .mv [Zc 32] [8,6,5,0,1,4,3,2,9,7]]) (.clean (Zg [Zb 33 (.faddr 1 Z3) [Zc 4],Zd 34 Z3 33,Zb 35 (.len false) [Zc 34],Zb 36 (.mkslice 89 Z2 16) [Zc 35,Zc 35],Za 11 36] (.seq (Zg [Zb 12 .mv [.int .i64 1]] (.block 0 (.loop x55_0))) (.clean (Zg [Zb 84 (.faddr 5 Z5) [Zc 3],Zd 85 Z5 84,Zb 86 (.faddr 1 Z3) [Zc 4],Zd 87 Z3 86,Za 88 11,Zb 89 (.call 100) [Zc 85,Zc 87,Zc 88],Za 83 89,Zb 90 (.extract 0) [Zc 83],Zb 91 (.extract 1) [Zc 83],Za 13 90,Za 14 91] (.clean (Zg [Za 92 14,Zb 93 (.bin .eql) [Zc 92,.int .i64 0],Za 6 93] .ret)))))))))))⟩
def x58_0:XC:=(.seq (Zg [Za 11 5,Za 12 0,Zf 13 (.len false) [.t 12] [],Zf 14 (.bin .lss) [.t 11,.t 13] []] (.cond (.t 14) .skip (.exit 0))) (.seq (.block 1 (.seq (.reg true [Za 17 0,Za 18 5,Zf 19 (.iaddr Z8) [.t 17,.t 18] [0,1],Zf 20 (.load Z8) [.t 19] [2,0,1],Za 21 1,Za 22 5,Zf 23 (.iaddr Z8) [.t 21,.t 22] [4,5],Zf 24 (.load Z8) [.t 23] [6,4,5],Zf 25 (.steq true Z8) [.t 20,.t 24] [3,2,0,1,7,6,4,5]]) (.cond (.t 25) (Zg [Zf 4 .mv [.bool false] []] .ret) .skip))) (.clean (.reg false [Za 15 5,Zf 16 (.bin .add) [.t 15,.int .i64 1] [],Za 5 16]))))
def x58_0d:List Nat:=[4,5]
def x58:XF:=⟨26,[.tmp 4],[0,1,4,5],(Zg [Zb 4 .mv [.bool false]] (.seq (Zg [Zb 6 .mv [.t 0],Zb 7 (.len false) [.t 6],Zb 8 .mv [.t 1],Zb 9 (.len false) [.t 8],Zb 10 (.bin .neq) [.t 7,.t 9]] (.cond (.t 10) (Zg [Zb 4 .mv [.bool false]] .ret) .skip)) (.clean (.seq (Zg [Zb 5 .mv [.int .i64 0]] (.block 0 (.loop x58_0))) (Zg [Zb 4 .mv [.bool true]] .ret)))))⟩
def x59_0:XC:=(.seq (Zg [Za 11 5,Za 12 0,Zf 13 (.len false) [.t 12] [],Zf 14 (.bin .lss) [.t 11,.t 13] []] (.cond (.t 14) .skip (.exit 0))) (.seq (.block 1 (.seq (.reg true [Za 17 0,Za 18 5,Zf 19 (.iaddr Z2) [.t 17,.t 18] [0,1],Zf 20 (.load Z2) [.t 19] [2,0,1],Za 21 1,Za 22 5,Zf 23 (.iaddr Z2) [.t 21,.t 22] [4,5],Zf 24 (.load Z2) [.t 23] [6,4,5],Zf 25 (.steq true Z2) [.t 20,.t 24] [3,2,0,1,7,6,4,5]]) (.cond (.t 25) (Zg [Zf 4 .mv [.bool false] []] .ret) .skip))) (.clean (.reg false [Za 15 5,Zf 16 (.bin .add) [.t 15,.int .i64 1] [],Za 5 16]))))
def x59_0d:List Nat:=[4,5]
def x59:XF:=⟨26,[.tmp 4],[0,1,4,5],(Zg [Zb 4 .mv [.bool false]] (.seq (Zg [Zb 6 .mv [.t 0],Zb 7 (.len false) [.t 6],Zb 8 .mv [.t 1],Zb 9 (.len false) [.t 8],Zb 10 (.bin .neq) [.t 7,.t 9]] (.cond (.t 10) (Zg [Zb 4 .mv [.bool false]] .ret) .skip)) (.clean (.seq (Zg [Zb 5 .mv [.int .i64 0]] (.block 0 (.loop x59_0))) (Zg [Zb 4 .mv [.bool true]] .ret)))))⟩
def x61:XF:=⟨56,[.tmp 2],[0,1,2,3,4,5],(Zg [Zb 1 (.box 39) [Zc 0],Zb 2 .mv [.bool false]] (.seq (Zg [Zb 6 (.faddr 0 Z1) [Zc 1],Zd 7 Z1 6,Zb 8 (.faddr 1 Z20) [Zc 1],Zd 9 Z20 8,Zb 10 (.call 102) [Zc 7,Zc 9],Zb 11 .not [Zc 10],Za 12 11,Ze 13 (.faddr 2 Z22) [Zc 1] 6 12 false,Ze 14 (.load Z22) [Zc 13] 6 12 false,Ze 15 (.len false) [Zc 14] 6 12 false,Ze 16 (.bin .gtr) [Zc 15,.int .i64 600] 6 12 false,Zb 17 .pick [Zc 12,.bool true,Zc 16],Za 18 17,Ze 19 (.faddr 3 Z7) [Zc 1] 12 18 false,Ze 20 (.load Z7) [Zc 19] 12 18 false,Ze 21 (.len false) [Zc 20] 12 18 false,Ze 22 (.bin .gtr) [Zc 21,.int .i64 30000] 12 18 false,Zb 23 .pick [Zc 18,.bool true,Zc 22],Za 24 23,Ze 25 (.faddr 4 Z21) [Zc 1] 18 24 false,Ze 26 (.load Z21) [Zc 25] 18 24 false,Ze 27 (.len false) [Zc 26] 18 24 false,Ze 28 (.bin .gtr) [Zc 27,.int .i64 4000] 18 24 false,Zb 29 .pick [Zc 24,.bool true,Zc 28]] (.cond (Zc 29) (Zg [Zb 2 .mv [.bool false]] .ret) .skip)) (.clean (Zg [Zb 30 (.mkfn 103) [Zc 1],Za 3 30] (Zg [Zb 31 (.mkfn 104) [Zc 1],Za 4 31] (Zg [Zb 5 .mv [.fn 105]] (Zg [Zb 32 (.faddr 2 Z22) [Zc 1],Zd 33 Z22 32,Za 34 3,Zb 35 (.call 106) [Zc 33,Zc 34],Zb 36 .not [Zc 35],Za 37 36,Ze 38 (.faddr 3 Z7) [Zc 1] 5 37 true,Ze 39 (.load Z7) [Zc 38] 5 37 true,Ze 40 .mv [Zc 4] 5 37 true,Ze 41 (.call 107) [Zc 39,Zc 40] 5 37 true,Ze 42 .not [Zc 41] 5 37 true,Zb 43 .pick [Zc 37,Zc 42,.bool false],Za 44 43,Ze 45 (.faddr 4 Z21) [Zc 1] 12 44 true,Ze 46 (.load Z21) [Zc 45] 12 44 true,Ze 47 .mv [Zc 5] 12 44 true,Ze 48 (.call 108) [Zc 46,Zc 47] 12 44 true,Ze 49 .not [Zc 48] 12 44 true,Zb 50 .pick [Zc 44,Zc 49,.bool false],Za 51 50,Ze 52 (.faddr 5 Z5) [Zc 1] 19 51 true,Ze 53 (.load Z5) [Zc 52] 19 51 true,Ze 54 (.call 109) [Zc 53,.nil,.nil] 19 51 true,Zb 55 .pick [Zc 51,Zc 54,.bool false],Za 2 55] .ret)))))))⟩
def x63:XF:=⟨9,[.tmp 3],[0,1,2,3],(Zg [Zb 2 (.box 65) [.t 0],Zb 3 .mv [.bool false]] (Zg [Zb 4 (.faddr 0 Z1) [.t 2],Zb 5 (.load Z1) [.t 4],Zb 6 (.faddr 0 Z1) [.t 1],Zb 7 (.load Z1) [.t 6],Zb 8 (.bin .eql) [.t 5,.t 7],Zb 3 .mv [.t 8]] .ret))⟩
def x65:XF:=⟨8,[.tmp 3],[0,1,2,3],(Zg [Zb 2 (.box 68) [.t 0],Zb 3 .mv [.bool false]] (Zg [Zb 4 (.load Z9) [.t 1],Zb 5 (.faddr 0 Z1) [.t 2],Zb 6 (.load Z1) [.t 5],Zb 7 (.call 66) [.t 4,.t 6],Zb 3 .mv [.t 7]] .ret))⟩
def x78_0:XC:=(Zg [Zb 43 (.bin .lss) [Zc 42,Zc 41]] (.seq (.cond (Zc 43) .skip (.exit 0)) (.seq (.block 1 (Zg [Za 44 42,Zb 45 (.iaddr Z8) [Zc 40,Zc 42],Zd 46 Z8 45,Zb 12 (.alloc 68 Z8) [],Za 11 44,Zi Z8 12 46] (Zg [Zb 47 (.faddr 3 Z7) [Zc 3],Zd 48 Z7 47,Zb 49 (.faddr 0 Z1) [Zc 12],Zd 50 Z1 49,Zb 51 (.iaddr Z6) [Zc 48,Zc 50],Zd 52 Z6 51,Zb 13 (.alloc 117 Z6) [],Zi Z6 13 52] (.clean (Zg [Za 54 10,Zb 55 (.faddr 0 Z1) [Zc 12],Zd 56 Z1 55,Zb 57 (.mapget .i64 Z1 true) [Zc 54,Zc 56],Za 53 57,Zb 58 (.extract 0) [Zc 53],Zb 59 (.extract 1) [Zc 53],Za 14 58,Za 15 59] (.clean (Zg [Zb 60 (.faddr 3 Z1) [Zc 13],Zd 61 Z1 60,Zb 62 (.faddr 5 Z1) [Zc 13],Zd 63 Z1 62,Zb 64 (.faddr 3 Z1) [Zc 8],Zd 65 Z1 64,Zb 66 .min [Zc 63,Zc 65],Zb 67 (.build Z2 [(0,Z1),(1,Z1)]) [Zc 61,Zc 66],Zb 16 (.alloc 145 Z2) [],Zi Z2 16 67] (.clean (.seq (.block 2 (Zg [Zb 72 (.faddr 1 .bool) [Zc 12],Zd 73 .bool 72,Za 71 73] (.cond (Zc 71) (Zg [Zb 74 (.faddr 4 Z1) [Zc 13],Zd 75 Z1 74,Zb 76 (.faddr 3 Z1) [Zc 8],Zd 77 Z1 76,Zb 78 .min [Zc 75,Zc 77],Zb 79 (.faddr 1 Z1) [Zc 16],Zi Z1 79 78] (.clean (.reg false [Za 80 10,Zb 81 (.faddr 0 Z1) [Zc 12],Zd 82 Z1 81,Za 83 11,Zb 84 (.bin .add) [Zc 83,.int .i64 1],⟨none,.mapset .i64 Z1,[Zc 80,Zc 82,Zc 84],none,[]⟩]))) (Zg [Za 86 15,Za 85 86] (.cond (Zc 85) (.reg false [Zb 87 (.faddr 2 Z13) [Zc 9],Zd 88 Z13 87,Za 89 14,Za 90 11,Zb 91 (.bin .add) [Zc 90,.int .i64 1],Zb 92 (.faddr 6 Z1) [Zc 13],Zd 93 Z1 92,Zb 94 (.build Z5 [(0,Z1),(1,Z1),(2,Z1)]) [Zc 89,Zc 91,Zc 93],Zb 95 (.bslice 149 Z5 1 [0]) [Zc 94],Zb 96 (.append 149 Z5 24) [Zc 88,Zc 95],Zb 97 (.faddr 2 Z13) [Zc 9],Zi Z13 97 96]) (.reg false [Zb 68 (.faddr 2 Z1) [Zc 8],Zd 69 Z1 68,Zb 70 (.faddr 0 Z1) [Zc 16],Zi Z1 70 69])))))) (.clean (.seq (Zg [Zb 98 (.faddr 0 Z1) [Zc 16],Zd 99 Z1 98,Zb 100 (.faddr 1 Z1) [Zc 16],Zd 101 Z1 100,Zb 102 (.bin .gtr) [Zc 99,Zc 101]] (.cond (Zc 102) (Zg [Zb 103 (.build Z14 []) [],Zi Z14 6 103,Zb 7 .mv [.int .i64 20]] .ret) .skip)) (.clean (.reg false [Zb 104 (.faddr 0 Z3) [Zc 9],Zd 105 Z3 104,Zd 106 Z2 16,Zb 107 (.bslice 145 Z2 1 [0]) [Zc 106],Zb 108 (.append 145 Z2 16) [Zc 105,Zc 107],Zb 109 (.faddr 0 Z3) [Zc 9],Zi Z3 109 108]))))))))))))) (.reg false [Zb 110 (.bin .add) [Zc 42,.int .i64 1],Za 42 110]))))
def x78_0d:List Nat:=[7,11,12,13,14,15,16,42]
def x78_1:XC:=(Zg [Zb 118 (.bin .lss) [Zc 117,Zc 116]] (.seq (.cond (Zc 118) .skip (.exit 3)) (.seq (.block 4 (Zg [Za 119 117,Za 18 119] (.seq (.reg true [Zd 121 Z23 3,Za 122 17,Za 123 18,Zf 124 .callv [Zc 122,Zc 123] [1,2],Za 125 17,Za 126 18,Zf 127 (.bin .add) [Zc 126,.int .i64 1] [5],Zf 128 .callv [Zc 125,Zc 127] [4,6,5,3,1,2],Zb 129 (.faddr 0 Z3) [Zc 9],Zf 130 (.load Z3) [Zc 129] [8],Za 131 18,Zf 132 (.iaddr Z2) [Zc 130,Zc 131] [9,8,10],Zf 133 (.load Z2) [Zc 132] [11,9,8,10],Zf 134 (.call 133) [Zc 121,Zc 124,Zc 128,Zc 133] [0,3,1,2,7,4,6,5,12,11,9,8,10],Zf 120 .mv [Zc 134] [13,0,3,1,2,7,4,6,5,12,11,9,8,10],Zf 135 (.extract 0) [Zc 120] [14,13,0,3,1,2,7,4,6,5,12,11,9,8,10],Zf 136 (.extract 1) [Zc 120] [14,13,0,3,1,2,7,4,6,5,12,11,9,8,10],Zb 19 (.alloc 89 Z2) [],⟨none,.store Z2,[Zc 19,Zc 135],none,[17,15,14,13,0,3,1,2,7,4,6,5,12,11,9,8,10]⟩,Zf 20 .mv [Zc 136] [16,14,13,0,3,1,2,7,4,6,5,12,11,9,8,10,18,17,15]]) (.clean (.seq (Zg [Za 137 20,Zb 138 .not [Zc 137]] (.cond (Zc 138) (Zg [Zb 139 (.build Z14 []) [],⟨none,.store Z14,[Zc 6,Zc 139],none,[]⟩,Zb 7 .mv [.int .i64 4]] .ret) .skip)) (.reg false [Zb 140 (.faddr 1 Z3) [Zc 9],Zd 141 Z3 140,Zd 142 Z2 19,Zb 143 (.bslice 89 Z2 1 [0]) [Zc 142],Zb 144 (.append 89 Z2 16) [Zc 141,Zc 143],Zb 145 (.faddr 1 Z3) [Zc 9],⟨none,.store Z3,[Zc 145,Zc 144],none,[]⟩])))))) (.reg false [Zb 146 (.bin .add) [Zc 117,.int .i64 1],Za 117 146]))))
def x78_1d:List Nat:=[7,18,19,20,117]
def x78:XF:=⟨148,[.cell 6 Z14,.tmp 7],[0,1,2,3,5,6,7,8,9,10,11,12,13,14,15,16,17,18,19,20,40,41,42,116,117],(Zg [Zb 3 (.box 39) [Zc 0],Zb 5 (.box 62) [Zc 2],Zb 6 (.alloc 102 Z14) [],Zb 7 .mv [.int .i64 0]] (.seq (Zg [Zd 21 Z23 3,Za 22 1,Zd 23 Z10 5,Zb 24 (.call 82) [Zc 21,Zc 22,Zc 23],Zb 25 .not [Zc 24]] (.cond (Zc 25) (Zg [Zb 26 (.build Z14 []) [],Zi Z14 6 26,Zb 7 .mv [.int .i64 1]] .ret) .skip)) (.clean (Zg [Zb 27 (.faddr 2 Z22) [Zc 3],Zd 28 Z22 27,Za 29 1,Zb 30 (.iaddr Z17) [Zc 28,Zc 29],Zd 31 Z17 30,Zb 8 (.alloc 115 Z17) [],Zi Z17 8 31] (.clean (Zg [Zb 32 (.faddr 2 Z1) [Zc 8],Zd 33 Z1 32,Zb 34 (.faddr 3 Z1) [Zc 8],Zd 35 Z1 34,Zb 36 (.build Z2 [(0,Z1),(1,Z1)]) [Zc 33,Zc 35],Zb 37 (.bslice 145 Z2 1 [0]) [Zc 36],Zb 38 (.build Z14 [(0,Z3)]) [Zc 37],Zb 9 (.alloc 102 Z14) [],Zi Z14 9 38] (.clean (Zg [Zb 39 (.mkmap .i64 Z1) [],Za 10 39] (.seq (Zg [Zd 40 Z10 5,Zb 41 (.len false) [Zc 40],Zb 42 .mv [.int .i64 0]] (.block 0 (.loop x78_0))) (.clean (.seq (.icall false [Zb 111 (.faddr 2 Z13) [Zc 9],Zd 112 Z13 111] (Zb 113 .callv [.fn 130,Zc 112,.fn 131]) [] 130 x130.n x130.res x130.kv x130.code) (Zg [Zb 114 (.mkfn 132) [Zc 8,Zc 3,Zc 5],Za 17 114] (.seq (Zg [Zd 115 Z10 5,Zb 116 (.len false) [Zc 115],Zb 117 .mv [.int .i64 0]] (.block 3 (.loop x78_1))) (Zg [Zd 147 Z14 9,Zi Z14 6 147,Zb 7 .mv [.int .i64 0]] .ret))))))))))))))⟩
def x80:XF:=⟨41,[.tmp 6],[0,1,2,3,4,5,6,7],(Zg [Zb 3 (.box 39) [Zc 0],Zb 4 (.box 65) [Zc 1],Zb 5 (.box 3) [Zc 2],Zb 6 .mv [.int .i64 0]] (Zg [Zb 8 (.mkfn 136) [Zc 5],Za 7 8] (.seq (.block 0 (Zg [Zb 10 (.load Z23) [Zc 3],Zb 11 (.call 61) [Zc 10],Zb 12 .not [Zc 11],Za 13 12,Ze 14 (.load Z23) [Zc 3] 3 13 false,Ze 15 (.load Z11) [Zc 4] 3 13 false,Ze 16 (.call 26) [Zc 14,Zc 15] 3 13 false,Ze 17 (.bin .neq) [Zc 16,.int .i64 0] 3 13 false,Zb 18 .pick [Zc 13,.bool true,Zc 17],Za 19 18,Ze 20 (.load Z1) [Zc 5] 9 19 false,Ze 21 (.bin .lss) [Zc 20,.int .i64 0] 9 19 false,Zb 22 .pick [Zc 19,.bool true,Zc 21],Za 23 22,Ze 24 (.load Z1) [Zc 5] 13 23 false,Ze 25 (.faddr 3 Z7) [Zc 3] 13 23 false,Ze 26 (.load Z7) [Zc 25] 13 23 false,Ze 27 (.len false) [Zc 26] 13 23 false,Ze 28 (.bin .geq) [Zc 24,Zc 27] 13 23 false,Zb 29 .pick [Zc 23,.bool true,Zc 28],Za 30 29,Ze 31 (.faddr 1 Z10) [Zc 4] 20 30 false,Ze 32 (.load Z10) [Zc 31] 20 30 false,Ze 33 .mv [Zc 7] 20 30 false,Ze 34 (.call 64) [Zc 32,Zc 33] 20 30 false,Zb 35 .pick [Zc 30,.bool true,Zc 34],Za 9 35] (.cond (Zc 9) (Zg [Zb 6 .mv [.int .i64 1]] .ret) (Zg [Zb 37 (.faddr 1 Z10) [Zc 4],Zb 38 (.load Z10) [Zc 37],Zb 39 (.len false) [Zc 38],Zb 40 (.bin .gtr) [Zc 39,.int .i64 78],Za 36 40] (.cond (Zc 36) (Zg [Zb 6 .mv [.int .i64 6]] .ret) .skip))))) (Zg [Zb 6 .mv [.int .i64 0]] .ret))))⟩
def x81:XF:=⟨36,[.tmp 8],[0,1,2,3,8,9],(Zg [Zb 8 (.nilrow 68 Z8) []] (.seq (Zg [Za 10 2,Zb 11 (.bin .lss) [Zc 10,.int .i64 0],Za 12 11,Ze 13 .mv [Zc 3] 2 12 false,Ze 14 .mv [Zc 2] 2 12 false,Ze 15 (.bin .lss) [Zc 13,Zc 14] 2 12 false,Zb 16 .pick [Zc 12,.bool true,Zc 15],Za 17 16,Ze 18 .mv [Zc 3] 7 17 false,Ze 19 .mv [Zc 0] 7 17 false,Ze 20 (.len false) [Zc 19] 7 17 false,Ze 21 (.bin .gtr) [Zc 18,Zc 20] 7 17 false,Zb 22 .pick [Zc 17,.bool true,Zc 21]] (.cond (Zc 22) (Zg [Zb 8 (.nilrow 68 Z8) []] .ret) .skip)) (.clean (Zg [Za 23 0,Zb 24 (.call 57) [Zc 23],Za 25 3,Za 26 1,Zb 27 (.build Z8 [(0,Z1)]) [Zc 26],Zb 28 (.bslice 68 Z8 1 [0]) [Zc 27],Zb 29 (.call 137) [Zc 24,Zc 25,Zc 28],Za 9 29] (.clean (Zg [Za 30 9,Za 31 2,Za 32 1,Zb 33 (.build Z8 [(0,Z1),(1,.bool)]) [Zc 32,.bool true],Zb 34 (.bslice 68 Z8 1 [0]) [Zc 33],Zb 35 (.call 137) [Zc 30,Zc 31,Zc 34],Za 8 35] .ret))))))⟩
def x82:XF:=⟨24,[.tmp 6],[0,1,2,3,6],(Zg [Zb 3 (.box 39) [Zc 0],Zb 6 .mv [.bool false]] (Zg [Zb 7 (.load Z23) [Zc 3],Zb 8 (.call 61) [Zc 7],Za 9 8,Ze 10 (.faddr 2 Z22) [Zc 3] 2 9 true,Ze 11 (.load Z22) [Zc 10] 2 9 true,Ze 12 (.len false) [Zc 11] 2 9 true,Ze 13 (.bin .sub) [Zc 12,.int .i64 1] 2 9 true,Ze 14 .mv [Zc 1] 2 9 true,⟨some 15,.bslice 3 Z1 1 [0],[Zc 14],some (2,9,true),[]⟩,Ze 16 (.call 52) [Zc 13,Zc 15] 2 9 true,Zb 17 .pick [Zc 9,Zc 16,.bool false],Za 18 17,Ze 19 .mv [Zc 2] 11 18 true,Ze 20 (.faddr 3 Z7) [Zc 3] 11 18 true,Ze 21 (.load Z7) [Zc 20] 11 18 true,Ze 22 (.call 138) [Zc 19,Zc 21] 11 18 true,Zb 23 .pick [Zc 18,Zc 22,.bool false],Za 6 23] .ret))⟩
def x86:XF:=⟨11,[.tmp 3],[0,1,3],(Zg [Zb 3 .mv [.bool false]] (Zg [Za 4 0,Zb 5 (.bin .lss) [.t 4,.int .i64 0],Za 6 5,⟨some 7,.mv,[.t 0],some (2,6,false),[]⟩,⟨some 8,.load Z1,[.t 1],some (2,6,false),[]⟩,⟨some 9,.bin .gtr,[.t 7,.t 8],some (2,6,false),[]⟩,Zb 10 .pick [.t 6,.bool true,.t 9],Za 3 10] .ret))⟩
def x93_0:XC:=(Zg [Zb 8 (.bin .lss) [.t 7,.t 6]] (.seq (.cond (.t 8) .skip (.exit 0)) (.seq (.block 1 (Zg [Zb 9 (.iaddr Z2) [.t 5,.t 7],Zb 10 (.load Z2) [.t 9],Zb 4 (.alloc 89 Z2) [],⟨none,.store Z2,[.t 4,.t 10],none,[]⟩] (.reg false [Za 11 2,Zb 12 (.faddr 0 Z1) [.t 4],Zb 13 (.load Z1) [.t 12],Zb 14 (.bslice 3 Z1 1 [0]) [.t 13],Zb 15 (.append 3 Z1 8) [.t 11,.t 14],Za 2 15]))) (.reg false [Zb 16 (.bin .add) [.t 7,.int .i64 1],Za 7 16]))))
def x93_0d:List Nat:=[2,4,7]
def x93:XF:=⟨18,[.tmp 2],[0,2,4,5,6,7],(Zg [Zb 2 (.nilrow 3 Z1) []] (.seq (Zg [Za 5 0,Zb 6 (.len false) [.t 5],Zb 7 .mv [.int .i64 0]] (.block 0 (.loop x93_0))) (Zg [Za 17 2,Za 2 17] .ret)))⟩
def x94_0:XC:=(Zg [Zb 8 (.bin .lss) [.t 7,.t 6]] (.seq (.cond (.t 8) .skip (.exit 0)) (.seq (.block 1 (Zg [Zb 9 (.iaddr Z2) [.t 5,.t 7],Zb 10 (.load Z2) [.t 9],Zb 4 (.alloc 89 Z2) [],⟨none,.store Z2,[.t 4,.t 10],none,[]⟩] (.reg false [Za 11 2,Zb 12 (.faddr 1 Z1) [.t 4],Zb 13 (.load Z1) [.t 12],Zb 14 (.bslice 3 Z1 1 [0]) [.t 13],Zb 15 (.append 3 Z1 8) [.t 11,.t 14],Za 2 15]))) (.reg false [Zb 16 (.bin .add) [.t 7,.int .i64 1],Za 7 16]))))
def x94_0d:List Nat:=[2,4,7]
def x94:XF:=⟨18,[.tmp 2],[0,2,4,5,6,7],(Zg [Zb 2 (.nilrow 3 Z1) []] (.seq (Zg [Za 5 0,Zb 6 (.len false) [.t 5],Zb 7 .mv [.int .i64 0]] (.block 0 (.loop x94_0))) (Zg [Za 17 2,Za 2 17] .ret)))⟩
def x95:XF:=⟨26,[.tmp 6],[0,1,2,3,4,6,7],(Zg [Zf 6 .mv [.bool false] []] (.seq (.reg true [Zd 10 Z14 1,Zd 11 Z9 2,Zd 12 Z9 3,Za 13 0,Zf 14 (.slice Z1 false true false) [Zc 12,Zc 13] [2,3],Zd 15 Z9 4,Za 16 0,Zf 17 (.slice Z1 true false false) [Zc 15,Zc 16] [5,6],Zf 18 (.bslice 31 Z9 2 [0,1]) [Zc 14,Zc 17] [4,2,3,7,5,6],Zf 19 (.call 97) [Zc 18] [8,4,2,3,7,5,6],Zf 20 (.call 96) [Zc 10,Zc 11,Zc 19] [0,1,9,8,4,2,3,7,5,6],Zf 9 .mv [Zc 20] [10,0,1,9,8,4,2,3,7,5,6],Zf 21 (.extract 0) [Zc 9] [11,10,0,1,9,8,4,2,3,7,5,6],Zf 22 (.extract 1) [Zc 9] [11,10,0,1,9,8,4,2,3,7,5,6],Zf 7 .mv [Zc 21] [12,11,10,0,1,9,8,4,2,3,7,5,6],Zf 8 .mv [Zc 22] [13,11,10,0,1,9,8,4,2,3,7,5,6,14,12]]) (.clean (Zg [Zd 23 Z14 1,Za 24 7,Zf 25 (.call 98) [Zc 23,Zc 24] [],Za 6 25] .ret))))⟩
def x103:XF:=⟨39,[.tmp 3],[0,1,2,3],(Zg [Zb 2 (.box 115) [Zc 0],Zb 3 .mv [.bool false]] (Zg [Zb 4 (.faddr 0 Z1) [Zc 1],Zb 5 (.load Z1) [Zc 4],Zb 6 (.bin .sub) [Zc 5,.int .i64 1],Zb 7 (.faddr 1 Z1) [Zc 2],Zb 8 (.load Z1) [Zc 7],Zb 9 (.bslice 3 Z1 1 [0]) [Zc 8],Zb 10 (.call 52) [Zc 6,Zc 9],Zb 11 .not [Zc 10],Za 12 11,Ze 13 (.faddr 2 Z1) [Zc 2] 8 12 false,Ze 14 (.load Z1) [Zc 13] 8 12 false,Ze 15 (.faddr 3 Z1) [Zc 2] 8 12 false,Ze 16 (.load Z1) [Zc 15] 8 12 false,⟨some 17,.bslice 3 Z1 2 [0,1],[Zc 14,Zc 16],some (8,12,false),[]⟩,Ze 18 (.call 52) [.int .i64 1048576,Zc 17] 8 12 false,Ze 19 .not [Zc 18] 8 12 false,Zb 20 .pick [Zc 12,.bool true,Zc 19],Za 21 20,Ze 22 (.faddr 2 Z1) [Zc 2] 17 21 false,Ze 23 (.load Z1) [Zc 22] 17 21 false,Ze 24 (.faddr 3 Z1) [Zc 2] 17 21 false,Ze 25 (.load Z1) [Zc 24] 17 21 false,Ze 26 (.bin .gtr) [Zc 23,Zc 25] 17 21 false,Zb 27 .pick [Zc 21,.bool true,Zc 26],Za 28 27,Ze 29 (.faddr 4 Z1) [Zc 2] 24 28 false,Ze 30 (.load Z1) [Zc 29] 24 28 false,Ze 31 (.faddr 5 Z1) [Zc 2] 24 28 false,Ze 32 (.load Z1) [Zc 31] 24 28 false,Ze 33 (.faddr 6 Z1) [Zc 2] 24 28 false,Ze 34 (.load Z1) [Zc 33] 24 28 false,⟨some 35,.bslice 3 Z1 3 [0,1,2],[Zc 30,Zc 32,Zc 34],some (24,28,false),[]⟩,Ze 36 (.call 52) [.int .i64 60,Zc 35] 24 28 false,Ze 37 .not [Zc 36] 24 28 false,Zb 38 .pick [Zc 28,.bool true,Zc 37],Za 3 38] .ret))⟩
def x104:XF:=⟨54,[.tmp 3],[0,1,2,3,4],(Zg [Zb 2 (.box 117) [Zc 0],Zb 3 .mv [.bool false]] (Zg [Zb 5 (.faddr 3 Z1) [Zc 2],Zd 6 Z1 5,Zb 7 (.faddr 4 Z1) [Zc 2],Zd 8 Z1 7,Zb 9 (.faddr 5 Z1) [Zc 2],Zd 10 Z1 9,Zb 11 (.faddr 6 Z1) [Zc 2],Zd 12 Z1 11,Zb 13 (.bslice 3 Z1 4 [0,1,2,3]) [Zc 6,Zc 8,Zc 10,Zc 12],Zb 14 (.call 52) [.int .i64 1048576,Zc 13],Za 15 14,Ze 16 (.faddr 3 Z1) [Zc 2] 10 15 true,Ze 17 (.load Z1) [Zc 16] 10 15 true,Ze 18 (.faddr 4 Z1) [Zc 2] 10 15 true,Ze 19 (.load Z1) [Zc 18] 10 15 true,Ze 20 (.bin .leq) [Zc 17,Zc 19] 10 15 true,Zb 21 .pick [Zc 15,Zc 20,.bool false],Za 4 21] (.clean (Zg [Za 22 4,Zb 23 .not [Zc 22],Za 24 23,Ze 25 (.faddr 0 Z1) [Zc 2] 2 24 false,Ze 26 (.load Z1) [Zc 25] 2 24 false,⟨some 27,.bslice 3 Z1 1 [0],[Zc 26],some (2,24,false),[]⟩,Ze 28 (.call 52) [.int .i64 3999,Zc 27] 2 24 false,Ze 29 .not [Zc 28] 2 24 false,Zb 30 .pick [Zc 24,.bool true,Zc 29],Za 31 30,Ze 32 (.faddr 0 Z1) [Zc 1] 9 31 false,Ze 33 (.load Z1) [Zc 32] 9 31 false,Ze 34 (.bin .sub) [Zc 33,.int .i64 1] 9 31 false,Ze 35 (.faddr 1 Z1) [Zc 2] 9 31 false,Ze 36 (.load Z1) [Zc 35] 9 31 false,Ze 37 (.faddr 2 Z1) [Zc 2] 9 31 false,Ze 38 (.load Z1) [Zc 37] 9 31 false,⟨some 39,.bslice 3 Z1 2 [0,1],[Zc 36,Zc 38],some (9,31,false),[]⟩,Ze 40 (.call 52) [Zc 34,Zc 39] 9 31 false,Ze 41 .not [Zc 40] 9 31 false,Zb 42 .pick [Zc 31,.bool true,Zc 41],Za 43 42,Ze 44 (.faddr 7 Z1) [Zc 2] 21 43 false,Ze 45 (.load Z1) [Zc 44] 21 43 false,Ze 46 (.faddr 8 Z1) [Zc 2] 21 43 false,Ze 47 (.load Z1) [Zc 46] 21 43 false,Ze 48 (.faddr 9 Z1) [Zc 2] 21 43 false,Ze 49 (.load Z1) [Zc 48] 21 43 false,⟨some 50,.bslice 3 Z1 3 [0,1,2],[Zc 45,Zc 47,Zc 49],some (21,43,false),[]⟩,Ze 51 (.call 52) [.int .i64 60,Zc 50] 21 43 false,Ze 52 .not [Zc 51] 21 43 false,Zb 53 .pick [Zc 43,.bool true,Zc 52],Za 3 53] .ret))))⟩
def x105:XF:=⟨10,[.tmp 2],[0,1,2],(Zg [Zb 1 (.box 163) [.t 0],Zb 2 .mv [.bool false]] (Zg [Zb 3 (.faddr 0 Z1) [.t 1],Zb 4 (.load Z1) [.t 3],Zb 5 (.faddr 1 Z1) [.t 1],Zb 6 (.load Z1) [.t 5],Zb 7 (.bslice 3 Z1 2 [0,1]) [.t 4,.t 6],Zb 8 (.call 52) [.int .i64 3999,.t 7],Zb 9 .not [.t 8],Zb 2 .mv [.t 9]] .ret))⟩
def x113_0:XC:=(Zg [Zb 8 (.bin .lss) [.t 7,.t 6]] (.seq (.cond (.t 8) .skip (.exit 0)) (.seq (.block 1 (.reg false [Za 9 5,Za 10 0,Zb 11 (.bin .mul) [.t 9,.t 10],Za 5 11])) (.reg false [Zb 12 (.bin .add) [.t 7,.int .i64 1],Za 7 12]))))
def x113_0d:List Nat:=[5,7]
def x113:XF:=⟨14,[.tmp 4],[0,1,4,5,6,7],(Zg [Zb 4 .mv [.int .i64 0]] (Zg [Zb 5 .mv [.int .i64 1]] (.seq (Zg [Za 6 1,Zb 7 .mv [.int .i64 0]] (.block 0 (.loop x113_0))) (Zg [Za 13 5,Za 4 13] .ret))))⟩
def x131:XF:=⟨10,[.tmp 4],[0,1,2,3,4],(Zg [Zb 2 (.box 149) [.t 0],Zb 3 (.box 149) [.t 1],Zb 4 .mv [.int .i64 0]] (Zg [Zb 5 (.faddr 0 Z1) [.t 2],Zb 6 (.load Z1) [.t 5],Zb 7 (.faddr 0 Z1) [.t 3],Zb 8 (.load Z1) [.t 7],Zb 9 (.bin .sub) [.t 6,.t 8],Zb 4 .mv [.t 9]] .ret))⟩
def x132:XF:=⟨31,[.tmp 5],[0,1,2,3,5,6],(Zg [Zb 5 .mv [.int .i64 0]] (.seq (Zg [Za 7 0,Zb 8 (.bin .eql) [Zc 7,.int .i64 0]] (.cond (Zc 8) (Zg [Zb 9 (.faddr 1 Z1) [Zc 1],Zd 10 Z1 9,Za 5 10] .ret) .skip)) (.clean (.seq (.reg true [Zb 11 (.faddr 3 Z7) [Zc 2],Zf 12 (.load Z7) [Zc 11] [0],Zd 13 Z10 3,Za 14 0,Zf 15 (.bin .sub) [Zc 14,.int .i64 1] [3],Zf 16 (.iaddr Z8) [Zc 13,Zc 15] [2,4,3],Zf 17 (.faddr 0 Z1) [Zc 16] [5,2,4,3],Zf 18 (.load Z1) [Zc 17] [6,5,2,4,3],Zf 19 (.iaddr Z6) [Zc 12,Zc 18] [1,0,7,6,5,2,4,3],Zf 20 (.load Z6) [Zc 19] [8,1,0,7,6,5,2,4,3],Zb 6 (.alloc 117 Z6) [],⟨none,.store Z6,[Zc 6,Zc 20],none,[10,9,8,1,0,7,6,5,2,4,3]⟩]) (.clean (.seq (Zg [Zd 21 Z10 3,Za 22 0,Zb 23 (.bin .sub) [Zc 22,.int .i64 1],Zb 24 (.iaddr Z8) [Zc 21,Zc 23],Zb 25 (.faddr 1 .bool) [Zc 24],Zd 26 .bool 25] (.cond (Zc 26) (Zg [Zb 27 (.faddr 1 Z1) [Zc 6],Zd 28 Z1 27,Za 5 28] .ret) .skip)) (.clean (Zg [Zb 29 (.faddr 2 Z1) [Zc 6],Zd 30 Z1 29,Za 5 30] .ret))))))))⟩
def x133_0:XC:=(Zg [Zb 40 (.bin .lss) [Zc 39,Zc 38]] (.seq (.cond (Zc 40) .skip (.exit 0)) (.seq (.block 1 (Zg [Zb 41 (.iaddr Z1) [Zc 37,Zc 39],Zd 42 Z1 41,Za 15 42] (.seq (.reg true [Zb 43 (.faddr 1 Z20) [Zc 4],Zf 44 (.load Z20) [Zc 43] [0],Za 45 15,Zf 46 (.iaddr Z16) [Zc 44,Zc 45] [1,0,2],Zf 47 (.load Z16) [Zc 46] [3,1,0,2],Zb 48 (.faddr 0 Z1) [Zc 7],Zf 49 (.load Z1) [Zc 48] [5],Zb 50 (.faddr 0 Z1) [Zc 10],Zf 51 (.load Z1) [Zc 50] [7],Zf 52 (.bin .add) [Zc 49,Zc 51] [6,5,8,7],Zb 53 (.faddr 1 Z1) [Zc 7],Zf 54 (.load Z1) [Zc 53] [10],Zb 55 (.faddr 1 Z1) [Zc 10],Zf 56 (.load Z1) [Zc 55] [12],Zf 57 (.bin .add) [Zc 54,Zc 56] [11,10,13,12],Zf 58 (.call 186) [Zc 47,Zc 52,Zc 57] [4,3,1,0,2,9,6,5,8,7,14,11,10,13,12],Zb 16 (.alloc 89 Z2) [],⟨none,.store Z2,[Zc 16,Zc 58],none,[16,15,4,3,1,0,2,9,6,5,8,7,14,11,10,13,12]⟩]) (.clean (Zg [Zb 59 (.faddr 0 Z1) [Zc 10],Zd 60 Z1 59,Zb 61 (.faddr 0 Z1) [Zc 16],Zd 62 Z1 61,Zb 63 (.bin .add) [Zc 60,Zc 62],Zb 64 (.faddr 0 Z1) [Zc 10],⟨none,.store Z1,[Zc 64,Zc 63],none,[]⟩] (.clean (.reg false [Zb 65 (.faddr 1 Z1) [Zc 10],Zd 66 Z1 65,Zb 67 (.faddr 1 Z1) [Zc 16],Zd 68 Z1 67,Zb 69 (.bin .add) [Zc 66,Zc 68],Zb 70 (.faddr 1 Z1) [Zc 10],⟨none,.store Z1,[Zc 70,Zc 69],none,[]⟩]))))))) (.reg false [Zb 71 (.bin .add) [Zc 39,.int .i64 1],Za 39 71]))))
def x133_0d:List Nat:=[15,16,39]
def x133:XF:=⟨76,[.cell 8 Z2,.tmp 9],[0,1,2,3,4,7,8,9,10,11,13,15,16,37,38,39],(Zg [Zb 4 (.box 39) [Zc 0],Zb 7 (.box 145) [Zc 3],Zb 8 (.alloc 89 Z2) [],Zb 9 .mv [.bool false]] (Zg [Zb 10 (.alloc 89 Z2) []] (.seq (Zg [Za 17 1,Za 18 2,Zb 19 (.bin .eql) [Zc 17,Zc 18]] (.cond (Zc 19) (Zg [Zd 20 Z2 10,⟨none,.store Z2,[Zc 8,Zc 20],none,[]⟩,Zb 9 .mv [.bool true]] .ret) .skip)) (.clean (Zg [Zb 22 (.faddr 0 Z1) [Zc 4],Zd 23 Z1 22,Zb 24 (.faddr 1 Z20) [Zc 4],Zd 25 Z20 24,Za 26 1,Zb 27 (.faddr 0 Z1) [Zc 7],Zd 28 Z1 27,Zb 29 (.call 184) [Zc 23,Zc 25,Zc 26,Zc 28,.bool true],Za 21 29,Zb 30 (.extract 0) [Zc 21],Zb 31 (.extract 1) [Zc 21],Za 11 30,Za 12 31] (.clean (Zg [Za 32 11,Zb 33 (.faddr 1 Z20) [Zc 4],Zd 34 Z20 33,Za 35 2,Zb 36 (.call 185) [Zc 32,Zc 34,Zc 35],Za 13 36] (.clean (.seq (Zg [Za 37 13,Zb 38 (.len false) [Zc 37],Zb 39 .mv [.int .i64 0]] (.block 0 (.loop x133_0))) (.clean (Zg [Zd 72 Z2 10,Za 73 13,Zb 74 (.len false) [Zc 73],Zb 75 (.bin .gtr) [Zc 74,.int .i64 0],⟨none,.store Z2,[Zc 8,Zc 72],none,[]⟩,Za 9 75] .ret)))))))))))⟩
def x136:XF:=⟨8,[.tmp 3],[0,1,2,3],(Zg [Zb 2 (.box 68) [.t 0],Zb 3 .mv [.bool false]] (Zg [Zb 4 (.faddr 0 Z1) [.t 2],Zb 5 (.load Z1) [.t 4],Zb 6 (.load Z1) [.t 1],Zb 7 (.bin .eql) [.t 5,.t 6],Zb 3 .mv [.t 7]] .ret))⟩
def x186_0:XC:=(.seq (Zg [Za 35 10,Za 36 8,Zb 37 (.bin .leq) [Zc 35,Zc 36]] (.cond (Zc 37) .skip (.exit 0))) (.seq (.block 1 (.reg true [Zb 40 (.faddr 0 Z1) [Zc 9],Zf 41 (.load Z1) [Zc 40] [0],Zb 42 (.faddr 2 Z9) [Zc 3],Zf 43 (.load Z9) [Zc 42] [2],Za 44 10,Zf 45 (.bin .rem) [Zc 44,.int .i64 24] [4],Zf 46 (.iaddr Z1) [Zc 43,Zc 45] [3,2,5,4],Zf 47 (.load Z1) [Zc 46] [6,3,2,5,4],Zf 48 .min [Zc 41,Zc 47] [1,0,7,6,3,2,5,4],Zb 49 (.faddr 1 Z1) [Zc 9],Zf 50 (.load Z1) [Zc 49] [9],Zb 51 (.faddr 3 Z9) [Zc 3],Zf 52 (.load Z9) [Zc 51] [11],Za 53 10,Zf 54 (.bin .rem) [Zc 53,.int .i64 24] [13],Zf 55 (.iaddr Z1) [Zc 52,Zc 54] [12,11,14,13],Zf 56 (.load Z1) [Zc 55] [15,12,11,14,13],Zf 57 .max [Zc 50,Zc 56] [10,9,16,15,12,11,14,13],Zf 58 (.faddr 0 Z1) [Zc 9] [0,1,2,3,4,5,6,7,8,9,10],⟨none,.store Z1,[Zc 58,Zc 48],none,[18,0,1,2,3,4,5,6,7,8,9,10]⟩,Zf 59 (.faddr 1 Z1) [Zc 9] [0,1,2,3,4,5,6,7,8,9,10,11,12,13,14,15,16,17,18,19],⟨none,.store Z1,[Zc 59,Zc 57],none,[20,0,1,2,3,4,5,6,7,8,9,10,11,12,13,14,15,16,17,18,19]⟩])) (.clean (.reg false [Za 38 10,Zb 39 (.bin .add) [Zc 38,.int .i64 1],Za 10 39]))))
def x186_0d:List Nat:=[10]
def x186:XF:=⟨61,[.cell 6 Z2],[0,1,2,3,6,7,8,9,10],(Zg [Zb 3 (.box 113) [Zc 0],Zb 6 (.alloc 89 Z2) []] (Zg [Za 11 1,Zb 12 (.bin .quo) [Zc 11,.int .i64 60],Za 13 2,Zb 14 (.bin .quo) [Zc 13,.int .i64 60],Za 15 1,Zb 16 (.bin .quo) [Zc 15,.int .i64 60],Zb 17 (.bin .add) [Zc 16,.int .i64 24],Zb 18 (.bin .sub) [Zc 17,.int .i64 1],Zb 19 .min [Zc 14,Zc 18],Za 7 12,Za 8 19] (.clean (.seq (.reg true [Zb 20 (.faddr 2 Z9) [Zc 3],Zf 21 (.load Z9) [Zc 20] [0],Za 22 7,Zf 23 (.bin .rem) [Zc 22,.int .i64 24] [2],Zf 24 (.iaddr Z1) [Zc 21,Zc 23] [1,0,3,2],Zf 25 (.load Z1) [Zc 24] [4,1,0,3,2],Zb 26 (.faddr 3 Z9) [Zc 3],Zf 27 (.load Z9) [Zc 26] [6],Za 28 7,Zf 29 (.bin .rem) [Zc 28,.int .i64 24] [8],Zf 30 (.iaddr Z1) [Zc 27,Zc 29] [7,6,9,8],Zf 31 (.load Z1) [Zc 30] [10,7,6,9,8],Zf 32 (.build Z2 [(0,Z1),(1,Z1)]) [Zc 25,Zc 31] [5,4,1,0,3,2,11,10,7,6,9,8],Zb 9 (.alloc 89 Z2) [],⟨none,.store Z2,[Zc 9,Zc 32],none,[13,12,5,4,1,0,3,2,11,10,7,6,9,8]⟩]) (.clean (.seq (Zg [Za 33 7,Zb 34 (.bin .add) [Zc 33,.int .i64 1],Za 10 34] (.block 0 (.loop x186_0))) (Zg [Zb 60 (.load Z2) [Zc 9],⟨none,.store Z2,[Zc 6,Zc 60],none,[]⟩] .ret)))))))⟩
def z149_0:XC:=(Zg [Zb 9 (.bin .lss) [.t 8,.t 7]] (.seq (.cond (.t 9) .skip (.exit 0)) (.seq (.block 1 (Zg [Za 10 8,Za 5 10] (.seq (.icall false [Za 11 1,Za 12 0,Za 13 5,Zb 14 (.iaddr Z5) [.t 12,.t 13],Zb 15 (.load Z5) [.t 14]] (Zb 16 .callv [.t 11,.t 15]) [] 151 x151.n x151.res x151.kv x151.code) (.cond (.t 16) (Zg [Za 17 5,Za 4 17] .ret) .skip)))) (.reg false [Zb 18 (.bin .add) [.t 8,.int .i64 1],Za 8 18]))))
def z149_0d:List Nat:=[4,5,8]
def z149:XF:=⟨19,[.tmp 4],[0,1,4,5,7,8],(Zg [Zb 4 .mv [.int .i64 0]] (.seq (Zg [Zb 6 .mv [.t 0],Zb 7 (.len false) [.t 6],Zb 8 .mv [.int .i64 0]] (.block 0 (.loop z149_0))) (Zg [Zb 4 .mv [.int .i64 (-1)]] .ret)))⟩
def z92:XF:=⟨9,[.tmp 4],[0,1,4],(Zg [Zb 4 .mv [.bool false]] (.seq (.icall false [Za 5 0,Za 6 1] (Zb 7 .callv [.fn 149,.t 5,.t 6]) [Zb 8 (.bin .geq) [.t 7,.int .i64 0],Za 4 8] 149 z149.n z149.res z149.kv z149.code) .ret))⟩
def z98_0:XC:=(Zg [Zb 22 (.bin .lss) [Zc 21,Zc 20]] (.seq (.cond (Zc 22) .skip (.exit 0)) (.seq (.block 1 (Zg [Za 23 21,Zb 24 (.iaddr Z2) [Zc 19,Zc 21],Zb 25 (.load Z2) [Zc 24],Zb 6 (.alloc 145 Z2) [],Za 5 23,⟨none,.store Z2,[Zc 6,Zc 25],none,[]⟩] (.seq (.reg true [Zb 26 (.load Z9) [Zc 3],Za 27 5,Zf 28 (.iaddr Z1) [Zc 26,Zc 27] [0,1],Zf 29 (.load Z1) [Zc 28] [2,0,1],Zb 30 (.faddr 0 Z1) [Zc 6],Zf 31 (.load Z1) [Zc 30] [4],Zf 32 (.bin .lss) [Zc 29,Zc 31] [3,2,0,1,5,4],Zf 33 .mv [Zc 32] [6,3,2,0,1,5,4],Zh 34 (.load Z9) [Zc 3] 7 33 false [7,6,3,2,0,1,5,4],Zh 35 .mv [Zc 5] 7 33 false [7,6,3,2,0,1,5,4],Zh 36 (.iaddr Z1) [Zc 34,Zc 35] 7 33 false [8,7,6,3,2,0,1,5,4,9],Zh 37 (.load Z1) [Zc 36] 7 33 false [10,8,7,6,3,2,0,1,5,4,9],Zh 38 (.faddr 1 Z1) [Zc 6] 7 33 false [7,6,3,2,0,1,5,4],Zh 39 (.load Z1) [Zc 38] 7 33 false [12,7,6,3,2,0,1,5,4],Zh 40 (.bin .gtr) [Zc 37,Zc 39] 7 33 false [11,10,8,7,6,3,2,0,1,5,4,9,13,12],Zf 41 .pick [Zc 33,.bool true,Zc 40] [7,6,3,2,0,1,5,4,14,11,10,8,9,13,12]]) (.cond (Zc 41) (Zg [Zb 4 .mv [.bool false]] .ret) .skip)))) (.reg false [Zb 42 (.bin .add) [Zc 21,.int .i64 1],Za 21 42]))))
def z98_0d:List Nat:=[4,5,6,21]
def z98:XF:=⟨48,[.tmp 4],[0,1,2,3,4,5,6,19,20,21],(Zg [Zb 2 (.box 102) [Zc 0],Zb 3 (.box 31) [Zc 1],Zb 4 .mv [.bool false]] (.seq (Zg [Zd 7 Z14 2,Zb 8 (.call 53) [Zc 7],Zb 9 .not [Zc 8],Zb 10 .mv [Zc 9],Ze 11 (.load Z9) [Zc 3] 3 10 false,Ze 12 (.len false) [Zc 11] 3 10 false,Ze 13 (.faddr 0 Z3) [Zc 2] 3 10 false,Ze 14 (.load Z3) [Zc 13] 3 10 false,Ze 15 (.len false) [Zc 14] 3 10 false,Ze 16 (.bin .neq) [Zc 12,Zc 15] 3 10 false,Zb 17 .pick [Zc 10,.bool true,Zc 16]] (.cond (Zc 17) (Zg [Zb 4 .mv [.bool false]] .ret) .skip)) (.clean (.seq (Zg [Zb 18 (.faddr 0 Z3) [Zc 2],Zd 19 Z3 18,Zb 20 (.len false) [Zc 19],Zb 21 .mv [.int .i64 0]] (.block 0 (.loop z98_0))) (.clean (.seq (.icall false [Zb 43 (.faddr 2 Z13) [Zc 2],Zd 44 Z13 43,Zb 45 (.mkfn 151) [Zc 3]] (Zb 46 .callv [.fn 92,Zc 44,Zc 45]) [Zb 47 .not [Zc 46],Zb 4 .mv [Zc 47]] 92 z92.n z92.res z92.kv z92.code) .ret))))))⟩
end T
end Go.Proofs.YtpocfbfmjippnaaGreat
end
section
namespace Go.Proofs.YtpocfbfmjippnaaGreat
open Go.RowKit Go.Lib Go.IntWalk
namespace T
set_option maxHeartbeats 2000000 in
set_option maxRecDepth 100000 in
theorem grow_room (base:Option Addr) (l c n:Nat) (w:World) (hlc:l≤c) (hc63:c≤9223372036854775807) (hn63:n≤9223372036854775807) (hroom:l+n≤c):
  Calls Tryz.prog 150 #[.slice base l c,.int .i64 n] w fun e w'=>e= .returned (.slice base l c)∧w'=w:=by
 have h1:¬((n:Int)<0):=by omega
 have h2:wrap64 ((c:Int)-(l:Int))=(c:Int)-(l:Int):=by unfold wrap64;omega
 have h3:wrap64 ((n:Int)-((c:Int)-(l:Int)))=(n:Int)-((c:Int)-(l:Int)):=by unfold wrap64;omega
 have h4:¬((n:Int)-((c:Int)-(l:Int))>0):=by omega
 go_enter Tryz.func150,Tryz.ntmps150
 go_wp2
 go_ret
 exact ⟨rfl,rfl⟩
set_option maxHeartbeats 4000000 in
set_option maxRecDepth 100000 in
theorem grow_grow (base:Option Addr) (l c n:Nat) (cs:List Value) (w:World) (hlc:l≤c) (hroom:c<l+n) (hbig:(l+n)*8≤140737488355328) (h63:l+n≤4611686018427387904)
  (hcl:cs.length=c) (hnil:base=none→c=0) (hcs:∀a,base=some a→∀j v,cs[j]?=some v→w.cell? (a.add j)=some v):
  Calls Tryz.prog 150 #[.slice base l c,.int .i64 n] w fun e w'=>
   e= .returned (.slice (some ⟨w.heap.size,0,none⟩) l (grownCap w (l+n) c 3))∧
   w'=w.drew.alloc (.cells (cs.toArray++Builtin.zeroCells #[.int .i64 0] (l+n-c)++Builtin.zeroCells #[.int .i64 0] (grownCap w (l+n) c 3-(l+n))) 3):=by
 obtain ⟨hu,i0,hi0,hs0⟩:=elemOk_spec (P:=Tryz.prog) (T:=31) (e:=3) (t:=.int .i64) (by kernel_rfl)
 have hz0:(Tryz.prog.info? 3).bind (·.zero)=some (.int .i64 0):=by kernel_rfl
 rw[hi0] at hz0
 have hz0:i0.zero=some (.int .i64 0):=hz0
 have hby:(Tryz.prog.info? 3).map (·.bytes)=some 8:=by kernel_rfl
 rw[hi0] at hby
 simp only[Option.map_some,Option.some.injEq] at hby
 have hs1:i0.size=1:=hs0
 have h1:¬((n:Int)<0):=by omega
 have h2:wrap64 ((c:Int)-(l:Int))=(c:Int)-(l:Int):=by unfold wrap64;omega
 have h3:wrap64 ((n:Int)-((c:Int)-(l:Int)))=(n:Int)-((c:Int)-(l:Int)):=by unfold wrap64;omega
 have h4:(n:Int)-((c:Int)-(l:Int))>0:=by omega
 have hck:c+(l+n-c)=l+n:=by omega
 have hold:(Builtin.firstCells i0.size c (.slice base c c)).run Tryz.prog w.drew= .ok cs.toArray w.drew:=by
  cases base with
  |none=>
   have h0:=hnil rfl;subst h0;have hc0:cs=[]:=List.length_eq_zero_iff.1 (by simpa using hcl);rw[hc0];exact run_firstCells_none w.drew i0.size 0 0 0
  |some a=>exact run_firstCells_some w.drew i0.size c a c c cs (by rw[hs1,Nat.mul_one];exact hcl) (fun j v hj=>hcs a rfl j v hj)
 have t3:Tryz.prog.underlying 3=some (.int .i64):=by kernel_rfl
 have hrz:∀ty,(Builtin.append_ #[31,3] ty #[.slice base c c,.int .i64 ((n:Int)-((c:Int)-(l:Int)))]).run Tryz.prog w=
   .ok (.slice (some ⟨w.heap.size,0,none⟩) (l+n) (grownCap w (l+n) c 3)) (w.drew.alloc (.cells (cs.toArray++Builtin.zeroCells #[.int .i64 0] (l+n-c)++Builtin.zeroCells #[.int .i64 0] (grownCap w (l+n) c 3-(l+n))) 3)):=fun ty=>by
  have h:=Lib.run_append_grow_zeros w 31 3 ty 3 i0 (.int .i64 0) .i64 .i64 hu t3 hi0 hz0 base c c cs hold (l+n-c) (by omega) (by omega) (by omega) (by omega)
   (by
    rw[hby];have:(l+n-c)*8≤(l+n)*8:=Nat.mul_le_mul_right _ (by omega);omega)
   (by rw[hck];exact growslice_fits hroom (by rw[hby];exact hbig))
  rw[hck] at h
  rw[show (n:Int)-((c:Int)-(l:Int))=((l+n-c:Nat):Int) by omega]
  exact h
 have hGn:l+n≤grownCap w (l+n) c 3:=grownCap_ge w _ _ _
 obtain ⟨G,hG⟩:∃G,G=grownCap w (l+n) c 3:=⟨_,rfl⟩
 rw[←hG] at hrz hGn⊢
 have hG63:G≤9223372036854775807:=by
  have:=grownCap_le_maxLen w (l+n) c 3 (by unfold maxLen;omega);rw[←hG] at this;unfold maxLen at this;omega
 clear hold hck hG hcs hcl
 go_enter Tryz.func150,Tryz.ntmps150
 cases base with
 |none=>
  have h0:=hnil rfl
  subst h0
  obtain rfl:l=0:=by omega
  go_wp2_with (at_builtin;refine Lib.wpList_append_run _ rfl _ _ _ _ rfl _ _ rfl rfl _ _ (hrz _) ?_)
  all_goals (go_ret;exact ⟨rfl,rfl⟩)
 |some a=>
  obtain ⟨ab,ao,asp⟩:=a
  go_wp2_with (at_builtin;refine Lib.wpList_append_run _ rfl _ _ _ _ rfl _ _ rfl rfl _ _ (hrz _) ?_)
  all_goals (go_ret;exact ⟨rfl,rfl⟩)
theorem grown_new {w:World} (o:Obj) (row:Option Nat):w.grownBy (w.drew.alloc o) row:=
 ⟨rfl,rfl,rfl,(World.grownBy_alloc w.drew o row).size,fun k hk h=>(World.grownBy_alloc w.drew o row).block k hk h⟩
def entGrow0:Ent:=⟨150,.cons Z9 (.cons Z1 .nil),.sl (.int .i64),true,some 3,fun x=>List.length (α:=Int) x.1=0∧0≤(x.2.1:Int)∧(x.2.1:Int)≤1000000,fun x=>x.1⟩
theorem conGrow0:Con Tryz.prog entGrow0:=by
 unfold Con;rw[if_pos (by rfl)];refine ⟨by kernel_rfl,?_⟩;rintro (x:List Int) ⟨(n:Int),_⟩ ⟨hx,h0,h1⟩ w M v us cells hM hMu hown hrow hargs hplain;have hx:x.length=0:=hx;obtain rfl:x=[]:=List.length_eq_zero_iff.1 hx;obtain rfl:cells=[]:=hrow;have h0:0≤n:=h0;have h1:n≤(1000000:Int):=h1;obtain ⟨n,rfl⟩:∃i:Nat,n=i:=⟨n.toNat,by omega⟩;obtain ⟨u1,us1,rfl,hu1,rfl⟩:=hargs;obtain ⟨rfl,_⟩:=avr_int (P:=Tryz.prog) (hp:=fun _=>none) (ψ:=fun _=>undef) hu1;have big:∀(base:Option Addr) (c:Nat) (cs:List Value),c<0+n→cs.length=c→(base=none→c=0)→(∀a,base=some a→∀j v,cs[j]?=some v→w.cell? (a.add j)=some v)→
   Calls Tryz.prog 150 #[.slice base 0 c,.int .i64 n] w fun e w'=>∃v' cells',e= .returned v'∧w'.ownsRow 0 3 1 v' 0 cells'∧RowsBy (fun x c=>Rd Tryz.prog (.int .i64) w M x c) ([]:List Int) cells'∧w.grownBy w' (Value.slice base 0 c).ownBlock∧(blk v'=blk (.slice base 0 c)∨∃g,blk v'=some g∧w.heap.size≤g):=by
  intro base c cs hroom hcl hnil hcs
  refine (grow_grow base 0 c n cs w (Nat.zero_le _) hroom (by omega) (by omega) hcl hnil hcs).mono ?_
  rintro e w' ⟨rfl,rfl⟩
  have hGn:0+n≤grownCap w (0+n) c 3:=grownCap_ge w _ _ _
  have hG63:=grownCap_le_maxLen w (0+n) c 3 (by unfold maxLen;omega)
  refine ⟨_,[],rfl,?_,rfl,grown_new _ _,.inr ⟨_,rfl,Nat.le_refl _⟩⟩
  refine World.ownsRow_made w.drew _ _ (Nat.zero_le _) hG63 ?_
  simp only[Array.size_append,List.size_toArray,size_zeroCells,hcl,List.size_toArray,List.length_cons,List.length_nil]
  omega
 rcases hown.2 with ⟨rfl,_⟩|⟨g,cap,cur,rfl,_,hg,_,hcap,hcs,_⟩
 ·by_cases hn:n=0
  ·refine (grow_room none 0 0 n w (Nat.le_refl _) (by omega) (by omega) (by omega)).mono ?_;rintro e w' ⟨rfl,rfl⟩;exact ⟨_,[],rfl,hown,rfl,⟨rfl,rfl,rfl,Nat.le_refl _,fun _ _ _=>rfl⟩,.inl rfl⟩
  ·exact big none 0 [] (by omega) rfl (fun _=>rfl) (fun a ha=>by cases ha)
 ·have hcap':cap≤9223372036854775807:=by unfold maxLen at hcap;omega
  by_cases hn:n≤cap
  ·refine (grow_room (some ⟨g,0,none⟩) 0 cap n w (Nat.zero_le _) hcap' (by omega) (by omega)).mono ?_;rintro e w' ⟨rfl,rfl⟩;exact ⟨_,[],rfl,hown,rfl,⟨rfl,rfl,rfl,Nat.le_refl _,fun _ _ _=>rfl⟩,.inl rfl⟩
  ·refine big (some ⟨g,0,none⟩) cap cur.toList (by omega) (by rw[Array.length_toList,hcs];exact Nat.mul_one _) (fun h=>by cases h) ?_;intro a ha j v hv;injection ha with ha;subst ha;rw[Addr.add_lit,Nat.zero_add];unfold World.cell?;simp only[hg];simpa using hv
end T
end Go.Proofs.YtpocfbfmjippnaaGreat
end
section
namespace Go.Proofs.YtpocfbfmjippnaaGreat
namespace T
def u99:XF:=⟨9,[.tmp 3],[0,1,2,3],(Zg [Zb 2 (.box 149) [.t 0],Zb 3 .mv [.bool false]] (Zg [Zb 4 (.load (.fn .nil .nil)) [.t 1],Zb 5 (.faddr 0 Z1) [.t 2],Zb 6 (.load Z1) [.t 5],Zb 7 .callv [.t 4,.t 6],Zb 8 .not [.t 7],Zb 3 .mv [.t 8]] .ret))⟩
def u149_0:XC:=(Zg [Zb 9 (.bin .lss) [.t 8,.t 7]] (.seq (.cond (.t 9) .skip (.exit 0)) (.seq (.block 1 (Zg [Za 10 8,Za 5 10] (.seq (.icall false [Za 11 1,Za 12 0,Za 13 5,Zb 14 (.iaddr Z5) [.t 12,.t 13],Zb 15 (.load Z5) [.t 14]] (Zb 16 .callv [.t 11,.t 15]) [] 99 u99.n u99.res u99.kv u99.code) (.cond (.t 16) (Zg [Za 17 5,Za 4 17] .ret) .skip)))) (.reg false [Zb 18 (.bin .add) [.t 8,.int .i64 1],Za 8 18]))))
def u149_0d:List Nat:=[4,5,8]
def u149:XF:=⟨19,[.tmp 4],[0,1,4,5,7,8],(Zg [Zb 4 .mv [.int .i64 0]] (.seq (Zg [Zb 6 .mv [.t 0],Zb 7 (.len false) [.t 6],Zb 8 .mv [.int .i64 0]] (.block 0 (.loop u149_0))) (Zg [Zb 4 .mv [.int .i64 (-1)]] .ret)))⟩
def u92:XF:=⟨9,[.tmp 4],[0,1,4],(Zg [Zb 4 .mv [.bool false]] (.seq (.icall false [Za 5 0,Za 6 1] (Zb 7 .callv [.fn 149,.t 5,.t 6]) [Zb 8 (.bin .geq) [.t 7,.int .i64 0],Za 4 8] 149 u149.n u149.res u149.kv u149.code) .ret))⟩
def u54:XF:=⟨30,[.tmp 4],[0,1,2,3,4,5,6,7],(Zg [Zb 2 (.box 102) [Zc 0],Zb 3 (.box 31) [Zc 1],Zb 4 .mv [.bool false]] (.seq (.reg true [Zb 8 (.faddr 1 Z3) [Zc 2],Zf 9 (.load Z3) [Zc 8] [0],Zf 10 (.call 93) [Zc 9] [1,0],Zb 11 (.faddr 1 Z3) [Zc 2],Zf 12 (.load Z3) [Zc 11] [3],Zf 13 (.call 94) [Zc 12] [4,3,2,1,0],Zb 5 (.alloc 31 Z9) [],Zb 6 (.alloc 31 Z9) [],⟨none,.store Z9,[Zc 5,Zc 10],none,[6,2,1,0,5,4,3,7]⟩,⟨none,.store Z9,[Zc 6,Zc 13],none,[7,5,4,3,2,1,0,8,6]⟩]) (.clean (Zg [Zb 14 (.mkfn 95) [Zc 2,Zc 3,Zc 5,Zc 6],Zb 7 (.allocz 143 2) [],⟨none,.store (.fn .nil .nil),[Zc 7,Zc 14],none,[]⟩] (.seq (Zg [Zb 15 (.load (.fn .nil .nil)) [Zc 7],Zb 16 .callv [Zc 15,.int .i64 0],Zb 17 .not [Zc 16],Zb 18 .mv [Zc 17],⟨some 19,.load (.fn .nil .nil),[Zc 7],some (3,18,false),[]⟩,⟨some 20,.load Z9,[Zc 5],some (3,18,false),[]⟩,⟨some 21,.len false,[Zc 20],some (3,18,false),[]⟩,⟨some 22,.callv,[Zc 19,Zc 21],some (3,18,false),[]⟩,⟨some 23,.not,[Zc 22],some (3,18,false),[]⟩,Zb 24 .pick [Zc 18,.bool true,Zc 23]] (.cond (Zc 24) (Zg [Zb 4 .mv [.bool false]] .ret) .skip)) (.clean (.seq (.icall false [Zb 25 (.faddr 2 Z13) [Zc 2],Zb 26 (.load Z13) [Zc 25],Zb 27 (.mkfn 99) [Zc 7]] (Zb 28 .callv [.fn 92,Zc 26,Zc 27]) [Zb 29 .not [Zc 28],Zb 4 .mv [Zc 29]] 92 u92.n u92.res u92.kv u92.code) .ret)))))))⟩
end T
end Go.Proofs.YtpocfbfmjippnaaGreat
end
section
namespace Go.Proofs.YtpocfbfmjippnaaGreat
open Go.RowKit
namespace T
set_option maxHeartbeats 4000000 in
set_option maxRecDepth 100000 in
theorem len64_any (x:Int) (w:World) (h0:0≤x) (h1:x≤255):
  Calls Tryz.prog 216 #[.int .u64 x] w fun e w'=>e= .returned (.int .i64 (Lib.bitLen x.toNat))∧w'=w:=by
 have c1:¬x≥4294967296:=by omega
 have c2:¬x≥65536:=by omega
 have c3:¬x≥256:=by omega
 go_enter Tryz.func216,Tryz.ntmps216
 go_wp2
 all_goals (go_ret;refine ⟨congrArg Ending.returned (congrArg (Value.int IntKind.i64) ?_),rfl⟩)
 have l:=Lib.bitLen_le8' x h0 h1
 rw[Lib.len8_of x h0 h1]
 unfold wrap64
 omega
theorem len_any (x:Int) (w:World) (h0:0≤x) (h1:x≤255):
  Calls Tryz.prog 183 #[.int .u64 x] w fun e w'=>e= .returned (.int .i64 (Lib.bitLen x.toNat))∧w'=w:=by
 go_enter Tryz.func183,Tryz.ntmps183
 go_wp2_with (go_at_call 216;refine (len64_any x _ h0 h1).mono ?_;rintro e w' ⟨rfl,rfl⟩)
 go_ret
 exact ⟨rfl,rfl⟩
def entBLen:Ent:=⟨183,.cons (.int .u64) .nil,.int .i64,false,none,fun x=>0≤(x.1:Int)∧(x.1:Int)≤255,fun x=>((Lib.bitLen (x.1:Int).toNat:Nat):Int)⟩
theorem conBLen:Con Tryz.prog entBLen:=by
 refine Con.to ?_ (by rfl);refine ⟨by kernel_rfl,?_⟩;rintro ⟨(x:Int),_⟩ ⟨h0,h1⟩ w M vs hM hargs;replace h0:0≤x:=h0;replace h1:x≤(255:Int):=h1;obtain ⟨u1,us1,rfl,hu1,rfl⟩:=hargs;obtain ⟨rfl,_⟩:=avr_int (P:=Tryz.prog) (hp:=fun _=>none) (ψ:=fun _=>undef) hu1;refine (len_any x w h0 (by omega)).mono ?_;rintro e w' ⟨rfl,rfl⟩;refine ⟨_,rfl,Below.refl _ _,?_⟩;show RdV Tryz.prog (.int .i64) w' M ((Lib.bitLen x.toNat:Nat):Int) (.int .i64 (Lib.bitLen x.toNat));have l:=Lib.bitLen_le8' x h0 h1;exact int_avr (hp:=fun _=>none) (ψ:=fun _=>undef) ⟨by show (-9223372036854775808:Int)≤_;omega,by show _≤(9223372036854775807:Int);omega⟩
end T
end Go.Proofs.YtpocfbfmjippnaaGreat
end
