/- Parts of the proof of the law; no condition. -/
import Derived.Test.YtpocfbfmjippnaaGreatH4
set_option linter.all false
section
namespace Go.Proofs.YtpocfbfmjippnaaGreat
namespace T
abbrev Z1:Ty:=.int .i64
abbrev Z2:Ty:=.st (.cons (.int .i64) .bool)
abbrev Z3:Ty:=.st (.cons (.int .i64) (.cons (.int .i64) (.int .i64)))
abbrev Z4:Ty:=.st (.cons (.int .i64) (.cons (.int .i64) .bool))
abbrev Z5:Ty:=.sl (.int .i64)
abbrev Z6:Ty:=.st (.cons (.int .i64) (.cons (.int .i64) (.cons (.int .i64) (.cons (.int .i64) (.cons (.int .i64) (.cons (.int .i64) (.cons (.int .i64) (.cons (.int .i64) (.cons (.int .i64) (.int .i64))))))))))
abbrev Z7:Ty:=.sl (.st (.cons (.int .i64) (.cons (.int .i64) (.cons (.int .i64) (.cons (.int .i64) (.cons (.int .i64) (.cons (.int .i64) (.cons (.int .i64) (.cons (.int .i64) (.cons (.int .i64) (.int .i64)))))))))))
abbrev Z8:Ty:=.st (.cons (.int .i64) (.int .i64))
abbrev Z9:Ty:=.sl (.st (.cons (.int .i64) (.int .i64)))
abbrev Z10:Ty:=.st (.cons (.sl (.st (.cons (.int .i64) (.int .i64)))) (.cons (.sl .bool) .bool))
abbrev Z11:Ty:=.st (.cons (.int .i64) (.cons (.int .i64) (.cons (.sl (.int .i64)) (.sl (.int .i64)))))
abbrev Z12:Ty:=.ptr (.st (.cons (.sl (.st (.cons (.int .i64) (.int .i64)))) (.cons (.sl .bool) .bool)))
abbrev Z13:Ty:=.sl (.st (.cons (.int .i64) (.cons (.int .i64) (.cons (.sl (.int .i64)) (.sl (.int .i64))))))
abbrev Z14:Ty:=.sl (.sl (.int .i64))
abbrev Z15:Ty:=.sl (.st (.cons (.int .i64) .bool))
abbrev Z16:Ty:=.sl (.st (.cons (.int .i64) (.cons (.int .i64) .bool)))
abbrev Z17:Ty:=.sl (.st (.cons (.int .i64) (.cons (.int .i64) (.int .i64))))
abbrev Z18:Ty:=.st (.cons (.sl (.st (.cons (.int .i64) (.int .i64)))) (.cons (.sl (.st (.cons (.int .i64) (.int .i64)))) (.sl (.st (.cons (.int .i64) (.cons (.int .i64) (.int .i64)))))))
abbrev Z19:Ty:=.st (.cons (.int .i64) (.cons (.int .i64) (.cons (.int .i64) (.cons (.int .i64) (.cons (.int .i64) (.cons (.int .i64) (.cons (.int .i64) (.cons (.int .i64) (.int .i64)))))))))
abbrev Z20:Ty:=.sl (.st (.cons (.int .i64) (.cons (.int .i64) (.cons (.int .i64) (.cons (.int .i64) (.cons (.int .i64) (.cons (.int .i64) (.cons (.int .i64) (.cons (.int .i64) (.int .i64))))))))))
abbrev Z21:Ty:=.st (.cons (.int .i64) (.cons (.sl (.st (.cons (.int .i64) (.cons (.int .i64) (.cons (.sl (.int .i64)) (.sl (.int .i64))))))) (.cons (.sl (.st (.cons (.int .i64) (.cons (.int .i64) (.cons (.int .i64) (.cons (.int .i64) (.cons (.int .i64) (.cons (.int .i64) (.cons (.int .i64) (.cons (.int .i64) (.int .i64))))))))))) (.cons (.sl (.st (.cons (.int .i64) (.cons (.int .i64) (.cons (.int .i64) (.cons (.int .i64) (.cons (.int .i64) (.cons (.int .i64) (.cons (.int .i64) (.cons (.int .i64) (.cons (.int .i64) (.int .i64)))))))))))) (.cons (.sl (.st (.cons (.int .i64) (.cons (.int .i64) .bool)))) (.st (.cons (.int .i64) (.cons (.int .i64) (.int .i64)))))))))
abbrev Z22:Ty:=.st (.cons (.int .i64) (.cons (.sl (.st (.cons (.int .i64) .bool))) (.cons (.sl (.st (.cons (.int .i64) (.int .i64)))) (.sl (.int .i64)))))
abbrev Z23:Ty:=.sl (.st (.cons (.int .i64) (.cons (.sl (.st (.cons (.int .i64) .bool))) (.cons (.sl (.st (.cons (.int .i64) (.int .i64)))) (.sl (.int .i64))))))
abbrev Z24:Ty:=.st (.cons (.sl (.int .i64)) (.int .i64))
abbrev Z25:Ty:=.sl (.st (.cons (.sl (.int .i64)) (.int .i64)))
abbrev Z26:Ty:=.st (.cons (.st (.cons (.int .i64) (.cons (.sl (.st (.cons (.int .i64) (.cons (.int .i64) (.cons (.sl (.int .i64)) (.sl (.int .i64))))))) (.cons (.sl (.st (.cons (.int .i64) (.cons (.int .i64) (.cons (.int .i64) (.cons (.int .i64) (.cons (.int .i64) (.cons (.int .i64) (.cons (.int .i64) (.cons (.int .i64) (.int .i64))))))))))) (.cons (.sl (.st (.cons (.int .i64) (.cons (.int .i64) (.cons (.int .i64) (.cons (.int .i64) (.cons (.int .i64) (.cons (.int .i64) (.cons (.int .i64) (.cons (.int .i64) (.cons (.int .i64) (.int .i64)))))))))))) (.cons (.sl (.st (.cons (.int .i64) (.cons (.int .i64) .bool)))) (.st (.cons (.int .i64) (.cons (.int .i64) (.int .i64)))))))))) (.cons (.sl (.int .i64)) (.cons (.sl (.int .i64)) (.cons (.sl (.st (.cons (.int .i64) (.cons (.sl (.st (.cons (.int .i64) .bool))) (.cons (.sl (.st (.cons (.int .i64) (.int .i64)))) (.sl (.int .i64))))))) (.cons (.int .i64) (.sl (.st (.cons (.sl (.int .i64)) (.int .i64)))))))))
abbrev Z27:Ty:=.ptr (.st (.cons (.st (.cons (.int .i64) (.cons (.sl (.st (.cons (.int .i64) (.cons (.int .i64) (.cons (.sl (.int .i64)) (.sl (.int .i64))))))) (.cons (.sl (.st (.cons (.int .i64) (.cons (.int .i64) (.cons (.int .i64) (.cons (.int .i64) (.cons (.int .i64) (.cons (.int .i64) (.cons (.int .i64) (.cons (.int .i64) (.int .i64))))))))))) (.cons (.sl (.st (.cons (.int .i64) (.cons (.int .i64) (.cons (.int .i64) (.cons (.int .i64) (.cons (.int .i64) (.cons (.int .i64) (.cons (.int .i64) (.cons (.int .i64) (.cons (.int .i64) (.int .i64)))))))))))) (.cons (.sl (.st (.cons (.int .i64) (.cons (.int .i64) .bool)))) (.st (.cons (.int .i64) (.cons (.int .i64) (.int .i64)))))))))) (.cons (.sl (.int .i64)) (.cons (.sl (.int .i64)) (.cons (.sl (.st (.cons (.int .i64) (.cons (.sl (.st (.cons (.int .i64) .bool))) (.cons (.sl (.st (.cons (.int .i64) (.int .i64)))) (.sl (.int .i64))))))) (.cons (.int .i64) (.sl (.st (.cons (.sl (.int .i64)) (.int .i64))))))))))
abbrev Z28:Ty:=.ptr (.st (.cons (.int .i64) (.cons (.sl (.st (.cons (.int .i64) (.cons (.int .i64) (.cons (.sl (.int .i64)) (.sl (.int .i64))))))) (.cons (.sl (.st (.cons (.int .i64) (.cons (.int .i64) (.cons (.int .i64) (.cons (.int .i64) (.cons (.int .i64) (.cons (.int .i64) (.cons (.int .i64) (.cons (.int .i64) (.int .i64))))))))))) (.cons (.sl (.st (.cons (.int .i64) (.cons (.int .i64) (.cons (.int .i64) (.cons (.int .i64) (.cons (.int .i64) (.cons (.int .i64) (.cons (.int .i64) (.cons (.int .i64) (.cons (.int .i64) (.int .i64)))))))))))) (.cons (.sl (.st (.cons (.int .i64) (.cons (.int .i64) .bool)))) (.st (.cons (.int .i64) (.cons (.int .i64) (.int .i64))))))))))
abbrev Z29:Ty:=.ptr (.st (.cons (.int .i64) (.cons (.int .i64) (.cons (.int .i64) (.cons (.int .i64) (.cons (.int .i64) (.cons (.int .i64) (.cons (.int .i64) (.cons (.int .i64) (.int .i64))))))))))
abbrev Z30:Ty:=.sl (.st (.cons (.int .i64) (.cons (.int .i64) (.cons (.int .i64) (.int .i64)))))
abbrev Z31:Ty:=.st (.cons (.int .i64) (.cons (.int .i64) (.cons (.int .i64) (.int .i64))))
abbrev Z32:Ty:=.ptr (.sl (.int .i64))
def Za (d x:Nat):XO:=⟨some d,.mv,[.t x],none,[]⟩
def Zb (d:Nat) (p:XOp) (l:List XA):XO:=⟨some d,p,l,none,[]⟩
def Zc:=XA.t
def Zd (d:Nat) (p:XOp) (l:List XA) (j t:Nat) (b:Bool) (a:List Nat):XO:=⟨some d,p,l,some (j,t,b),a⟩
def Ze (l:List XO) (c:XC):XC:=.seq (.reg false l) c
def Zf (d:Nat) (p:XOp) (l:List XA) (j t:Nat) (b:Bool):XO:=⟨some d,p,l,some (j,t,b),[]⟩
def Zg (d:Nat) (p:XOp) (l:List XA) (a:List Nat):XO:=⟨some d,p,l,none,a⟩
def Zh (d:Nat) (t:Ty) (x:Nat):XO:=⟨some d,.load t,[.t x],none,[]⟩
def Zi (t:Ty) (x y:Nat):XO:=⟨none,.store t,[.t x,.t y],none,[]⟩
attribute [go_sem] Z1 Z2 Z3 Z4 Z5 Z6 Z7 Z8 Z9 Z10 Z11 Z12 Z13 Z14 Z15 Z16 Z17 Z18 Z19 Z20 Z21 Z22 Z23 Z24 Z25 Z26 Z27 Z28 Z29 Z30 Z31 Z32
end T
end Go.Proofs.YtpocfbfmjippnaaGreat
namespace Go.Proofs.YtpocfbfmjippnaaGreat
namespace T
set_option maxRecDepth 100000
set_option maxHeartbeats 4000000
def y219_1 (nE p:Nat) (kvB:List Nat) (xA xB:XC):XC:=(.seq (.reg false [
  ⟨some 13,.bin .lss,[.t 12,.t 11],none,[]⟩])
 (.seq (.cond (.t 13)
 .skip
 (.exit 2))
 (.seq (.block 3 (.seq (.reg false [
  ⟨some 14,.mv,[.t 12],none,[]⟩,
  ⟨some 15,.iaddr (.st (.cons (.int .i64) (.int .i64))),[.t 10,.t 12],none,[]⟩,
  ⟨some 16,.load (.st (.cons (.int .i64) (.int .i64))),[.t 15],none,[]⟩,
  ⟨some 6,.alloc 263 (.st (.cons (.int .i64) (.int .i64))),[],none,[]⟩,
  ⟨some 5,.mv,[.t 14],none,[]⟩,
  ⟨none,.store (.st (.cons (.int .i64) (.int .i64))),[.t 6,.t 16],none,[]⟩])
 (.seq (.reg true [
  ⟨some 17,.mv,[.t 0],none,[]⟩,
  ⟨some 18,.nilck,[.t 17],none,[0]⟩,
  ⟨some 19,.faddr 1 (.sl .bool),[.t 18],none,[1,0]⟩,
  ⟨some 20,.load (.sl .bool),[.t 19],none,[2,1,0]⟩,
  ⟨some 21,.mv,[.t 5],none,[]⟩,
  ⟨some 22,.iaddr .bool,[.t 20,.t 21],none,[3,2,1,0,4]⟩,
  ⟨some 23,.load .bool,[.t 22],none,[5,3,2,1,0,4]⟩,
  ⟨some 24,.not,[.t 23],none,[6,5,3,2,1,0,4]⟩,
  ⟨some 25,.mv,[.t 24],none,[7,6,5,3,2,1,0,4]⟩,
  ⟨some 26,.faddr 0 (.int .i64),[.t 6],some (8,25,true),[8,7,6,5,3,2,1,0,4]⟩,
  ⟨some 27,.load (.int .i64),[.t 26],some (8,25,true),[9,8,7,6,5,3,2,1,0,4]⟩,
  ⟨some 28,.bin .geq,[.t 27,.int .i64 0],some (8,25,true),[10,9,8,7,6,5,3,2,1,0,4]⟩,
  ⟨some 29,.pick,[.t 25,.t 28,.bool false],none,[8,7,6,5,3,2,1,0,4,11,10,9]⟩,
  ⟨some 30,.mv,[.t 29],none,[12,8,7,6,5,3,2,1,0,4,11,10,9]⟩,
  ⟨some 31,.mv,[.t 4],some (13,30,true),[13,12,8,7,6,5,3,2,1,0,4,11,10,9]⟩,
  ⟨some 32,.bin .lss,[.t 31,.int .i64 0],some (13,30,true),[14,13,12,8,7,6,5,3,2,1,0,4,11,10,9]⟩,
  ⟨some 33,.mv,[.t 32],some (13,30,true),[15,14,13,12,8,7,6,5,3,2,1,0,4,11,10,9]⟩,
  ⟨some 34,.mv,[.t 0],some (16,33,false),[16,15,14,13,12,8,7,6,5,3,2,1,0,4,11,10,9]⟩,
  ⟨some 35,.faddr 0 (.int .i64),[.t 6],some (16,33,false),[16,15,14,13,12,8,7,6,5,3,2,1,0,4,11,10,9]⟩,
  ⟨some 36,.load (.int .i64),[.t 35],some (16,33,false),[18,16,15,14,13,12,8,7,6,5,3,2,1,0,4,11,10,9]⟩,
  ⟨some 37,.mv,[.t 0],some (16,33,false),[16,15,14,13,12,8,7,6,5,3,2,1,0,4,11,10,9]⟩,
  ⟨some 38,.nilck,[.t 37],some (16,33,false),[20,16,15,14,13,12,8,7,6,5,3,2,1,0,4,11,10,9]⟩,
  ⟨some 39,.faddr 0 (.sl (.st (.cons (.int .i64) (.int .i64)))),[.t 38],some (16,33,false),[21,20,16,15,14,13,12,8,7,6,5,3,2,1,0,4,11,10,9]⟩,
  ⟨some 40,.load (.sl (.st (.cons (.int .i64) (.int .i64)))),[.t 39],some (16,33,false),[22,21,20,16,15,14,13,12,8,7,6,5,3,2,1,0,4,11,10,9]⟩,
  ⟨some 41,.mv,[.t 4],some (16,33,false),[16,15,14,13,12,8,7,6,5,3,2,1,0,4,11,10,9]⟩,
  ⟨some 42,.iaddr (.st (.cons (.int .i64) (.int .i64))),[.t 40,.t 41],some (16,33,false),[23,22,21,20,16,15,14,13,12,8,7,6,5,3,2,1,0,4,11,10,9,24]⟩,
  ⟨some 43,.faddr 0 (.int .i64),[.t 42],some (16,33,false),[25,23,22,21,20,16,15,14,13,12,8,7,6,5,3,2,1,0,4,11,10,9,24]⟩,
  ⟨some 44,.load (.int .i64),[.t 43],some (16,33,false),[26,25,23,22,21,20,16,15,14,13,12,8,7,6,5,3,2,1,0,4,11,10,9,24]⟩,
  ⟨some 45,.call 234,[.t 34,.t 36,.t 44],some (16,33,false),[17,16,15,14,13,12,8,7,6,5,3,2,1,0,4,11,10,9,19,18,27,26,25,23,22,21,20,24]⟩,
  ⟨some 46,.pick,[.t 33,.bool true,.t 45],some (13,30,true),[16,15,14,13,12,8,7,6,5,3,2,1,0,4,11,10,9,28,17,19,18,27,26,25,23,22,21,20,24]⟩,
  ⟨some 47,.pick,[.t 30,.t 46,.bool false],none,[13,12,8,7,6,5,3,2,1,0,4,11,10,9,29,16,15,14,28,17,19,18,27,26,25,23,22,21,20,24]⟩])
 (.cond (.t 47)
  (.reg false [
   ⟨some 48,.mv,[.t 5],none,[]⟩,
   ⟨some 4,.mv,[.t 48],none,[]⟩])
  .skip))))
 (.reg false [
  ⟨some 49,.bin .add,[.t 12,.int .i64 1],none,[]⟩,
  ⟨some 12,.mv,[.t 49],none,[]⟩]))))
def y219_1d:List Nat:=[4,5,6,12]
def y219_0 (nE p:Nat) (kvB:List Nat) (xA xB:XC):XC:=(.block 1 (.seq (.reg false [
  ⟨some 4,.mv,[.int .i64 (-1)],none,[]⟩])
 (.seq (.seq (.reg false [
  ⟨some 7,.mv,[.t 0],none,[]⟩,
  ⟨some 8,.nilck,[.t 7],none,[]⟩,
  ⟨some 9,.faddr 0 (.sl (.st (.cons (.int .i64) (.int .i64)))),[.t 8],none,[]⟩,
  ⟨some 10,.load (.sl (.st (.cons (.int .i64) (.int .i64)))),[.t 9],none,[]⟩,
  ⟨some 11,.len false,[.t 10],none,[]⟩,
  ⟨some 12,.mv,[.int .i64 0],none,[]⟩])
 (.clean (.block 2 (.loop (y219_1 nE p kvB xA xB)))))
 (.clean (.seq (.seq (.reg false [
  ⟨some 50,.mv,[.t 4],none,[]⟩,
  ⟨some 51,.bin .lss,[.t 50,.int .i64 0],none,[]⟩])
 (.cond (.t 51)
  .ret
  .skip))
 (.seq (.reg false [
  ⟨some 52,.mv,[.t 0],none,[]⟩,
  ⟨some 53,.nilck,[.t 52],none,[]⟩,
  ⟨some 54,.faddr 1 (.sl .bool),[.t 53],none,[]⟩,
  ⟨some 55,.load (.sl .bool),[.t 54],none,[]⟩,
  ⟨some 56,.mv,[.t 4],none,[]⟩,
  ⟨some 57,.iaddr .bool,[.t 55,.t 56],none,[]⟩,
  ⟨none,.store .bool,[.t 57,.bool true],none,[]⟩])
 (.clean (.seq (.yld [
  ⟨some 58,.mv,[.t 1],none,[]⟩,
  ⟨some 59,.mv,[.t 4],none,[]⟩] ⟨some 60,.callv,[.t 58,.t 59],none,[]⟩ [
  ⟨some 61,.not,[.t 60],none,[]⟩] 1 nE p kvB xA xB)
 (.cond (.t 61)
  .ret
  .skip)))))))))
def y219_0d:List Nat:=[4,5,6,10,11,12]
def y219 (nE p:Nat) (kvB:List Nat) (xA xB:XC):XC:=
 (.block 0 (.loop (y219_0 nE p kvB xA xB)))
def x218:XF:=⟨28,[.tmp 8],[0,1,2,3,8,9],(⟨_,by conv=>rhs;reduce;try simp only[Int.reduceOfNat,Int.reduceNegSucc]⟩:Fx Tryz.f218 [4] [] []).v⟩
def x220:XF:=⟨55,[],[0,1,2,3,8],(⟨_,by conv=>rhs;reduce;try simp only[Int.reduceOfNat,Int.reduceNegSucc]⟩:Fx Tryz.f220 [6,8] [] []).v⟩
def x222_0:XC:=(⟨_,by conv=>rhs;reduce;try simp only[Int.reduceOfNat,Int.reduceNegSucc]⟩:Fl Tryz.f222 0 [9] [] []).v
def x222_0d:List Nat:=[2,3]
def x222:XF:=⟨28,[],[0,2,3],(fun a=>(⟨_,by conv=>rhs;reduce;try simp only[Int.reduceOfNat,Int.reduceNegSucc]⟩:Fx Tryz.f222 [] [] [a]).v) x222_0⟩
def x193:XF:=⟨7,[.cell 3 (.st (.cons (.int .i64) (.cons (.int .i64) (.int .i64))))],[0,1,3],(⟨_,by conv=>rhs;reduce;try simp only[Int.reduceOfNat,Int.reduceNegSucc]⟩:Fx Tryz.f193 [] [] []).v⟩
def x144:XF:=⟨34,[.tmp 6],[0,1,2,3,4,6,7,8],(⟨_,by conv=>rhs;reduce;try simp only[Int.reduceOfNat,Int.reduceNegSucc]⟩:Fx Tryz.f144 [4] [] []).v⟩
def x196_0:XC:=(⟨_,by conv=>rhs;reduce;try simp only[Int.reduceOfNat,Int.reduceNegSucc]⟩:Fl Tryz.f196 0 [] [] []).v
def x196_0d:List Nat:=[5,11]
def x196_1:XC:=(⟨_,by conv=>rhs;reduce;try simp only[Int.reduceOfNat,Int.reduceNegSucc]⟩:Fl Tryz.f196 1 [] [] []).v
def x196_1d:List Nat:=[7,24]
def x196:XF:=⟨35,[.tmp 2],[0,2,3,5,7,9,10,11,22,23,24],(fun a b=>(⟨_,by conv=>rhs;reduce;try simp only[Int.reduceOfNat,Int.reduceNegSucc]⟩:Fx Tryz.f196 [9] [] [a,b]).v) x196_0 x196_1⟩
def x197:XF:=⟨12,[],[0,1,3],(⟨_,by conv=>rhs;reduce;try simp only[Int.reduceOfNat,Int.reduceNegSucc]⟩:Fx Tryz.f197 [] [] []).v⟩
def x192_0:XC:=(Ze [Zb 18 (.bin .lss) [Zc 17,Zc 16]] (.seq (.cond (Zc 18) .skip (.exit 0)) (.seq (.block 1 (Ze [Zb 19 (.iaddr Z2) [Zc 15,Zc 17],Zb 20 (.load Z2) [Zc 19],Zb 8 (.alloc 68 Z2) [],⟨none,.store Z2,[Zc 8,Zc 20],none,[]⟩] (.seq (.icall false [Za 21 5,Zb 22 (.load Z2) [Zc 8]] (Zb 23 .callv [.fn 197,Zc 21,Zc 22]) [] 197 x197.n x197.res x197.kv x197.code) (.icall false [Za 24 6,Za 25 1,Za 26 5] (Zb 27 .callv [Zc 25,Zc 26]) [Zb 28 (.bslice 192 Z3 1 [0]) [Zc 27],Zb 29 (.append 192 Z3 24) [Zc 24,Zc 28],Za 6 29] 193 x193.n x193.res x193.kv x193.code)))) (.reg false [Zb 30 (.bin .add) [Zc 17,.int .i64 1],Za 17 30]))))
def x192_0d:List Nat:=[6,8,17]
def x192:XF:=⟨32,[.tmp 4],[0,1,4,5,6,8,15,16,17],(Ze [Zb 4 (.nilrow 192 Z3) []] (.seq (.icall false [Za 9 0] (Zb 10 .callv [.fn 196,.t 9]) [Za 5 10] 196 x196.n x196.res x196.kv x196.code) (.seq (.icall false [Za 11 1,Za 12 5] (Zb 13 .callv [.t 11,.t 12]) [Zb 14 (.bslice 192 Z3 1 [0]) [.t 13],Za 6 14] 193 x193.n x193.res x193.kv x193.code) (.seq (Ze [Za 15 0,Zb 16 (.len false) [.t 15],Zb 17 .mv [.int .i64 0]] (.block 0 (.loop x192_0))) (Ze [Za 31 6,Za 4 31] .ret)))))⟩
def x143_0:XC:=(Ze [Zb 18 (.bin .lss) [Zc 17,Zc 16]] (.seq (.cond (Zc 18) .skip (.exit 0)) (.seq (.block 1 (Ze [Zb 19 (.iaddr Z2) [Zc 15,Zc 17],Zb 20 (.load Z2) [Zc 19],Zb 8 (.alloc 68 Z2) [],⟨none,.store Z2,[Zc 8,Zc 20],none,[]⟩] (.seq (.icall false [Za 21 5,Zb 22 (.load Z2) [Zc 8]] (Zb 23 .callv [.fn 197,Zc 21,Zc 22]) [] 197 x197.n x197.res x197.kv x197.code) (.icall false [Za 24 6,Za 25 1,Za 26 5] (Zb 27 .callv [Zc 25,Zc 26]) [Zb 28 (.bslice 4 .bool 1 [0]) [Zc 27],Zb 29 (.append 4 .bool 1) [Zc 24,Zc 28],Za 6 29] 144 x144.n x144.res x144.kv x144.code)))) (.reg false [Zb 30 (.bin .add) [Zc 17,.int .i64 1],Za 17 30]))))
def x143_0d:List Nat:=[6,8,17]
def x143:XF:=⟨32,[.tmp 4],[0,1,4,5,6,8,15,16,17],(Ze [Zb 4 (.nilrow 4 .bool) []] (.seq (.icall false [Za 9 0] (Zb 10 .callv [.fn 196,.t 9]) [Za 5 10] 196 x196.n x196.res x196.kv x196.code) (.seq (.icall false [Za 11 1,Za 12 5] (Zb 13 .callv [.t 11,.t 12]) [Zb 14 (.bslice 4 .bool 1 [0]) [.t 13],Za 6 14] 144 x144.n x144.res x144.kv x144.code) (.seq (Ze [Za 15 0,Zb 16 (.len false) [.t 15],Zb 17 .mv [.int .i64 0]] (.block 0 (.loop x143_0))) (Ze [Za 31 6,Za 4 31] .ret)))))⟩
def x207_1:XC:=(⟨_,by conv=>rhs;reduce;try simp only[Int.reduceOfNat,Int.reduceNegSucc]⟩:Fl Tryz.f207 1 [6,9] [] []).v
def x207_1d:List Nat:=[9]
def x207_0:XC:=(fun a=>(⟨_,by conv=>rhs;reduce;try simp only[Int.reduceOfNat,Int.reduceNegSucc]⟩:Fl Tryz.f207 0 [12] [] [a]).v) x207_1
def x207_0d:List Nat:=[8,9]
def x207:XF:=⟨53,[],[0,1,2,3,8,9],(fun a=>(⟨_,by conv=>rhs;reduce;try simp only[Int.reduceOfNat,Int.reduceNegSucc]⟩:Fx Tryz.f207 [] [] [a]).v) x207_0⟩
def x182_0:XC:=(.block 1 (Ze [Za 21 2,Za 22 1,Zb 23 (.bin .sub) [Zc 21,Zc 22],Za 12 23] (.seq (Ze [Za 24 12,Zb 25 (.bin .leq) [Zc 24,.int .i64 12]] (.cond (Zc 25) (.seq (.icall false [Za 26 0,Za 27 1,Za 28 2,Za 29 4] (Zb 30 .callv [.fn 207,Zc 26,Zc 27,Zc 28,Zc 29]) [] 207 x207.n x207.res x207.kv x207.code) .ret) .skip)) (.clean (.seq (Ze [Za 31 3,Zb 32 (.bin .eql) [Zc 31,.int .i64 0]] (.cond (Zc 32) (Ze [Za 33 0,Za 34 1,Za 35 2,Za 36 4,Zb 37 (.call 208) [Zc 33,Zc 34,Zc 35,Zc 36]] .ret) .skip)) (.clean (.seq (Ze [Za 38 10,Zb 39 .not [Zc 38]] (.cond (Zc 39) (Ze [Za 40 0,Za 41 1,Za 42 2,Za 43 4,Zb 44 (.call 209) [Zc 40,Zc 41,Zc 42,Zc 43]] (.reg false [Za 45 3,Zb 46 (.bin .sub) [Zc 45,.int .i64 1],Za 3 46])) .skip)) (.clean (Ze [Za 48 0,Za 49 1,Za 50 2,Za 51 4,Zb 52 (.call 210) [Zc 48,Zc 49,Zc 50,Zc 51],Za 47 52,Zb 53 (.extract 0) [Zc 47],Zb 54 (.extract 1) [Zc 47],Za 13 53,Za 14 54] (.clean (.seq (Ze [Za 55 14,Zb 56 (.bin .eql) [Zc 55,.int .i64 2]] (.cond (Zc 56) (Ze [Za 57 0,Za 58 1,Za 59 2,Za 60 4,Zb 61 (.call 211) [Zc 57,Zc 58,Zc 59,Zc 60]] (Ze [Za 62 2,Zb 63 (.bin .sub) [Zc 62,.int .i64 1],Za 64 13,Za 65 1,Zb 66 (.bin .sub) [Zc 64,Zc 65],Zb 67 (.bin .sub) [Zc 63,Zc 66],Za 13 67] (.reg false [Zb 14 .mv [.int .i64 1]]))) .skip)) (.clean (.seq (Ze [Za 68 10,Za 69 68,Zd 70 .mv [Zc 11] 1 69 true [],Zb 71 .pick [Zc 69,Zc 70,.bool false],Za 72 71,Zd 73 .mv [Zc 14] 4 72 true [],Zd 74 (.bin .eql) [Zc 73,.int .i64 1] 4 72 true [],Zb 75 .pick [Zc 72,Zc 74,.bool false]] (.cond (Zc 75) (Ze [Za 76 0,Za 77 1,Za 78 2,Za 79 4,Zb 80 (.call 212) [Zc 76,Zc 77,Zc 78,Zc 79]] (.cond (Zc 80) .ret .skip)) .skip)) (.clean (.seq (.seq (.reg true [Za 81 1,Zg 82 (.bin .gtr) [Zc 81,.int .i64 0] [0],Zg 83 .mv [Zc 82] [1,0],Zd 84 .mv [Zc 4] 2 83 true [2,1,0],Zd 85 .mv [Zc 0] 2 83 true [2,1,0],Zd 86 .mv [Zc 1] 2 83 true [2,1,0],Zd 87 (.bin .sub) [Zc 86,.int .i64 1] 2 83 true [5,2,1,0],Zd 88 (.iaddr Z3) [Zc 85,Zc 87] 2 83 true [4,2,1,0,6,5],Zd 89 (.load Z3) [Zc 88] 2 83 true [7,4,2,1,0,6,5],Zd 90 .mv [Zc 0] 2 83 true [2,1,0],Zd 91 .mv [Zc 13] 2 83 true [2,1,0],Zd 92 (.iaddr Z3) [Zc 90,Zc 91] 2 83 true [9,2,1,0,10],Zd 93 (.load Z3) [Zc 92] 2 83 true [11,9,2,1,0,10],⟨some 94,.callv,[Zc 84,Zc 89,Zc 93],some (2,83,true),[3,2,1,0,8,7,4,6,5,12,11,9,10]⟩,Zd 95 (.bin .lss) [Zc 94,.int .i64 0] 2 83 true [13,3,2,1,0,8,7,4,6,5,12,11,9,10],Zd 96 .not [Zc 95] 2 83 true [14,13,3,2,1,0,8,7,4,6,5,12,11,9,10],Zg 97 .pick [Zc 83,Zc 96,.bool false] [2,1,0,15,14,13,3,8,7,4,6,5,12,11,9,10]]) (.cond (Zc 97) (Ze [Za 98 0,Za 99 1,Za 100 2,Za 101 13,Za 102 4,Zb 103 (.call 213) [Zc 98,Zc 99,Zc 100,Zc 101,Zc 102],Za 15 103] (Ze [Za 104 15,Za 1 104] (.exit 1))) .skip)) (.clean (Ze [Za 106 0,Za 107 1,Za 108 2,Za 109 13,Za 110 4,Zb 111 (.call 214) [Zc 106,Zc 107,Zc 108,Zc 109,Zc 110],Za 105 111,Zb 112 (.extract 0) [Zc 105],Zb 113 (.extract 1) [Zc 105],Za 16 112,Za 17 113] (.clean (Ze [Za 114 17,Za 11 114] (Ze [Za 115 16,Za 116 1,Zb 117 (.bin .sub) [Zc 115,Zc 116],Za 118 2,Za 119 16,Zb 120 (.bin .sub) [Zc 118,Zc 119],Za 18 117,Za 19 120] (.clean (Ze [Za 121 12,Zb 122 (.bin .quo) [Zc 121,.int .i64 8],Za 20 122] (Ze [Za 123 18,Za 124 19,Zb 125 (.bin .lss) [Zc 123,Zc 124]] (.cond (Zc 125) (Ze [Za 126 18,Za 127 20,Zb 128 (.bin .geq) [Zc 126,Zc 127],Za 10 128] (Ze [Za 129 0,Za 130 1,Za 131 16,Za 132 3,Za 133 4,Zb 134 (.call 182) [Zc 129,Zc 130,Zc 131,Zc 132,Zc 133]] (.clean (.reg false [Za 135 16,Zb 136 (.bin .add) [Zc 135,.int .i64 1],Za 1 136])))) (Ze [Za 137 19,Za 138 20,Zb 139 (.bin .geq) [Zc 137,Zc 138],Za 10 139] (Ze [Za 140 0,Za 141 16,Zb 142 (.bin .add) [Zc 141,.int .i64 1],Za 143 2,Za 144 3,Za 145 4,Zb 146 (.call 182) [Zc 140,Zc 142,Zc 143,Zc 144,Zc 145]] (.reg false [Za 147 16,Za 2 147])))))))))))))))))))))))))))
def x182_0d:List Nat:=[1,2,3,10,11,12,13,14,15,16,17,18,19,20]
def x182:XF:=⟨148,[],[0,1,2,3,4,10,11,12,13,14,15,16,17,18,19,20],(fun a=>(⟨_,by conv=>rhs;reduce;try simp only[Int.reduceOfNat,Int.reduceNegSucc]⟩:Fx Tryz.f182 [] [] [a]).v) x182_0⟩
def x130:XF:=⟨14,[],[0,1,4],(Ze [Za 5 0,Zb 6 (.len false) [.t 5],Za 4 6] (.icall false [Za 7 0,Za 8 4,Za 9 4,Zb 10 (.conv .u64) [.t 9],Zb 11 (.call 183) [.t 10],Za 12 1] (Zb 13 .callv [.fn 182,.t 7,.int .i64 0,.t 8,.t 11,.t 12]) [] 182 x182.n x182.res x182.kv x182.code))⟩
def x42_0:XC:=(⟨_,by conv=>rhs;reduce;try simp only[Int.reduceOfNat,Int.reduceNegSucc]⟩:Fl Tryz.f42 0 [] [] []).v
def x42_0d:List Nat:=[4,5,13]
def x42:XF:=⟨26,[.tmp 4],[0,1,4,5,12,13],(fun a=>(⟨_,by conv=>rhs;reduce;try simp only[Int.reduceOfNat,Int.reduceNegSucc]⟩:Fx Tryz.f42 [10] [] [a]).v) x42_0⟩
def x43_0:XC:=(⟨_,by conv=>rhs;reduce;try simp only[Int.reduceOfNat,Int.reduceNegSucc]⟩:Fl Tryz.f43 0 [] [] []).v
def x43_0d:List Nat:=[4,5,13]
def x43:XF:=⟨26,[.tmp 4],[0,1,4,5,12,13],(fun a=>(⟨_,by conv=>rhs;reduce;try simp only[Int.reduceOfNat,Int.reduceNegSucc]⟩:Fx Tryz.f43 [10] [] [a]).v) x43_0⟩
def x44_0:XC:=(⟨_,by conv=>rhs;reduce;try simp only[Int.reduceOfNat,Int.reduceNegSucc]⟩:Fl Tryz.f44 0 [] [] []).v
def x44_0d:List Nat:=[4,5,13]
def x44:XF:=⟨26,[.tmp 4],[0,1,4,5,12,13],(fun a=>(⟨_,by conv=>rhs;reduce;try simp only[Int.reduceOfNat,Int.reduceNegSucc]⟩:Fx Tryz.f44 [10] [] [a]).v) x44_0⟩
def x53:XF:=⟨50,[.tmp 2],[0,1,2,3,4,5,6],(⟨_,by conv=>rhs;reduce;try simp only[Int.reduceOfNat,Int.reduceNegSucc]⟩:Fx Tryz.f53 [12] [] []).v⟩
def x57:XF:=⟨8,[.tmp 2],[0,2],(⟨_,by conv=>rhs;reduce;try simp only[Int.reduceOfNat,Int.reduceNegSucc]⟩:Fx Tryz.f57 [] [] []).v⟩
def x60_0:XC:=(⟨_,by conv=>rhs;reduce;try simp only[Int.reduceOfNat,Int.reduceNegSucc]⟩:Fl Tryz.f60 0 [15] [] []).v
def x60_0d:List Nat:=[4,5]
def x60:XF:=⟨26,[.tmp 4],[0,1,4,5],(fun a=>(⟨_,by conv=>rhs;reduce;try simp only[Int.reduceOfNat,Int.reduceNegSucc]⟩:Fx Tryz.f60 [10] [] [a]).v) x60_0⟩
def x62:XF:=⟨9,[.tmp 4],[0,1,4],(⟨_,by conv=>rhs;reduce;try simp only[Int.reduceOfNat,Int.reduceNegSucc]⟩:Fx Tryz.f62 [] [] []).v⟩
def x64:XF:=⟨9,[.tmp 4],[0,1,4],(⟨_,by conv=>rhs;reduce;try simp only[Int.reduceOfNat,Int.reduceNegSucc]⟩:Fx Tryz.f64 [] [] []).v⟩
def x66:XF:=⟨9,[.tmp 4],[0,1,4],(⟨_,by conv=>rhs;reduce;try simp only[Int.reduceOfNat,Int.reduceNegSucc]⟩:Fx Tryz.f66 [] [] []).v⟩
def x67:XF:=⟨8,[.tmp 2],[0,2],(⟨_,by conv=>rhs;reduce;try simp only[Int.reduceOfNat,Int.reduceNegSucc]⟩:Fx Tryz.f67 [] [] []).v⟩
def x68:XF:=⟨8,[.tmp 2],[0,2],(⟨_,by conv=>rhs;reduce;try simp only[Int.reduceOfNat,Int.reduceNegSucc]⟩:Fx Tryz.f68 [] [] []).v⟩
def x71:XF:=⟨8,[.tmp 2],[0,2],(⟨_,by conv=>rhs;reduce;try simp only[Int.reduceOfNat,Int.reduceNegSucc]⟩:Fx Tryz.f71 [] [] []).v⟩
def x79_0:XC:=(⟨_,by conv=>rhs;reduce;try simp only[Int.reduceOfNat,Int.reduceNegSucc]⟩:Fl Tryz.f79 0 [] [] []).v
def x79_0d:List Nat:=[6,8,16]
def x79:XF:=⟨29,[.tmp 4,.tmp 5],[0,1,2,4,5,6,8,14,15,16],(fun a=>(⟨_,by conv=>rhs;reduce;try simp only[Int.reduceOfNat,Int.reduceNegSucc]⟩:Fx Tryz.f79 [10,17] [] [a]).v) x79_0⟩
def x83:XF:=⟨36,[.tmp 6,.tmp 7],[0,1,2,3,6,7,8,9,10],(⟨_,by conv=>rhs;reduce;try simp only[Int.reduceOfNat,Int.reduceNegSucc]⟩:Fx Tryz.f83 [4,12] [] []).v⟩
def x84_0:XC:=(Ze [Zb 18 (.bin .lss) [Zc 17,Zc 16]] (.seq (.cond (Zc 18) .skip (.exit 0)) (.seq (.block 1 (Ze [Zb 19 (.iaddr Z4) [Zc 15,Zc 17],Zb 20 (.load Z4) [Zc 19],Zb 8 (.alloc 163 Z4) [],⟨none,.store Z4,[Zc 8,Zc 20],none,[]⟩] (Ze [Zb 9 (.alloc 4 .bool) [],Zb 10 (.alloc 4 .bool) [],⟨none,.store .bool,[Zc 9,.bool false],none,[]⟩,⟨none,.store .bool,[Zc 10,.bool false],none,[]⟩] (.seq (.icall false [Za 21 1,Zb 22 (.mkfn 144) [Zc 8,Zc 5,Zc 9,Zc 10]] (Zb 23 .callv [.fn 143,Zc 21,Zc 22]) [] 143 x143.n x143.res x143.kv x143.code) (Ze [Zb 24 (.faddr 2 .bool) [Zc 8],Zb 25 (.load .bool) [Zc 24],Za 26 25,Zf 27 (.load .bool) [Zc 9] 2 26 true,Zb 28 .pick [Zc 26,Zc 27,.bool false],Za 29 28,Zf 30 (.load .bool) [Zc 10] 5 29 true,Zf 31 .not [Zc 30] 5 29 true,Zb 32 .pick [Zc 29,Zc 31,.bool false],Za 33 32,Zf 34 (.faddr 2 .bool) [Zc 8] 9 33 false,Zf 35 (.load .bool) [Zc 34] 9 33 false,Zf 36 .not [Zc 35] 9 33 false,Zf 37 .mv [Zc 36] 9 33 false,Zf 38 (.load .bool) [Zc 10] 13 37 true,Zf 39 .pick [Zc 37,Zc 38,.bool false] 9 33 false,Zb 40 .pick [Zc 33,.bool true,Zc 39]] (.cond (Zc 40) (Ze [Zb 6 .mv [.bool false]] .ret) .skip)))))) (.reg false [Zb 41 (.bin .add) [Zc 17,.int .i64 1],Za 17 41]))))
def x84_0d:List Nat:=[6,8,9,10,17]
def x84:XF:=⟨42,[.tmp 6],[0,1,2,5,6,8,9,10,15,16,17],(fun a=>(⟨_,by conv=>rhs;reduce;try simp only[Int.reduceOfNat,Int.reduceNegSucc]⟩:Fx Tryz.f84 [10] [] [a]).v) x84_0⟩
def x85:XF:=⟨9,[.tmp 4],[0,1,4],(⟨_,by conv=>rhs;reduce;try simp only[Int.reduceOfNat,Int.reduceNegSucc]⟩:Fx Tryz.f85 [] [] []).v⟩
def x87:XF:=⟨18,[.tmp 2],[0,1,2],(⟨_,by conv=>rhs;reduce;try simp only[Int.reduceOfNat,Int.reduceNegSucc]⟩:Fx Tryz.f87 [] [] []).v⟩
def x88:XF:=⟨18,[.tmp 2],[0,1,2],(⟨_,by conv=>rhs;reduce;try simp only[Int.reduceOfNat,Int.reduceNegSucc]⟩:Fx Tryz.f88 [] [] []).v⟩
def x89:XF:=⟨30,[.tmp 3],[0,1,2,3],(⟨_,by conv=>rhs;reduce;try simp only[Int.reduceOfNat,Int.reduceNegSucc]⟩:Fx Tryz.f89 [] [] []).v⟩
def x90:XF:=⟨9,[.tmp 4],[0,1,4],(⟨_,by conv=>rhs;reduce;try simp only[Int.reduceOfNat,Int.reduceNegSucc]⟩:Fx Tryz.f90 [] [] []).v⟩
def x91:XF:=⟨9,[.tmp 4],[0,1,4],(⟨_,by conv=>rhs;reduce;try simp only[Int.reduceOfNat,Int.reduceNegSucc]⟩:Fx Tryz.f91 [] [] []).v⟩
def x92:XF:=⟨9,[.tmp 4],[0,1,4],(⟨_,by conv=>rhs;reduce;try simp only[Int.reduceOfNat,Int.reduceNegSucc]⟩:Fx Tryz.f92 [] [] []).v⟩
def x96_0:XC:=(⟨_,by conv=>rhs;reduce;try simp only[Int.reduceOfNat,Int.reduceNegSucc]⟩:Fl Tryz.f96 0 [] [] []).v
def x96_0d:List Nat:=[6,7,8,9,25]
def x96:XF:=⟨50,[.tmp 6,.tmp 7],[0,1,2,3,6,7,8,9,23,24,25],(fun a=>(⟨_,by conv=>rhs;reduce;try simp only[Int.reduceOfNat,Int.reduceNegSucc]⟩:Fx Tryz.f96 [10,15] [] [a]).v) x96_0⟩
def x97_0:XC:=(Ze [Zb 12 (.bin .lss) [.t 11,.t 10]] (.seq (.cond (.t 12) .skip (.exit 0)) (.seq (.block 1 (Ze [Zb 13 (.iaddr Z5) [.t 9,.t 11],Zb 14 (.load Z5) [.t 13],Za 5 14] (Ze [Za 15 3,Za 16 5,Zb 17 (.len false) [.t 16],Zb 18 (.bin .add) [.t 15,.t 17],Za 3 18] (Ze [Za 19 3,Zb 20 (.bin .lss) [.t 19,.int .i64 0]] (.cond (.t 20) .dead  .skip))))) (.reg false [Zb 22 (.bin .add) [.t 11,.int .i64 1],Za 11 22]))))
def x97_0d:List Nat:=[3,5,11]
def x97_1:XC:=(⟨_,by conv=>rhs;reduce;try simp only[Int.reduceOfNat,Int.reduceNegSucc]⟩:Fl Tryz.f97 1 [] [] []).v
def x97_1d:List Nat:=[6,8,27]
def x97:XF:=⟨36,[.tmp 2],[0,2,3,5,6,8,9,10,11,25,26,27],(fun a b=>(⟨_,by conv=>rhs;reduce;try simp only[Int.reduceOfNat,Int.reduceNegSucc]⟩:Fx Tryz.f97 [9] [] [a,b]).v) x97_0 x97_1⟩
def x100:XF:=⟨27,[.tmp 6,.tmp 7],[0,1,2,3,6,7,10],(⟨_,by conv=>rhs;reduce;try simp only[Int.reduceOfNat,Int.reduceNegSucc]⟩:Fx Tryz.f100 [10,13] [] []).v⟩
def x101:XF:=⟨15,[.tmp 5],[0,1,2,5],(⟨_,by conv=>rhs;reduce;try simp only[Int.reduceOfNat,Int.reduceNegSucc]⟩:Fx Tryz.f101 [] [] []).v⟩
def x102:XF:=⟨24,[.tmp 4],[0,1,2,4,5],(⟨_,by conv=>rhs;reduce;try simp only[Int.reduceOfNat,Int.reduceNegSucc]⟩:Fx Tryz.f102 [] [] []).v⟩
def x106:XF:=⟨9,[.tmp 4],[0,1,4],(⟨_,by conv=>rhs;reduce;try simp only[Int.reduceOfNat,Int.reduceNegSucc]⟩:Fx Tryz.f106 [] [] []).v⟩
def x107:XF:=⟨9,[.tmp 4],[0,1,4],(⟨_,by conv=>rhs;reduce;try simp only[Int.reduceOfNat,Int.reduceNegSucc]⟩:Fx Tryz.f107 [] [] []).v⟩
def x108:XF:=⟨9,[.tmp 4],[0,1,4],(⟨_,by conv=>rhs;reduce;try simp only[Int.reduceOfNat,Int.reduceNegSucc]⟩:Fx Tryz.f108 [] [] []).v⟩
def x109:XF:=⟨47,[.tmp 6],[0,1,2,3,6,7,8],(⟨_,by conv=>rhs;reduce;try simp only[Int.reduceOfNat,Int.reduceNegSucc]⟩:Fx Tryz.f109 [6] [] []).v⟩
def x110_0:XC:=(⟨_,by conv=>rhs;reduce;try simp only[Int.reduceOfNat,Int.reduceNegSucc]⟩:Fl Tryz.f110 0 [] [] []).v
def x110_0d:List Nat:=[4,5,8]
def x110:XF:=⟨19,[.tmp 4],[0,1,4,5,7,8],(fun a=>(⟨_,by conv=>rhs;reduce;try simp only[Int.reduceOfNat,Int.reduceNegSucc]⟩:Fx Tryz.f110 [] [] [a]).v) x110_0⟩
def x111_0:XC:=(⟨_,by conv=>rhs;reduce;try simp only[Int.reduceOfNat,Int.reduceNegSucc]⟩:Fl Tryz.f111 0 [] [] []).v
def x111_0d:List Nat:=[4,5,8]
def x111:XF:=⟨19,[.tmp 4],[0,1,4,5,7,8],(fun a=>(⟨_,by conv=>rhs;reduce;try simp only[Int.reduceOfNat,Int.reduceNegSucc]⟩:Fx Tryz.f111 [] [] [a]).v) x111_0⟩
def x112_0:XC:=(⟨_,by conv=>rhs;reduce;try simp only[Int.reduceOfNat,Int.reduceNegSucc]⟩:Fl Tryz.f112 0 [] [] []).v
def x112_0d:List Nat:=[4,5,8]
def x112:XF:=⟨19,[.tmp 4],[0,1,4,5,7,8],(fun a=>(⟨_,by conv=>rhs;reduce;try simp only[Int.reduceOfNat,Int.reduceNegSucc]⟩:Fx Tryz.f112 [] [] [a]).v) x112_0⟩
def x114_0:XC:=(⟨_,by conv=>rhs;reduce;try simp only[Int.reduceOfNat,Int.reduceNegSucc]⟩:Fl Tryz.f114 0 [16,23] [] []).v
def x114_0d:List Nat:=[4,5]
def x114:XF:=⟨45,[.tmp 4],[0,1,4,5],(fun a=>(⟨_,by conv=>rhs;reduce;try simp only[Int.reduceOfNat,Int.reduceNegSucc]⟩:Fx Tryz.f114 [10] [] [a]).v) x114_0⟩
def x118_0:XC:=(⟨_,by conv=>rhs;reduce;try simp only[Int.reduceOfNat,Int.reduceNegSucc]⟩:Fl Tryz.f118 0 [15] [] []).v
def x118_0d:List Nat:=[6,7]
def x118:XF:=⟨56,[.tmp 6],[0,1,2,3,6,7],(fun a=>(⟨_,by conv=>rhs;reduce;try simp only[Int.reduceOfNat,Int.reduceNegSucc]⟩:Fx Tryz.f118 [10] [] [a]).v) x118_0⟩
def x120_0:XC:=(⟨_,by conv=>rhs;reduce;try simp only[Int.reduceOfNat,Int.reduceNegSucc]⟩:Fl Tryz.f120 0 [15] [] []).v
def x120_0d:List Nat:=[6,7,10]
def x120:XF:=⟨72,[.tmp 6,.tmp 7],[0,1,2,3,6,7,8,9,10],(fun a=>(⟨_,by conv=>rhs;reduce;try simp only[Int.reduceOfNat,Int.reduceNegSucc]⟩:Fx Tryz.f120 [4,12] [] [a]).v) x120_0⟩
def x121_1:XC:=(⟨_,by conv=>rhs;reduce;try simp only[Int.reduceOfNat,Int.reduceNegSucc]⟩:Fl Tryz.f121 1 [10,12,14,15] [] []).v
def x121_1d:List Nat:=[8,9,10,11,12]
def x121_0:XC:=(fun a=>(⟨_,by conv=>rhs;reduce;try simp only[Int.reduceOfNat,Int.reduceNegSucc]⟩:Fl Tryz.f121 0 [17,24] [] [a]).v) x121_1
def x121_0d:List Nat:=[6,7,8,9,10,11,12]
def x121:XF:=⟨74,[.tmp 6],[0,1,2,6,7,8,9,10,11,12],(fun a=>(⟨_,by conv=>rhs;reduce;try simp only[Int.reduceOfNat,Int.reduceNegSucc]⟩:Fx Tryz.f121 [10] [] [a]).v) x121_0⟩
def x123_0:XC:=(⟨_,by conv=>rhs;reduce;try simp only[Int.reduceOfNat,Int.reduceNegSucc]⟩:Fl Tryz.f123 0 [15] [] []).v
def x123_0d:List Nat:=[2,4]
def x123_1:XC:=(⟨_,by conv=>rhs;reduce;try simp only[Int.reduceOfNat,Int.reduceNegSucc]⟩:Fl Tryz.f123 1 [15] [] []).v
def x123_1d:List Nat:=[2,5]
def x123_2:XC:=(⟨_,by conv=>rhs;reduce;try simp only[Int.reduceOfNat,Int.reduceNegSucc]⟩:Fl Tryz.f123 2 [6,10,17] [] []).v
def x123_2d:List Nat:=[2,6,7]
def x123:XF:=⟨122,[.tmp 2],[0,1,2,3,4,5,6,7],(fun a b c=>(⟨_,by conv=>rhs;reduce;try simp only[Int.reduceOfNat,Int.reduceNegSucc]⟩:Fx Tryz.f123 [12,17,22] [] [a,b,c]).v) x123_0 x123_1 x123_2⟩
def x125_0:XC:=(⟨_,by conv=>rhs;reduce;try simp only[Int.reduceOfNat,Int.reduceNegSucc]⟩:Fl Tryz.f125 0 [15] [] []).v
def x125_0d:List Nat:=[6,7,8]
def x125:XF:=⟨43,[.tmp 6,.tmp 7],[0,1,2,3,6,7,8],(fun a=>(⟨_,by conv=>rhs;reduce;try simp only[Int.reduceOfNat,Int.reduceNegSucc]⟩:Fx Tryz.f125 [10] [] [a]).v) x125_0⟩
def x129:XF:=⟨20,[.tmp 4,.tmp 5],[0,1,2,4,5],(⟨_,by conv=>rhs;reduce;try simp only[Int.reduceOfNat,Int.reduceNegSucc]⟩:Fx Tryz.f129 [10] [] []).v⟩
def x134:XF:=⟨22,[.tmp 4],[0,1,2,4,5],(⟨_,by conv=>rhs;reduce;try simp only[Int.reduceOfNat,Int.reduceNegSucc]⟩:Fx Tryz.f134 [] [] []).v⟩
def x135_0:XC:=(⟨_,by conv=>rhs;reduce;try simp only[Int.reduceOfNat,Int.reduceNegSucc]⟩:Fl Tryz.f135 0 [] [] []).v
def x135_0d:List Nat:=[5,6,7,15]
def x135:XF:=⟨37,[.tmp 4],[0,1,4,5,6,7,13,14,15],(fun a=>(⟨_,by conv=>rhs;reduce;try simp only[Int.reduceOfNat,Int.reduceNegSucc]⟩:Fx Tryz.f135 [4] [] [a]).v) x135_0⟩
def x138_0:XC:=(⟨_,by conv=>rhs;reduce;try simp only[Int.reduceOfNat,Int.reduceNegSucc]⟩:Fl Tryz.f138 0 [18,23] [] []).v
def x138_0d:List Nat:=[4,6,7]
def x138:XF:=⟨72,[.tmp 4],[0,1,4,5,6,7],(fun a=>(⟨_,by conv=>rhs;reduce;try simp only[Int.reduceOfNat,Int.reduceNegSucc]⟩:Fx Tryz.f138 [10] [] [a]).v) x138_0⟩
def x139:XF:=⟨13,[.tmp 4,.tmp 5],[0,1,3,4,5],(Ze [Zb 3 (.box 24) [.t 1],Zb 4 (.nilrow 192 Z3) [],Zb 5 .mv [.int .i64 0]] (.seq (Ze [Za 6 0,Zb 7 (.load Z7) [.t 3],Zb 8 (.call 138) [.t 6,.t 7],Zb 9 .not [.t 8]] (.cond (.t 9) (Ze [Zb 4 (.nilrow 192 Z3) [],Zb 5 .mv [.int .i64 1]] .ret) .skip)) (.clean (.seq (.icall false [Za 10 0,Zb 11 (.mkfn 193) [.t 3]] (Zb 12 .callv [.fn 192,.t 10,.t 11]) [Za 4 12,Zb 5 .mv [.int .i64 0]] 192 x192.n x192.res x192.kv x192.code) .ret))))⟩
def x140:XF:=⟨20,[.tmp 2],[0,1,2,3],(⟨_,by conv=>rhs;reduce;try simp only[Int.reduceOfNat,Int.reduceNegSucc]⟩:Fx Tryz.f140 [] [] []).v⟩
def x141_0:XC:=(⟨_,by conv=>rhs;reduce;try simp only[Int.reduceOfNat,Int.reduceNegSucc]⟩:Fl Tryz.f141 0 [] [] []).v
def x141_0d:List Nat:=[4,5,8]
def x141:XF:=⟨19,[.tmp 4],[0,1,4,5,7,8],(fun a=>(⟨_,by conv=>rhs;reduce;try simp only[Int.reduceOfNat,Int.reduceNegSucc]⟩:Fx Tryz.f141 [] [] [a]).v) x141_0⟩
def x142:XF:=⟨23,[.tmp 3],[0,1,2,3],(⟨_,by conv=>rhs;reduce;try simp only[Int.reduceOfNat,Int.reduceNegSucc]⟩:Fx Tryz.f142 [] [] []).v⟩
def x145_0:XC:=(.seq (.nxt 10 9 [Zb 11 (.extract 0) [.t 10]]) (.seq (.cond (.t 11) .skip (.exit 0)) (.block 1 (Ze [Zb 12 .entry [.t 9],Zb 13 (.extract 0) [.t 12],Za 7 13] (Ze [Za 14 2,Za 15 7,Zb 16 (.iaddr Z6) [.t 14,.t 15],Zb 17 (.faddr 0 Z1) [.t 16],Zb 18 (.load Z1) [.t 17],Za 19 1,Zb 20 (.bin .eql) [.t 18,.t 19]] (.cond (.t 20) (Ze [Zb 6 .mv [.bool true]] .ret) .skip))))))
def x145_0d:List Nat:=[6,7]
def x145:XF:=⟨21,[.tmp 6],[0,1,2,6,7,9],(fun a=>(⟨_,by conv=>rhs;reduce;try simp only[Int.reduceOfNat,Int.reduceNegSucc]⟩:Fx Tryz.f145 [] [] [a]).v) x145_0⟩
def x146_0:XC:=(⟨_,by conv=>rhs;reduce;try simp only[Int.reduceOfNat,Int.reduceNegSucc]⟩:Fl Tryz.f146 0 [] [] []).v
def x146_0d:List Nat:=[4,5,8]
def x146:XF:=⟨19,[.tmp 4],[0,1,4,5,7,8],(fun a=>(⟨_,by conv=>rhs;reduce;try simp only[Int.reduceOfNat,Int.reduceNegSucc]⟩:Fx Tryz.f146 [] [] [a]).v) x146_0⟩
def x147_0:XC:=(⟨_,by conv=>rhs;reduce;try simp only[Int.reduceOfNat,Int.reduceNegSucc]⟩:Fl Tryz.f147 0 [] [] []).v
def x147_0d:List Nat:=[4,5,8]
def x147:XF:=⟨19,[.tmp 4],[0,1,4,5,7,8],(fun a=>(⟨_,by conv=>rhs;reduce;try simp only[Int.reduceOfNat,Int.reduceNegSucc]⟩:Fx Tryz.f147 [] [] [a]).v) x147_0⟩
def x148_0:XC:=(⟨_,by conv=>rhs;reduce;try simp only[Int.reduceOfNat,Int.reduceNegSucc]⟩:Fl Tryz.f148 0 [] [] []).v
def x148_0d:List Nat:=[4,5,8]
def x148:XF:=⟨19,[.tmp 4],[0,1,4,5,7,8],(fun a=>(⟨_,by conv=>rhs;reduce;try simp only[Int.reduceOfNat,Int.reduceNegSucc]⟩:Fx Tryz.f148 [] [] [a]).v) x148_0⟩
def x149_0:XC:=(⟨_,by conv=>rhs;reduce;try simp only[Int.reduceOfNat,Int.reduceNegSucc]⟩:Fl Tryz.f149 0 [] [] []).v
def x149_0d:List Nat:=[4,5,8]
def x149:XF:=⟨19,[.tmp 4],[0,1,4,5,7,8],(fun a=>(⟨_,by conv=>rhs;reduce;try simp only[Int.reduceOfNat,Int.reduceNegSucc]⟩:Fx Tryz.f149 [] [] [a]).v) x149_0⟩
def x151:XF:=⟨18,[.tmp 3],[0,1,2,3],(⟨_,by conv=>rhs;reduce;try simp only[Int.reduceOfNat,Int.reduceNegSucc]⟩:Fx Tryz.f151 [] [] []).v⟩
def x152_0:XC:=(⟨_,by conv=>rhs;reduce;try simp only[Int.reduceOfNat,Int.reduceNegSucc]⟩:Fl Tryz.f152 0 [16,22] [] []).v
def x152_0d:List Nat:=[6,7,8,9,10,13]
def x152:XF:=⟨57,[.tmp 6,.tmp 7,.tmp 8],[0,1,2,3,6,7,8,9,10,11,12,13],(fun a=>(⟨_,by conv=>rhs;reduce;try simp only[Int.reduceOfNat,Int.reduceNegSucc]⟩:Fx Tryz.f152 [7] [] [a]).v) x152_0⟩
def x153:XF:=⟨19,[.tmp 3],[0,1,2,3],(⟨_,by conv=>rhs;reduce;try simp only[Int.reduceOfNat,Int.reduceNegSucc]⟩:Fx Tryz.f153 [] [] []).v⟩
def x155:XF:=⟨9,[.tmp 4],[0,1,4],(⟨_,by conv=>rhs;reduce;try simp only[Int.reduceOfNat,Int.reduceNegSucc]⟩:Fx Tryz.f155 [] [] []).v⟩
def x156_0:XC:=(⟨_,by conv=>rhs;reduce;try simp only[Int.reduceOfNat,Int.reduceNegSucc]⟩:Fl Tryz.f156 0 [] [] []).v
def x156_0d:List Nat:=[4,5,8]
def x156:XF:=⟨19,[.tmp 4],[0,1,4,5,7,8],(fun a=>(⟨_,by conv=>rhs;reduce;try simp only[Int.reduceOfNat,Int.reduceNegSucc]⟩:Fx Tryz.f156 [] [] [a]).v) x156_0⟩
def x157_0:XC:=(⟨_,by conv=>rhs;reduce;try simp only[Int.reduceOfNat,Int.reduceNegSucc]⟩:Fl Tryz.f157 0 [] [] []).v
def x157_0d:List Nat:=[4,5,8]
def x157:XF:=⟨19,[.tmp 4],[0,1,4,5,7,8],(fun a=>(⟨_,by conv=>rhs;reduce;try simp only[Int.reduceOfNat,Int.reduceNegSucc]⟩:Fx Tryz.f157 [] [] [a]).v) x157_0⟩
def x158_0:XC:=(⟨_,by conv=>rhs;reduce;try simp only[Int.reduceOfNat,Int.reduceNegSucc]⟩:Fl Tryz.f158 0 [] [] []).v
def x158_0d:List Nat:=[4,5,8]
def x158:XF:=⟨19,[.tmp 4],[0,1,4,5,7,8],(fun a=>(⟨_,by conv=>rhs;reduce;try simp only[Int.reduceOfNat,Int.reduceNegSucc]⟩:Fx Tryz.f158 [] [] [a]).v) x158_0⟩
def x159:XF:=⟨14,[.tmp 2],[0,1,2],(⟨_,by conv=>rhs;reduce;try simp only[Int.reduceOfNat,Int.reduceNegSucc]⟩:Fx Tryz.f159 [] [] []).v⟩
def x160:XF:=⟨15,[.tmp 6],[0,1,2,6],(⟨_,by conv=>rhs;reduce;try simp only[Int.reduceOfNat,Int.reduceNegSucc]⟩:Fx Tryz.f160 [] [] []).v⟩
def x162:XF:=⟨9,[.tmp 2],[0,2],(⟨_,by conv=>rhs;reduce;try simp only[Int.reduceOfNat,Int.reduceNegSucc]⟩:Fx Tryz.f162 [] [] []).v⟩
def x163:XF:=⟨18,[.tmp 2],[0,1,2],(⟨_,by conv=>rhs;reduce;try simp only[Int.reduceOfNat,Int.reduceNegSucc]⟩:Fx Tryz.f163 [] [] []).v⟩
def x164_0:XC:=(⟨_,by conv=>rhs;reduce;try simp only[Int.reduceOfNat,Int.reduceNegSucc]⟩:Fl Tryz.f164 0 [10,18,27] [] []).v
def x164_0d:List Nat:=[4,5,6,7]
def x164:XF:=⟨81,[.tmp 4],[0,1,4,5,6,7],(fun a=>(⟨_,by conv=>rhs;reduce;try simp only[Int.reduceOfNat,Int.reduceNegSucc]⟩:Fx Tryz.f164 [10] [] [a]).v) x164_0⟩
def x165_0:XC:=(⟨_,by conv=>rhs;reduce;try simp only[Int.reduceOfNat,Int.reduceNegSucc]⟩:Fl Tryz.f165 0 [11] [] []).v
def x165_0d:List Nat:=[6,7,8]
def x165:XF:=⟨28,[.tmp 4,.tmp 5],[0,1,4,5,6,7,8],(fun a=>(⟨_,by conv=>rhs;reduce;try simp only[Int.reduceOfNat,Int.reduceNegSucc]⟩:Fx Tryz.f165 [10,17] [] [a]).v) x165_0⟩
def x166:XF:=⟨9,[.tmp 2],[0,2],(⟨_,by conv=>rhs;reduce;try simp only[Int.reduceOfNat,Int.reduceNegSucc]⟩:Fx Tryz.f166 [] [] []).v⟩
def x167_0:XC:=(⟨_,by conv=>rhs;reduce;try simp only[Int.reduceOfNat,Int.reduceNegSucc]⟩:Fl Tryz.f167 0 [15] [] []).v
def x167_0d:List Nat:=[8,9]
def x167:XF:=⟨29,[.tmp 8],[0,1,2,3,8,9],(fun a=>(⟨_,by conv=>rhs;reduce;try simp only[Int.reduceOfNat,Int.reduceNegSucc]⟩:Fx Tryz.f167 [] [] [a]).v) x167_0⟩
def x171:XF:=⟨15,[.tmp 6],[0,1,2,6],(⟨_,by conv=>rhs;reduce;try simp only[Int.reduceOfNat,Int.reduceNegSucc]⟩:Fx Tryz.f171 [] [] []).v⟩
def x172_0:XC:=(⟨_,by conv=>rhs;reduce;try simp only[Int.reduceOfNat,Int.reduceNegSucc]⟩:Fl Tryz.f172 0 [9] [] []).v
def x172_0d:List Nat:=[3,4]
def x172:XF:=⟨20,[.tmp 2],[0,2,3,4],(fun a=>(⟨_,by conv=>rhs;reduce;try simp only[Int.reduceOfNat,Int.reduceNegSucc]⟩:Fx Tryz.f172 [] [] [a]).v) x172_0⟩
def x173_0:XC:=(⟨_,by conv=>rhs;reduce;try simp only[Int.reduceOfNat,Int.reduceNegSucc]⟩:Fl Tryz.f173 0 [9] [] []).v
def x173_0d:List Nat:=[3,4]
def x173:XF:=⟨20,[.tmp 2],[0,2,3,4],(fun a=>(⟨_,by conv=>rhs;reduce;try simp only[Int.reduceOfNat,Int.reduceNegSucc]⟩:Fx Tryz.f173 [] [] [a]).v) x173_0⟩
def x174_0:XC:=(⟨_,by conv=>rhs;reduce;try simp only[Int.reduceOfNat,Int.reduceNegSucc]⟩:Fl Tryz.f174 0 [15] [] []).v
def x174_0d:List Nat:=[6,7,8]
def x174:XF:=⟨54,[.tmp 6,.tmp 7],[0,1,2,3,6,7,8],(fun a=>(⟨_,by conv=>rhs;reduce;try simp only[Int.reduceOfNat,Int.reduceNegSucc]⟩:Fx Tryz.f174 [10,15] [] [a]).v) x174_0⟩
def x175_0:XC:=(⟨_,by conv=>rhs;reduce;try simp only[Int.reduceOfNat,Int.reduceNegSucc]⟩:Fl Tryz.f175 0 [15] [] []).v
def x175_0d:List Nat:=[4,5]
def x175_1:XC:=(⟨_,by conv=>rhs;reduce;try simp only[Int.reduceOfNat,Int.reduceNegSucc]⟩:Fl Tryz.f175 1 [6,10,17] [] []).v
def x175_1d:List Nat:=[4,6,7]
def x175:XF:=⟨69,[.tmp 4],[0,1,2,4,5,6,7],(fun a b=>(⟨_,by conv=>rhs;reduce;try simp only[Int.reduceOfNat,Int.reduceNegSucc]⟩:Fx Tryz.f175 [10,15] [] [a,b]).v) x175_0 x175_1⟩
def x176_0:XC:=(⟨_,by conv=>rhs;reduce;try simp only[Int.reduceOfNat,Int.reduceNegSucc]⟩:Fl Tryz.f176 0 [10,17] [] []).v
def x176_0d:List Nat:=[8,9,10]
def x176:XF:=⟨30,[.tmp 8],[0,1,2,3,8,9,10],(fun a=>(⟨_,by conv=>rhs;reduce;try simp only[Int.reduceOfNat,Int.reduceNegSucc]⟩:Fx Tryz.f176 [] [] [a]).v) x176_0⟩
def x177_0:XC:=(⟨_,by conv=>rhs;reduce;try simp only[Int.reduceOfNat,Int.reduceNegSucc]⟩:Fl Tryz.f177 0 [10,15] [] []).v
def x177_0d:List Nat:=[7,8]
def x177:XF:=⟨29,[.tmp 6],[0,1,2,6,7,8],(fun a=>(⟨_,by conv=>rhs;reduce;try simp only[Int.reduceOfNat,Int.reduceNegSucc]⟩:Fx Tryz.f177 [] [] [a]).v) x177_0⟩
def x178_0:XC:=(⟨_,by conv=>rhs;reduce;try simp only[Int.reduceOfNat,Int.reduceNegSucc]⟩:Fl Tryz.f178 0 [6,15] [] []).v
def x178_0d:List Nat:=[2,3,4]
def x178_1:XC:=(⟨_,by conv=>rhs;reduce;try simp only[Int.reduceOfNat,Int.reduceNegSucc]⟩:Fl Tryz.f178 1 [15] [] []).v
def x178_1d:List Nat:=[2,3,7]
def x178:XF:=⟨64,[.tmp 2,.tmp 3],[0,1,2,3,4,5,6,7],(fun a b=>(⟨_,by conv=>rhs;reduce;try simp only[Int.reduceOfNat,Int.reduceNegSucc]⟩:Fx Tryz.f178 [10,15,19,24] [] [a,b]).v) x178_0 x178_1⟩
def x179_0:XC:=(⟨_,by conv=>rhs;reduce;try simp only[Int.reduceOfNat,Int.reduceNegSucc]⟩:Fl Tryz.f179 0 [15] [] []).v
def x179_0d:List Nat:=[4,5]
def x179:XF:=⟨24,[.tmp 4],[0,1,2,4,5],(fun a=>(⟨_,by conv=>rhs;reduce;try simp only[Int.reduceOfNat,Int.reduceNegSucc]⟩:Fx Tryz.f179 [7] [] [a]).v) x179_0⟩
def x180_0:XC:=(⟨_,by conv=>rhs;reduce;try simp only[Int.reduceOfNat,Int.reduceNegSucc]⟩:Fl Tryz.f180 0 [6,14,16,17] [] []).v
def x180_0d:List Nat:=[7,8,9]
def x180:XF:=⟨37,[.tmp 6],[0,1,2,3,6,7,8,9],(fun a=>(⟨_,by conv=>rhs;reduce;try simp only[Int.reduceOfNat,Int.reduceNegSucc]⟩:Fx Tryz.f180 [] [] [a]).v) x180_0⟩
def x181_0:XC:=(⟨_,by conv=>rhs;reduce;try simp only[Int.reduceOfNat,Int.reduceNegSucc]⟩:Fl Tryz.f181 0 [6,9] [] []).v
def x181_0d:List Nat:=[3,4]
def x181:XF:=⟨22,[.tmp 2],[0,1,2,3,4],(fun a=>(⟨_,by conv=>rhs;reduce;try simp only[Int.reduceOfNat,Int.reduceNegSucc]⟩:Fx Tryz.f181 [] [] [a]).v) x181_0⟩
def x184_0:XC:=(⟨_,by conv=>rhs;reduce;try simp only[Int.reduceOfNat,Int.reduceNegSucc]⟩:Fl Tryz.f184 0 [] [] []).v
def x184_0d:List Nat:=[13,14,41]
def x184_1:XC:=(Ze [Zg 72 (.bin .lss) [Zc 71,Zc 70] []] (.seq (.cond (Zc 72) .skip (.exit 4)) (.seq (.block 5 (Ze [Zg 73 (.iaddr Z1) [Zc 69,Zc 71] [],Zh 74 Z1 73,Za 18 74] (.icall true [Zh 75 Z12 15,Zh 76 Z13 6,Za 77 18,Zg 78 (.iaddr Z11) [Zc 76,Zc 77] [1,2],Zg 79 (.faddr 1 Z1) [Zc 78] [3,1,2],Zg 80 (.load Z1) [Zc 79] [4,3,1,2],Zh 81 Z13 6,Za 82 18,Zg 83 (.iaddr Z11) [Zc 81,Zc 82] [6,7],Zg 84 (.load Z11) [Zc 83] [8,6,7],Zh 85 Z12 15,Zg 86 .nilck [Zc 85] [10],Zg 87 (.faddr 0 Z9) [Zc 86] [11,10],Zg 88 (.load Z9) [Zc 87] [12,11,10],Za 89 16,Zg 90 (.iaddr Z8) [Zc 88,Zc 89] [13,12,11,10,14],Zg 91 (.faddr 0 Z1) [Zc 90] [15,13,12,11,10,14],Zg 92 (.load Z1) [Zc 91] [16,15,13,12,11,10,14],Zh 93 .bool 9,Zg 94 (.call 221) [Zc 84,Zc 92,Zc 93] [9,8,6,7,17,16,15,13,12,11,10,14,18],Za 95 18] (Zg 96 .callv [.fn 220,Zc 75,Zc 80,Zc 94,Zc 95] [0,5,4,3,1,2,19,9,8,6,7,17,16,15,13,12,11,10,14,18,20]) [] 220 x220.n x220.res x220.kv x220.code))) (.reg false [Zg 97 (.bin .add) [Zc 71,.int .i64 1] [],Za 71 97]))))
def x184_1d:List Nat:=[18,71]
def x184_A:XC:=(.reg false [⟨some 16,.mv,[.t 65],none,[]⟩])
def x184_B:XC:=let i:Ty:=.int .i64;let b:Ty:=.sl i;let a:Ty:=.sl b;let o (d:Nat) (p:XOp) (l:List XA):XO:=⟨some d,p,l,none,[]⟩;(.block 3 (.seq (.reg false [o 66 (.load a) [.t 12],o 67 .mv [.t 16],o 68 (.iaddr b) [.t 66,.t 67],o 69 (.load b) [.t 68],o 70 (.len false) [.t 69],o 71 .mv [.int .i64 0]]) (.clean (.block 4 (.loop x184_1)))))
def x184:XF:=⟨102,[.tmp 10,.tmp 11],[0,1,2,3,4,6,9,10,11,12,13,14,15,16,18,39,40,41,64,69,70,71],(Ze [Zb 6 (.box 22) [Zc 1],Zb 9 (.box 4) [Zc 4],Zb 10 (.nilrow 263 Z8) [],Zb 11 .mv [.int .i64 0]] (.seq (Ze [Za 19 0,Zh 20 Z13 6,Zb 21 (.call 102) [Zc 19,Zc 20],Zb 22 .not [Zc 21],Za 23 22,Zf 24 .mv [Zc 2] 4 23 false,Zf 25 (.bin .lss) [Zc 24,.int .i64 0] 4 23 false,Zb 26 .pick [Zc 23,.bool true,Zc 25],Za 27 26,Zf 28 .mv [Zc 2] 8 27 false,Zf 29 .mv [Zc 0] 8 27 false,Zf 30 (.bin .geq) [Zc 28,Zc 29] 8 27 false,Zb 31 .pick [Zc 27,.bool true,Zc 30],Za 32 31,Zf 33 .mv [Zc 3] 13 32 false,Zf 34 (.call 217) [Zc 33] 13 32 false,Zf 35 .not [Zc 34] 13 32 false,Zb 36 .pick [Zc 32,.bool true,Zc 35]] (.cond (Zc 36) (Ze [Zb 10 (.nilrow 263 Z8) [],Zb 11 .mv [.int .i64 1]] .ret) .skip)) (.clean (Ze [Za 37 0,Zb 38 (.mkarr 31 24) [Zc 37,Zc 37],Zb 12 (.alloc 204 Z14) [],⟨none,.store Z14,[Zc 12,Zc 38],none,[]⟩] (.seq (Ze [Zh 39 Z13 6,Zb 40 (.len false) [Zc 39],Zb 41 .mv [.int .i64 0]] (.block 0 (.top (.loop x184_0)))) (.clean (.seq (.icall false [Za 59 0,Za 60 2,Za 61 3] (Zb 62 .callv [.fn 218,Zc 59,Zc 60,Zc 61,.bool false]) [Zb 15 (.allocz 257 0) [],⟨none,.store Z12,[Zc 15,Zc 62],none,[]⟩] 218 x218.n x218.res x218.kv x218.code) (.seq (Ze [Zh 63 Z12 15,Zb 64 (.mkbnd 219) [Zc 63]] (.block 2 (.rfor (Zc 64) 65 x184_A x184_B 219 62 [0,1,4,5,6,10,11,12] (y219 102 65 [0,1,2,3,4,6,9,10,11,12,13,14,15,16,18,39,40,41,64,69,70,71] x184_A x184_B)))) (.clean (Ze [Zh 98 Z12 15,Zb 99 .nilck [Zc 98],Zb 100 (.faddr 0 Z9) [Zc 99],Zh 101 Z9 100,Za 10 101,Zb 11 .mv [.int .i64 0]] .ret))))))))))⟩
def x185_0:XC:=(⟨_,by conv=>rhs;reduce;try simp only[Int.reduceOfNat,Int.reduceNegSucc]⟩:Fl Tryz.f185 0 [6,9,17] [] []).v
def x185_0d:List Nat:=[2,6,7,8]
def x185:XF:=⟨90,[.tmp 6],[0,1,2,6,7,8],(Ze [Zb 6 (.nilrow 3 Z1) []] (.seq (Ze [Za 9 2,Zb 10 (.bin .lss) [Zc 9,.int .i64 0],Za 11 10,Zf 12 .mv [Zc 2] 2 11 false,Zf 13 .mv [Zc 0] 2 11 false,Zf 14 (.len false) [Zc 13] 2 11 false,Zf 15 (.bin .geq) [Zc 12,Zc 14] 2 11 false,Zb 16 .pick [Zc 11,.bool true,Zc 15],Za 17 16,Zf 18 .mv [Zc 0] 8 17 false,Zf 19 .mv [Zc 2] 8 17 false,Zf 20 (.iaddr Z8) [Zc 18,Zc 19] 8 17 false,Zf 21 (.faddr 0 Z1) [Zc 20] 8 17 false,Zf 22 (.load Z1) [Zc 21] 8 17 false,Zf 23 (.bin .eql) [Zc 22,.int .i64 (-1)] 8 17 false,Zb 24 .pick [Zc 17,.bool true,Zc 23]] (.cond (Zc 24) (Ze [Zb 6 (.nilrow 3 Z1) []] .ret) .skip)) (.clean (Ze [Zb 7 (.nilrow 3 Z1) []] (.seq (.block 0 (.loop x185_0)) (.clean (.seq (.icall false [Za 87 7] (Zb 88 .callv [.fn 222,Zc 87]) [] 222 x222.n x222.res x222.kv x222.code) (Ze [Za 89 7,Za 6 89] .ret))))))))⟩
def x187:XF:=⟨9,[.tmp 2],[0,2],(⟨_,by conv=>rhs;reduce;try simp only[Int.reduceOfNat,Int.reduceNegSucc]⟩:Fx Tryz.f187 [] [] []).v⟩
def x190:XF:=⟨10,[.cell 2 (.st (.cons (.int .i64) (.cons (.int .i64) (.int .i64))))],[0,1,2],(⟨_,by conv=>rhs;reduce;try simp only[Int.reduceOfNat,Int.reduceNegSucc]⟩:Fx Tryz.f190 [] [] []).v⟩
def x191:XF:=⟨9,[.tmp 4],[0,1,3,4],(⟨_,by conv=>rhs;reduce;try simp only[Int.reduceOfNat,Int.reduceNegSucc]⟩:Fx Tryz.f191 [] [] []).v⟩
def x194_0:XC:=(.seq (.nxt 10 9 [Zb 11 (.extract 0) [Zc 10]]) (.seq (.cond (Zc 11) .skip (.exit 0)) (.block 1 (Ze [Zb 12 .entry [Zc 9],Zb 13 (.extract 0) [Zc 12],Za 6 13] (Ze [Za 14 1,Za 15 6,Zb 16 (.iaddr Z6) [Zc 14,Zc 15],Zh 17 Z6 16,Zb 18 (.call 190) [Zc 17],Zb 7 (.alloc 192 Z3) [],Zi Z3 7 18] (.clean (Ze [Zb 19 (.faddr 0 Z1) [Zc 5],Zh 20 Z1 19,Zb 21 (.faddr 0 Z1) [Zc 7],Zh 22 Z1 21,Zb 23 (.bin .add) [Zc 20,Zc 22],Zb 24 (.faddr 0 Z1) [Zc 5],Zi Z1 24 23] (.clean (Ze [Zb 25 (.faddr 1 Z1) [Zc 5],Zh 26 Z1 25,Zb 27 (.faddr 1 Z1) [Zc 7],Zh 28 Z1 27,Zb 29 (.bin .add) [Zc 26,Zc 28],Zb 30 (.faddr 1 Z1) [Zc 5],Zi Z1 30 29] (.clean (.reg false [Zb 31 (.faddr 2 Z1) [Zc 5],Zh 32 Z1 31,Zb 33 (.faddr 2 Z1) [Zc 7],Zh 34 Z1 33,Zb 35 (.bin .add) [Zc 32,Zc 34],Zb 36 (.faddr 2 Z1) [Zc 5],Zi Z1 36 35])))))))))))
def x194_0d:List Nat:=[6,7]
def x194:XF:=⟨38,[.cell 4 (.st (.cons (.int .i64) (.cons (.int .i64) (.int .i64))))],[0,1,4,5,6,7,9],(fun a=>(⟨_,by conv=>rhs;reduce;try simp only[Int.reduceOfNat,Int.reduceNegSucc]⟩:Fx Tryz.f194 [] [] [a]).v) x194_0⟩
def x195:XF:=⟨9,[.tmp 2],[0,2],(⟨_,by conv=>rhs;reduce;try simp only[Int.reduceOfNat,Int.reduceNegSucc]⟩:Fx Tryz.f195 [] [] []).v⟩
def x198_0:XC:=(⟨_,by conv=>rhs;reduce;try simp only[Int.reduceOfNat,Int.reduceNegSucc]⟩:Fl Tryz.f198 0 [] [] []).v
def x198_0d:List Nat:=[4,5,8]
def x198:XF:=⟨19,[.tmp 4],[0,1,4,5,7,8],(fun a=>(⟨_,by conv=>rhs;reduce;try simp only[Int.reduceOfNat,Int.reduceNegSucc]⟩:Fx Tryz.f198 [] [] [a]).v) x198_0⟩
def x199_0:XC:=(⟨_,by conv=>rhs;reduce;try simp only[Int.reduceOfNat,Int.reduceNegSucc]⟩:Fl Tryz.f199 0 [15] [] []).v
def x199_0d:List Nat:=[6,7]
def x199:XF:=⟨31,[.tmp 6],[0,1,2,6,7],(fun a=>(⟨_,by conv=>rhs;reduce;try simp only[Int.reduceOfNat,Int.reduceNegSucc]⟩:Fx Tryz.f199 [] [] [a]).v) x199_0⟩
def x200_0:XC:=(⟨_,by conv=>rhs;reduce;try simp only[Int.reduceOfNat,Int.reduceNegSucc]⟩:Fl Tryz.f200 0 [13,15,17] [] []).v
def x200_0d:List Nat:=[8]
def x200:XF:=⟨47,[.cell 6 (.st (.cons (.int .i64) (.cons (.int .i64) (.int .i64))))],[0,1,2,6,7,8],(fun a=>(⟨_,by conv=>rhs;reduce;try simp only[Int.reduceOfNat,Int.reduceNegSucc]⟩:Fx Tryz.f200 [] [] [a]).v) x200_0⟩
def x201:XF:=⟨21,[.tmp 6],[0,1,2,6,7],(⟨_,by conv=>rhs;reduce;try simp only[Int.reduceOfNat,Int.reduceNegSucc]⟩:Fx Tryz.f201 [] [] []).v⟩
def x202_1:XC:=(⟨_,by conv=>rhs;reduce;try simp only[Int.reduceOfNat,Int.reduceNegSucc]⟩:Fl Tryz.f202 1 [13] [] []).v
def x202_1d:List Nat:=[14,15]
def x202_2:XC:=(⟨_,by conv=>rhs;reduce;try simp only[Int.reduceOfNat,Int.reduceNegSucc]⟩:Fl Tryz.f202 2 [10,16,18,23] [] []).v
def x202_2d:List Nat:=[16,17,18]
def x202_0:XC:=(fun a b=>(⟨_,by conv=>rhs;reduce;try simp only[Int.reduceOfNat,Int.reduceNegSucc]⟩:Fl Tryz.f202 0 [8,16] [] [a,b]).v) x202_1 x202_2
def x202_0d:List Nat:=[10,11,14,15,16,17,18]
def x202:XF:=⟨167,[.tmp 10,.tmp 11],[0,1,2,3,4,10,11,12,13,14,15,16,17,18],(fun a=>(⟨_,by conv=>rhs;reduce;try simp only[Int.reduceOfNat,Int.reduceNegSucc]⟩:Fx Tryz.f202 [10] [] [a]).v) x202_0⟩
def x203_0:XC:=(⟨_,by conv=>rhs;reduce;try simp only[Int.reduceOfNat,Int.reduceNegSucc]⟩:Fl Tryz.f203 0 [9,19,27,35,43,45] [] []).v
def x203_0d:List Nat:=[2,6,7,8]
def x203:XF:=⟨76,[.tmp 6],[0,1,2,6,7,8],(fun a=>(⟨_,by conv=>rhs;reduce;try simp only[Int.reduceOfNat,Int.reduceNegSucc]⟩:Fx Tryz.f203 [] [] [a]).v) x203_0⟩
def x205_0:XC:=(⟨_,by conv=>rhs;reduce;try simp only[Int.reduceOfNat,Int.reduceNegSucc]⟩:Fl Tryz.f205 0 [9] [] []).v
def x205_0d:List Nat:=[7,8]
def x205:XF:=⟨24,[.tmp 6],[0,1,2,3,6,7,8],(fun a=>(⟨_,by conv=>rhs;reduce;try simp only[Int.reduceOfNat,Int.reduceNegSucc]⟩:Fx Tryz.f205 [] [] [a]).v) x205_0⟩
def x206_2:XC:=(⟨_,by conv=>rhs;reduce;try simp only[Int.reduceOfNat,Int.reduceNegSucc]⟩:Fl Tryz.f206 2 [6,9] [] []).v
def x206_2d:List Nat:=[8]
def x206_1:XC:=(fun a=>(⟨_,by conv=>rhs;reduce;try simp only[Int.reduceOfNat,Int.reduceNegSucc]⟩:Fl Tryz.f206 1 [6,10,14] [] [a]).v) x206_2
def x206_1d:List Nat:=[6,7,8]
def x206_0:XC:=(fun a=>(⟨_,by conv=>rhs;reduce;try simp only[Int.reduceOfNat,Int.reduceNegSucc]⟩:Fl Tryz.f206 0 [10,14] [] [a]).v) x206_1
def x206_0d:List Nat:=[5,6,7,8]
def x206:XF:=⟨77,[.tmp 2],[0,1,2,3,4,5,6,7,8],(fun a=>(⟨_,by conv=>rhs;reduce;try simp only[Int.reduceOfNat,Int.reduceNegSucc]⟩:Fx Tryz.f206 [] [] [a]).v) x206_0⟩
def x217:XF:=⟨9,[.tmp 2],[0,2],(⟨_,by conv=>rhs;reduce;try simp only[Int.reduceOfNat,Int.reduceNegSucc]⟩:Fx Tryz.f217 [] [] []).v⟩
def x224_0:XC:=(⟨_,by conv=>rhs;reduce;try simp only[Int.reduceOfNat,Int.reduceNegSucc]⟩:Fl Tryz.f224 0 [] [] []).v
def x224_0d:List Nat:=[4,5,8]
def x224:XF:=⟨19,[.tmp 4],[0,1,3,4,5,7,8],(fun a=>(⟨_,by conv=>rhs;reduce;try simp only[Int.reduceOfNat,Int.reduceNegSucc]⟩:Fx Tryz.f224 [] [] [a]).v) x224_0⟩
def x225:XF:=⟨9,[.tmp 2],[0,2],(⟨_,by conv=>rhs;reduce;try simp only[Int.reduceOfNat,Int.reduceNegSucc]⟩:Fx Tryz.f225 [] [] []).v⟩
def x226_0:XC:=(⟨_,by conv=>rhs;reduce;try simp only[Int.reduceOfNat,Int.reduceNegSucc]⟩:Fl Tryz.f226 0 [] [] []).v
def x226_0d:List Nat:=[3,4]
def x226:XF:=⟨15,[.tmp 2],[0,2,3,4],(fun a=>(⟨_,by conv=>rhs;reduce;try simp only[Int.reduceOfNat,Int.reduceNegSucc]⟩:Fx Tryz.f226 [] [] [a]).v) x226_0⟩
def x233_0:XC:=(⟨_,by conv=>rhs;reduce;try simp only[Int.reduceOfNat,Int.reduceNegSucc]⟩:Fl Tryz.f233 0 [] [] []).v
def x233_0d:List Nat:=[8]
def x233:XF:=⟨48,[.tmp 4],[0,1,4,5,6,7,8],(Ze [Zb 4 (.nilrow 263 Z8) []] (.seq (Ze [Za 9 1,Zb 10 (.bin .lss) [Zc 9,.int .i64 0]] (.cond (Zc 10) .dead  .skip)) (Ze [Za 13 0,Zb 14 (.len false) [Zc 13],Zb 15 (.conv .u64) [Zc 14],Za 16 1,Zb 17 (.conv .u64) [Zc 16],Zb 18 (.call 240) [Zc 15,Zc 17],Za 12 18,Zb 19 (.extract 0) [Zc 12],Zb 20 (.extract 1) [Zc 12],Za 5 19,Za 6 20] (.clean (.seq (Ze [Za 21 5,Zb 22 (.bin .gtr) [Zc 21,.int .u64 0],Za 23 22,⟨some 24,.mv,[Zc 6],some (2,23,false),[]⟩,⟨some 25,.bin .gtr,[Zc 24,.int .u64 9223372036854775807],some (2,23,false),[]⟩,Zb 26 .pick [Zc 23,.bool true,Zc 25]] (.cond (Zc 26) .dead  .skip)) (.clean (Ze [Za 28 6,Zb 29 (.conv .i64) [Zc 28],Zb 30 (.mkslice 263 Z8 16) [Zc 29,Zc 29],Za 7 30] (Ze [Za 31 7,Za 32 0,Zb 33 (.copy 263 Z8) [Zc 31,Zc 32],Za 8 33] (.seq (.block 0 (.loop x233_0)) (Ze [Za 47 7,Za 4 47] .ret))))))))))⟩
def x234:XF:=⟨19,[.tmp 6],[0,1,2,6],(⟨_,by conv=>rhs;reduce;try simp only[Int.reduceOfNat,Int.reduceNegSucc]⟩:Fx Tryz.f234 [18] [] []).v⟩
def x240:XF:=⟨30,[.tmp 4,.tmp 5],[0,1,4,5,6,7,8,9],(⟨_,by conv=>rhs;reduce;try simp only[Int.reduceOfNat,Int.reduceNegSucc]⟩:Fx Tryz.f240 [6,10,12] [] []).v⟩
def x244:XF:=⟨51,[.tmp 4,.tmp 5],[0,1,4,5,6,7,8,9,10,11,12,13],(⟨_,by conv=>rhs;reduce;try simp only[Int.reduceOfNat,Int.reduceNegSucc]⟩:Fx Tryz.f244 [14,20,22] [] []).v⟩
end T
end Go.Proofs.YtpocfbfmjippnaaGreat
end
section
namespace Go.Proofs.YtpocfbfmjippnaaGreat
open Go.RowKit
theorem getD_mem {α:Type} {d:α} {l:List α} {k:Nat} (h:k<l.length):l.getD k d∈l:=by
 rw[List.getD_eq_getElem?_getD,List.getElem?_eq_getElem h];exact List.getElem_mem h
namespace T
abbrev DArc:=Int×Int×List Int×List Int
@[reducible] def toArc (x:DArc):Arc:=⟨x.1,x.2.1,x.2.2.1,x.2.2.2⟩
section
variable {P:Program} {w:World} {M:Nat→Prop}
theorem ints_is {d:List Int} {cs:List Value} (q:Rd P (.sl (.int .i64)) w M d cs):∃A n c,cs=[.slice A n c]∧IsInts w A n d:=by
 obtain ⟨A,n,c,e,h1,h2,h3,h4⟩:=q;refine ⟨A,n,c,e,h1,by simp only[maxLen] at h3;omega,?_⟩;rcases h4 with h4|⟨b,off,cc,rfl,hb,_,hc,hr⟩
 ·exact .inl h4
 ·refine .inr ⟨b,off,rfl,hb,fun i hi=>?_⟩;have hi':i<d.length:=by omega
  obtain ⟨c1,c0,c2,rfl,r1,r2,_⟩:=hr.at hi';have hl:c1.length=i:=by rw[RowsBy.len (n:=1) (fun _ _ q=>q.len) r1,List.length_take,Nat.min_eq_left (by omega)];omega
  obtain rfl:=r2.1;have:=hc.left.right 0 _ rfl;rw[hl] at this;rw[List.getD_eq_getElem?_getD,List.getElem?_eq_getElem hi'];simpa using this
theorem arc_is {x:DArc} {v:Value} (q:RdV P (.st (.cons (.int .i64) (.cons (.int .i64) (.cons (.sl (.int .i64)) (.sl (.int .i64)))))) w M x v):IsArc w v (toArc x)∧(IntKind.i64.min≤x.1∧x.1≤IntKind.i64.max)∧IntKind.i64.min≤x.2.1∧x.2.1≤IntKind.i64.max:=by
 obtain ⟨hs,c1,c2,e,⟨rfl,r1⟩,c3,c4,rfl,⟨rfl,r2⟩,c5,c6,rfl,q3,q4⟩:=q;obtain ⟨cs,rfl⟩:=hs.2 rfl;obtain ⟨A,n,c,rfl,h3⟩:=ints_is q3;obtain ⟨A',n',c',rfl,h4⟩:=ints_is q4;refine ⟨⟨A,n,c,A',n',c',?_,h3,h4⟩,r1,r2⟩;congr 1;apply Array.ext';simpa [Value.cells,toArc] using e
theorem small_i64 {x:Int} (h:-9223372036854775808≤x∧x≤9223372036854775807):IntKind.i64.min≤x∧x≤IntKind.i64.max:=h
end
def entClockRight:Ent:=⟨154,.cons Z11 .nil,.bool,false,none,fun _=>True,fun x=>(toArc x.1).rightB⟩
theorem conClockRight:Con Tryz.prog entClockRight:=by
 refine ⟨by kernel_rfl,?_⟩;rintro ⟨x,_⟩ _ w M vs hM ⟨v,_,rfl,q,rfl⟩;refine (Clock.right_any (arc_is q).1).mono ?_;rintro e w' ⟨rfl,hb⟩;exact ⟨_,rfl,hb,bool_avr (hp:=fun _=>none) (ψ:=fun _=>undef)⟩
def entRefRight10:Ent:=⟨161,.cons Z11 .nil,.bool,false,none,fun _=>True,fun x=>(toArc x.1).rightB⟩
theorem conRefRight10:Con Tryz.prog entRefRight10:=by
 refine ⟨by kernel_rfl,?_⟩;rintro ⟨x,_⟩ _ w M vs hM ⟨v,_,rfl,q,rfl⟩;refine (Ref10.right_any (arc_is q).1).mono ?_;rintro e w' ⟨rfl,hb⟩;exact ⟨_,rfl,hb,bool_avr (hp:=fun _=>none) (ψ:=fun _=>undef)⟩
theorem passF_range (a:Arc) (hi:Bool) (t:Int):IntKind.i64.min≤a.passF hi t∧a.passF hi t≤IntKind.i64.max:=by
 unfold Arc.passF;split
 ·rename_i h;obtain ⟨⟨h1,h2⟩,h3⟩:=Arc.validB_true h;have:=a.pass_bd h3 hi h2;have:=a.tk_bd h3 hi t;exact small_i64 (by omega)
 ·exact small_i64 (by omega)
def entPass:Ent:=⟨221,.cons Z11 (.cons Z1 (.cons .bool .nil)),(.int .i64),false,none,fun _=>True,fun x=>(toArc x.1).passF x.2.2.1 x.2.1⟩
theorem conPass:Con Tryz.prog entPass:=by
 refine ⟨by kernel_rfl,?_⟩;rintro ⟨x,t,hi,_⟩ _ w M vs hM ⟨v,_,rfl,q,v1,_,rfl,q1,v2,_,rfl,q2,rfl⟩;obtain ⟨rfl,_⟩:=avr_int (hp:=fun _=>none) (ψ:=fun _=>undef) q1;obtain rfl:=avr_bool (hp:=fun _=>none) (ψ:=fun _=>undef) q2;refine (Clock.pass_any (arc_is q).1 t hi).mono ?_;rintro e w' ⟨rfl,hb⟩;exact ⟨_,rfl,hb,int_avr (hp:=fun _=>none) (ψ:=fun _=>undef) (passF_range _ _ _)⟩
def entRPass:Ent:=⟨227,.cons Z11 (.cons Z1 (.cons .bool .nil)),(.int .i64),false,none,fun _=>True,fun x=>(toArc x.1).passF x.2.2.1 x.2.1⟩
theorem conRPass:Con Tryz.prog entRPass:=by
 refine ⟨by kernel_rfl,?_⟩;rintro ⟨x,t,hi,_⟩ _ w M vs hM ⟨v,_,rfl,q,v1,_,rfl,q1,v2,_,rfl,q2,rfl⟩;obtain ⟨rfl,_⟩:=avr_int (hp:=fun _=>none) (ψ:=fun _=>undef) q1;obtain rfl:=avr_bool (hp:=fun _=>none) (ψ:=fun _=>undef) q2;refine (Ref10.pass_any (arc_is q).1 t hi).mono ?_;rintro e w' ⟨rfl,hb⟩;exact ⟨_,rfl,hb,int_avr (hp:=fun _=>none) (ψ:=fun _=>undef) (passF_range _ _ _)⟩
end T
end Go.Proofs.YtpocfbfmjippnaaGreat
end
section
namespace Go.Proofs.YtpocfbfmjippnaaGreat
open Go.RowKit
namespace T
section
variable {P:Program} {B:Nat} {M M':Nat→Prop} {hp hp':Hp} {ψ ψ':Nat→Value} {w:World} {n:Nat} {st:AS} {w0:Fix} {a:Act}
theorem OBR.move {Mw Mw':Nat→Prop} {fr l:Nat} {ob:OB} (h:OBR P B hp ψ w Mw l ob) (hl:Later w Mw w Mw') (hψ:∀l,l≠fr→ψ' l=ψ l) (hk:∀l ob',l≠fr→hp' l=some ob'→∃ob,hp l=some ob∧ob.like ob') (hlf:l≠fr) (hf:fr∉ob.locs):OBR P B hp' ψ' w Mw' l ob:=by
 cases ob with
 |box T cs=>
  obtain ⟨b,cells,e,hB,hg,q,q1⟩:=h;exact ⟨b,cells,by rw[hψ l hlf];exact e,hB,hg,AVRs.later hl hψ hk hf q,q1⟩
 |row e ty xs=>
  obtain ⟨cells,h1,h2⟩:=h;exact ⟨cells,by rw[hψ l hlf];exact h1,h2.mono fun x _ c q=>q.later hl⟩
 |mp k ty xs=>
  obtain ⟨b,es,clock,e,q⟩:=h;exact ⟨b,es,clock,by rw[hψ l hlf];exact e,q⟩
 |lp bs r=>
  obtain ⟨b,e,q⟩:=h;exact ⟨b,by rw[hψ l hlf];exact e,q⟩
 |it k ty left cur=>
  obtain ⟨b,e,hB,q⟩:=h;exact ⟨b,by rw[hψ l hlf];exact e,hB,q.later hl rfl⟩
theorem Sim.move (s:Sim P B M n st ψ w0 a w) {h2:List (Nat×OB)} {nx' fr:Nat} (hfr:fr=st.nx) (hnx:st.nx≤nx') (hsub:∀b,Mu M' (look h2) ψ' b→Mu M (look st.hp) ψ b) (hψ:∀l,l≠fr→ψ' l=ψ l) (hk:∀l ob',l≠fr→look h2 l=some ob'→look st.hp l=some ob')
  (hfo:∀ob,look h2 fr=some ob→fr<nx'∧(∀k∈ob.locs,k<nx')∧OBR P B (look h2) ψ' w (Mu M' (look h2) ψ') fr ob) (hdj:∀l ob b,l≠fr→look st.hp l=some ob→look h2 l=some ob→blk (ψ l)=some b→∀ob',look h2 fr=some ob'→blk (ψ' fr)≠some b)
  (hmb:∀b,M' b→b<w.heap.size) (hmd:∀l ob b,look h2 l=some ob→blk (ψ' l)=some b→¬M' b):Sim P B M' n ⟨st.tm,h2,nx',st.kv⟩ ψ' ⟨w,w0.vs,w0.dm,w0.ms⟩ a w:=by
 subst hfr
 have hbd:∀b,Mu M' (look h2) ψ' b→b<w.heap.size:=fun b q=>s.hok.mu b (hsub b q)
 have hl:Later w (Mu M (look st.hp) ψ) w (Mu M' (look h2) ψ'):=⟨Nat.le_refl _,fun _ _ _=>rfl,fun b _ q=>hsub b q,hbd⟩
 have hk':∀l ob',l≠st.nx→look h2 l=some ob'→∃ob,look st.hp l=some ob∧ob.like ob':=fun l ob' h1 h2=>⟨ob',hk l ob' h1 h2,like_refl _⟩
 have hfresh:∀l ob,look st.hp l=some ob→st.nx∉ob.locs:=fun l ob q hm=>Nat.lt_irrefl _ ((s.hlt l ob q).2 _ hm)
 have av:∀{av:AV} {v:Value},st.nx∉av.locs→AVR P (look st.hp) ψ w (Mu M (look st.hp) ψ) av v→AVR P (look h2) ψ' w (Mu M' (look h2) ψ') av v:=fun hf q=>AVR.later hl hψ hk' hf q
 refine ⟨⟨fun l ob q=>?_,fun l l' ob ob' b q1 q2 q3 q4=>?_,hmb,hmd,s.hok.bz⟩,fun t=>av (fun hm=>Nat.lt_irrefl _ (s.lt t _ hm)) (s.av t),s.size,⟨s.defers.1,s.defers.2.map fun u q=>av (by simp[AV.locs]) q⟩,fun t l q=>Nat.lt_of_lt_of_le (s.lt t l q) hnx,fun l ob q=>?_,Stay.refl⟩
 ·by_cases e:l=st.nx
  ·subst e;exact (hfo ob q).2.2
  ·have q0:=hk l ob e q
   exact (s.hok.ob l ob q0).move hl hψ hk' e (hfresh l ob q0)
 ·by_cases e:l=st.nx
  ·by_cases e':l'=st.nx
   ·rw[e,e']
   ·exfalso
    subst e
    rw[hψ l' e'] at q4
    exact hdj l' ob' b e' (hk l' ob' e' q2) q2 q4 ob q1 q3
  ·by_cases e':l'=st.nx
   ·exfalso
    subst e'
    rw[hψ l e] at q3
    exact hdj l ob b e (hk l ob e q1) q1 q3 ob' q2 q4
   ·rw[hψ l e] at q3
    rw[hψ l' e'] at q4
    exact s.hok.dj l l' ob ob' b (hk l ob e q1) (hk l' ob' e' q2) q3 q4
 ·by_cases e:l=st.nx
  ·subst e;exact ⟨(hfo ob q).1,(hfo ob q).2.1⟩
  ·have:=s.hlt l ob (hk l ob e q)
   exact ⟨Nat.lt_of_lt_of_le this.1 hnx,fun k hk=>Nat.lt_of_lt_of_le (this.2 k hk) hnx⟩
theorem look_cons {l:Nat} {ob:OB} {h:List (Nat×OB)}:look ((l,ob)::h)=putHp (look h) l ob:=by
 funext x;simp only[look,putHp]
theorem Sim.adopt (s:Sim P B M n st ψ w0 a w) {ob:OB} {u:Value} (hu:∀b,blk u=some b→M b∧B≤b) (hlocs:∀k∈ob.locs,k<st.nx+1)
  (hob:OBR P B (putHp (look st.hp) st.nx ob) (upd' ψ st.nx u) w (Mu M (look st.hp) ψ) st.nx ob):Sim P B (fun x=>M x∧blk u≠some x) n ⟨st.tm,(st.nx,ob)::st.hp,st.nx+1,st.kv⟩ (upd' ψ st.nx u) ⟨w,w0.vs,w0.dm,w0.ms⟩ a w:=by
 have hnew:look st.hp st.nx=none:=(sim_ctx s).new
 have hmu:Mu (fun x=>M x∧blk u≠some x) (look ((st.nx,ob)::st.hp)) (upd' ψ st.nx u)=Mu M (look st.hp) ψ:=by
  funext x;apply propext;rw[look_cons];constructor
  ·rintro (q|⟨l,ob',h1,h2⟩)
   ·exact .inl q.1
   ·by_cases e:l=st.nx
    ·subst e;rw[upd'_same] at h2;exact .inl (hu x h2).1
    ·rw[putHp_other _ _ e] at h1;rw[upd'_other _ _ e] at h2;exact .inr ⟨l,ob',h1,h2⟩
  ·rintro (q|⟨l,ob',h1,h2⟩)
   ·by_cases c:blk u=some x
    ·exact .inr ⟨st.nx,ob,by simp,by rw[upd'_same];exact c⟩
    ·exact .inl ⟨q,c⟩
   ·have e:l≠st.nx:=fun e=>by rw[e,hnew] at h1;cases h1
    exact .inr ⟨l,ob',by rw[putHp_other _ _ e];exact h1,by rw[upd'_other _ _ e];exact h2⟩
 refine s.move rfl (Nat.le_succ _) (fun b q=>by rw[hmu] at q;exact q) (fun l e=>upd'_other _ _ e) (fun l ob' e q=>by rw[look_cons,putHp_other _ _ e] at q;exact q) (fun ob' q=>?_) (fun l ob' b e h1 _ h3 ob2 _ h4=>?_) (fun b q=>s.hok.mb b q.1) (fun l ob' b q1 q2 q3=>?_)
 ·rw[look_cons,putHp_same] at q
  injection q with q;subst q
  refine ⟨Nat.lt_succ_self _,hlocs,?_⟩
  rw[hmu,look_cons];exact hob
 ·rw[upd'_same] at h4
  exact s.hok.md l ob' b h1 h3 (hu b h4).1
 ·by_cases e:l=st.nx
  ·subst e;rw[upd'_same] at q2;exact q3.2 q2
  ·rw[look_cons,putHp_other _ _ e] at q1
   rw[upd'_other _ _ e] at q2
   exact s.hok.md l ob' b q1 q2 q3.1
theorem Sim.release (s:Sim P B M n st ψ w0 a w) {l:Nat} {ob:OB} (hl:look st.hp l=some ob):Sim P B (fun x=>M x∨blk (ψ l)=some x) n ⟨st.tm,killL st.hp [l],st.nx,st.kv⟩ ψ ⟨w,w0.vs,w0.dm,w0.ms⟩ a w:=by
 have hnew:look st.hp st.nx=none:=(sim_ctx s).new;have hin:∀l' ob',look (killL st.hp [l]) l'=some ob'→l'≠l∧look st.hp l'=some ob':=fun l' ob' q=>by
  rw[look_kill] at q;obtain ⟨h1,h2⟩:=kill_some q;exact ⟨fun e=>h1 (by simp[e]),h2⟩
 refine s.move rfl (Nat.le_refl _) (fun b q=>?_) (fun _ _=>rfl) (fun l' ob' _ q=>(hin l' ob' q).2) (fun ob' q=>?_) (fun l' ob' b _ _ _ _ ob2 q _=>?_) (fun b q=>?_) (fun l' ob' b q1 q2 q3=>?_)
 ·rcases q with (q|q)|⟨l',ob',h1,h2⟩
  ·exact .inl q
  ·exact .inr ⟨l,ob,hl,q⟩
  ·exact .inr ⟨l',ob',(hin l' ob' h1).2,h2⟩
 ·rw[(hin _ _ q).2] at hnew;cases hnew
 ·rw[(hin _ _ q).2] at hnew;cases hnew
 ·rcases q with q|q
  ·exact s.hok.mb b q
  ·exact ((s.hok.ob l ob hl).bk q).2
 ·obtain ⟨h1,h2⟩:=hin l' ob' q1;rcases q3 with q3|q3
  ·exact s.hok.md l' ob' b h2 q2 q3
  ·exact h1 (s.hok.dj l' l ob' ob b h2 hl q2 q3)
theorem Sim.fewer (s:Sim P B M n st ψ w0 a w) (h:∀b,M' b→M b):Sim P B M' n st ψ ⟨w,w0.vs,w0.dm,w0.ms⟩ a w:=by
 have hnew:look st.hp st.nx=none:=(sim_ctx s).new;exact s.move (h2:=st.hp) (nx':=st.nx) rfl (Nat.le_refl _) (fun b q=>by
  rcases q with q|q
  ·exact .inl (h b q)
  ·exact .inr q) (fun _ _=>rfl) (fun _ _ _ q=>q) (fun ob q=>by rw[hnew] at q;cases q) (fun _ _ _ _ _ _ _ ob q=>by rw[hnew] at q;cases q) (fun b q=>s.hok.mb b (h b q)) (fun l ob b q1 q2 q3=>s.hok.md l ob b q1 q2 (h b q3))
theorem Sim.base {w1:World} (s:Sim P B M n st ψ ⟨w1,w0.vs,w0.dm,w0.ms⟩ a w) (h:Stay B M w0.w w1):Sim P B M n st ψ w0 a w:=⟨s.hok,s.av,s.size,s.defers,s.lt,s.hlt,h.trans s.bel⟩
theorem Sim.slot (s:Sim P B M n st ψ w0 a w) {t:Nat} {av:AV} (h:AVR P (look st.hp) ψ w (Mu M (look st.hp) ψ) av (sval w0 n a t)) (hl:∀l∈av.locs,l<st.nx):Sim P B M n ⟨(t,av)::st.tm,st.hp,st.nx,st.kv⟩ ψ w0 a w:=by
 refine ⟨s.hok,fun t'=>?_,s.size,s.defers,fun t' l q=>?_,s.hlt,s.bel⟩
 ·show AVR P _ ψ w _ (if t'=t then av else tmG st.tm t') _;split
  ·rename_i e;subst e;exact h
  ·exact s.av t'
 ·have q':l∈(if t'=t then av else tmG st.tm t').locs:=q;split at q'
  ·exact hl l q'
  ·exact s.lt t' l q'
theorem Sim.only (s:Sim P B M n st ψ w0 a w) (ks:List Nat):Sim P B M n ⟨ks.map fun k=>(k,tmG st.tm k),st.hp,st.nx,st.kv⟩ ψ w0 a w:=by
 refine ⟨s.hok,fun t=>?_,s.size,s.defers,fun t l q=>?_,s.hlt,s.bel⟩
 ·show AVR P _ ψ w _ (tmG (ks.map fun k=>(k,tmG st.tm k)) t) _;rw[tmG_map (fun k=>tmG st.tm k)];split
  ·exact s.av t
  ·exact trivial
 ·have q':l∈(tmG (ks.map fun k=>(k,tmG st.tm k)) t).locs:=q;rw[tmG_map (fun k=>tmG st.tm k)] at q';split at q'
  ·exact s.lt t l q'
  ·cases q'
theorem XW_top {P:Program} {C:List Ent} {n:Nat} {c:XC} {Q:XQ} {st:AS} (h:XW P C n c Q st):XW P C n (.top c) Q st:=by
 intro code hc hC B M w0 ψ a w s ro hR;exact h code (by unfold codeChk at hc;exact hc) hC B M w0 ψ a w s ro hR
theorem AVRs.put {P:Program} {hp:Hp} {ψ:Nat→Value} {w:World} {M:Nat→Prop} {av:AV} {v:Value}:∀{avs:List AV} {vs:List Value} {u:Nat},AVRs P hp ψ w M avs vs→vs[u]?=some v→AVR P hp ψ w M av v→AVRs P hp ψ w M (avs.set u av) vs
 |[],_,_,h,_,_=>h
 |x::r,_,0,⟨v',vs,e,h1,h2⟩,hv,h=>by
  subst e;simp only[List.getElem?_cons_zero,Option.some.injEq] at hv;subst hv;exact ⟨_,vs,rfl,h,h2⟩
 |x::r,_,u+1,⟨v',vs,e,h1,h2⟩,hv,h=>by
  subst e;simp only[List.getElem?_cons_succ] at hv;exact ⟨v',vs,rfl,h1,AVRs.put h2 hv h⟩
theorem XW_frz {P:Program} {C:List Ent} {n:Nat} {c:XC} {Q:XQ} {st:AS} (z l:Nat) {e:TypeId} {t:Ty} {xs:List t.den} (h1:tmG st.tm z= .own l) (h2:look st.hp l=some (.row e t xs))
  (h:XW P C n c Q ⟨(z,.val (.sl t) xs)::st.tm,killL st.hp [l],st.nx,st.kv⟩):XW P C n c Q st:=by
 intro code hc hC B M w0 ψ a w s ro hR
 have s3:Sim P B M n ⟨st.tm,killL st.hp [l],st.nx,st.kv⟩ ψ w0 a w:=Sim.base (w1:=w) ((s.release h2).fewer (M':=M) (fun b h=>.inl h)) s.bel
 refine h code hc hC B M w0 ψ a w (s3.slot (t:=z) (av:=.val (.sl t) xs) ?_ (fun l q=>absurd q (by simp[AV.locs]))) ro hR
 have hv:=s.av z
 rw[h1] at hv
 have e1:sval w0 n a z=ψ l:=hv _ h2
 rw[e1]
 show RdV P (.sl t) w (Mu M (look (killL st.hp [l])) ψ) xs (ψ l)
 rw[look_kill]
 exact rd_own s.hok h2 (by simp)
end
section
variable {P:Program} {B:Nat} {n:Nat} {C:List Ent}
structure RowsAt (B:Nat) (M M':Nat→Prop) (w:World) (T1 T0 et:TypeId) (n0 b1 b2 c:Nat) (vs:List Value) (D:List (List Int)):Prop where
 h1:w.heap[b1]?=some (.cells #[.slice (some ⟨b2,0,none⟩) n0 c] T1 (0,0))
 h2:w.heap[b2]?=some (.cells vs.toArray T0 (0,0))
 len:vs.length=n0
 lenD:D.length=n0
 cap:n0≤c∧c≤maxLen
 o1:B≤b1
 o2:B≤b2
 ne:b1≠b2
 m:∀b,M' b↔M b∨b=b1∨b=b2∨∃v∈vs,blk v=some b
 m1:¬M b1
 m2:¬M b2
 rm:∀v∈vs,∀b,blk v=some b→¬M b∧b≠b1∧b≠b2
 dj:∀(u u':Nat) (v v':Value) (b:Nat),vs[u]?=some v→vs[u']?=some v'→blk v=some b→blk v'=some b→u=u'
 row:∀(u:Nat) (v:Value),vs[u]?=some v→∃zs,w.ownsRow B et 1 v (D.getD u []).length zs∧RowsBy (fun (x:Int) c=>Rd P (.int .i64) w M x c) (D.getD u []) zs
 one:∀v∈vs,v.oneCell'=true
theorem rd_int {w w':World} {M M':Nat→Prop} {x:Int} {c:List Value} (h:Rd P (.int .i64) w M x c):Rd P (.int .i64) w' M' x c:=h
theorem ownsRow_at {w w':World} {e:TypeId} {s:Nat} {v:Value} {k:Nat} {zs:List Value} (h:w.ownsRow B e s v k zs) (hb:∀b,blk v=some b→w'.heap[b]?=w.heap[b]?):w'.ownsRow B e s v k zs:=by
 refine ⟨h.1,?_⟩;rcases h.2 with q|⟨g,cap,cur,q1,q2,q3,q4⟩
 ·exact .inl q
 ·exact .inr ⟨g,cap,cur,q1,q2,by rw[hb g (by rw[q1];rfl)];exact q3,q4⟩
theorem RowsAt.stay {M M':Nat→Prop} {w w':World} {T1 T0 et:TypeId} {n0 b1 b2 c:Nat} {vs:List Value} {D:List (List Int)} (r:RowsAt (P:=P) B M M' w T1 T0 et n0 b1 b2 c vs D) (h:∀b,M' b→w'.heap[b]?=w.heap[b]?):RowsAt (P:=P) B M M' w' T1 T0 et n0 b1 b2 c vs D:=
 { r with
  h1:=by rw[h b1 ((r.m b1).2 (.inr (.inl rfl)))];exact r.h1
  h2:=by rw[h b2 ((r.m b2).2 (.inr (.inr (.inl rfl))))];exact r.h2
  row:=fun u v hv=>by
   obtain ⟨zs,q1,q2⟩:=r.row u v hv;refine ⟨zs,ownsRow_at q1 fun b hb=>h b ((r.m b).2 (.inr (.inr (.inr ⟨v,List.mem_of_getElem? hv,hb⟩)))),q2.mono fun x _ c q=>rd_int q⟩ }
theorem RowsAt.data {M M':Nat→Prop} {Mu:Nat→Prop} {w:World} {T1 T0 et:TypeId} {n0 b1 b2 c:Nat} {vs:List Value} {D:List (List Int)} (r:RowsAt (P:=P) B M M' w T1 T0 et n0 b1 b2 c vs D) (hmu:∀b,M' b→¬M b→¬Mu b):RdV P (.ptr (.sl (.sl (.int .i64)))) w Mu D (.pointer (some ⟨b1,0,none⟩)):=by
 have n1:¬Mu b1:=hmu b1 ((r.m b1).2 (.inr (.inl rfl))) r.m1;have n2:¬Mu b2:=hmu b2 ((r.m b2).2 (.inr (.inr (.inl rfl)))) r.m2;have cell:∀{b:Nat} {cs:Array Value} {T:TypeId},w.heap[b]?=some (.cells cs T (0,0))→CellsAt w b 0 cs.toList:=by
  intro b cs T hb j v hj;rw[Nat.zero_add];simp only[World.cell?,hb];simpa using hj
 have rows:∀(us:List Value) (E:List (List Int)),us.length=E.length→(∀(u:Nat) (v:Value),us[u]?=some v→v∈vs∧∃zs,w.ownsRow B et 1 v (E.getD u []).length zs∧RowsBy (fun (x:Int) c=>Rd P (.int .i64) w M x c) (E.getD u []) zs)→RowsBy (fun (x:List Int) c=>Rd P Z5 w Mu x c) E us:=by
  intro us;induction us with
  |nil=>intro E hl _;cases E with
   |nil=>rfl
   |cons _ _=>cases hl
  |cons v us ih=>
   intro E hl h;cases E with
   |nil=>cases hl
   |cons x E=>
    refine ⟨[v],us,rfl,?_,ih E (by simpa using hl) fun u v' hv=>?_⟩
    ·obtain ⟨hv,zs,q1,q2⟩:=h 0 v rfl;simp only[List.getD_cons_zero] at q1 q2;rcases q1.2 with ⟨rfl,q⟩|⟨g,cp,cur,rfl,k1,k2,k3,k4,k5,k6⟩
     ·exact ⟨none,0,0,rfl,q,Nat.le_refl _,Nat.zero_le _,.inl rfl⟩
     ·refine ⟨_,_,cp,rfl,rfl,k3,k4,.inr ⟨g,0,zs,rfl,lt_of_block k2,?_,?_,q2.mono fun x _ c q=>rd_int q⟩⟩
      ·exact hmu g ((r.m g).2 (.inr (.inr (.inr ⟨_,hv,rfl⟩)))) (r.rm _ hv g rfl).1
      ·intro j z hj;refine cell k2 j z ?_;rw[←k6,List.getElem?_take] at hj;split at hj
       ·exact hj
       ·cases hj
    ·have:=h (u+1) v' (by simpa using hv);simpa using this
 have hb1:=r.h1;refine ⟨by unfold Ty.shape Ty.isSt;simp,?_⟩;exact ⟨b1,0,[.slice (some ⟨b2,0,none⟩) n0 c],rfl,lt_of_block r.h1,n1,cell r.h1,some ⟨b2,0,none⟩,n0,c,rfl,r.lenD,r.cap.1,r.cap.2,.inr ⟨b2,0,vs,rfl,lt_of_block r.h2,n2,cell r.h2,rows vs D (by rw[r.len,r.lenD]) fun u v hv=>⟨List.mem_of_getElem? hv,r.row u v hv⟩⟩⟩
theorem avrs_set {hp:Hp} {ψ:Nat→Value} {w:World} {M:Nat→Prop} {av:AV}:∀(vs:List Value) (u:Nat),(∀v,vs[u]?=some v→AVR P hp ψ w M av v)→AVRs P hp ψ w M ((vs.map .cst).set u av) vs
 |[],_,_=>rfl
 |v::vs,0,h=>⟨v,vs,rfl,h v rfl,by
   have:∀us:List Value,AVRs P hp ψ w M (us.map .cst) us:=fun us=>by
    induction us with
    |nil=>rfl
    |cons x r ih=>exact ⟨x,r,rfl,rfl,ih⟩
   exact this vs⟩
 |v::vs,u+1,h=>⟨v,vs,rfl,rfl,avrs_set vs u fun x hx=>h x (by simpa using hx)⟩
theorem set_avrs {hp:Hp} {ψ:Nat→Value} {w:World} {M:Nat→Prop} {av:AV}:∀(vs:List Value) (u:Nat) (us:List Value),AVRs P hp ψ w M ((vs.map .cst).set u av) us→us.length=vs.length∧(∀v,us[u]?=some v→AVR P hp ψ w M av v)∧∀i,i≠u→us[i]?=vs[i]?
 |[],u,us,h=>by obtain rfl:us=[]:=h;exact ⟨rfl,fun v q=>by simp at q,fun _ _=>rfl⟩
 |v::vs,0,us,h=>by
  obtain ⟨x,r,rfl,h1,h2⟩:=h;have:∀(vs us:List Value),AVRs P hp ψ w M (vs.map .cst) us→us=vs:=fun vs=>by
   induction vs with
   |nil=>intro us q;exact q
   |cons y s ih=>rintro us ⟨z,t,rfl,q1,q2⟩;rw[ih t q2,show z=y from q1]
  rw[this vs r h2];exact ⟨rfl,fun v' q=>by simp at q;subst q;exact h1,fun i hi=>by
   cases i with
   |zero=>exact absurd rfl hi
   |succ i=>rfl⟩
 |v::vs,u+1,us,h=>by
  obtain ⟨x,r,rfl,h1,h2⟩:=h;obtain ⟨q1,q2,q3⟩:=set_avrs vs u r h2;have:x=v:=h1;subst this;exact ⟨by simp[q1],fun v' q=>q2 v' (by simpa using q),fun i hi=>by
   cases i with
   |zero=>rfl
   |succ i=>simpa using q3 i (by omega)⟩
theorem tmG_over {d:Nat} {x y:AV} {tm:List (Nat×AV)}:tmG ((d,x)::(d,y)::tm)=tmG ((d,x)::tm):=by
 funext t;simp only[tmG];split<;>rfl
theorem rows_take {M M':Nat→Prop} {tm:List (Nat×AV)} {hp:List (Nat×OB)} {N:Nat} {kv:List Nat} {ψ:Nat→Value} {w0:Fix} {a:Act} {w:World} {T1 T0 et:TypeId} {n0 b1 b2 c d u:Nat} {vs:List Value} {D:List (List Int)}
  (s:Sim P B M' n ⟨(d,.cst (.pointer (some ⟨b1,0,none⟩)))::tm,hp,N,kv⟩ ψ w0 a w) (r:RowsAt (P:=P) B M M' w T1 T0 et n0 b1 b2 c vs D) (hu:u<n0):
  ∃ψ',Sim P B (fun x=>((M' x∧blk (vs.getD u undef)≠some x)∧b2≠x)∧b1≠x) n ⟨(d,.ptr (N+2) 0)::tm,(N+2,.box T1 [.arr (N+1) n0])::(N+1,.box T0 ((vs.map .cst).set u (.own N)))::(N,.row et (.int .i64) (D.getD u []))::hp,N+3,kv⟩ ψ' ⟨w,w0.vs,w0.dm,w0.ms⟩ a w:=by
 have hul:u<vs.length:=by rw[r.len];exact hu
 have eu:vs[u]?=some (vs.getD u undef):=by rw[List.getD_eq_getElem?_getD,List.getElem?_eq_getElem hul];rfl
 generalize vs.getD u undef=v at eu
 have hv:v∈vs:=List.mem_of_getElem? eu
 obtain ⟨zs,q1,q2⟩:=r.row u v eu
 have s1:=s.adopt (ob:=.row et (.int .i64) (D.getD u [])) (u:=v) (fun b hb=>⟨(r.m b).2 (.inr (.inr (.inr ⟨v,hv,hb⟩))),(ownsRow_blk q1 hb).1⟩) (by simp[OB.locs]) ⟨zs,by rw[upd'_same];exact q1,q2.mono fun x _ c q=>rd_int q⟩
 dsimp only at s1
 have s2:=s1.adopt (ob:=.box T0 ((vs.map .cst).set u (.own N))) (u:=.pointer (some ⟨b2,0,none⟩)) (fun b hb=>by
  simp only[blk,Option.some.injEq] at hb;subst hb;exact ⟨⟨(r.m b2).2 (.inr (.inr (.inl rfl))),fun e=>(r.rm v hv b2 e).2.2 rfl⟩,r.o2⟩) (by
  intro k hk;simp only[OB.locs] at hk;obtain ⟨x,hx,hl⟩:=locsL_of hk;rcases List.mem_or_eq_of_mem_set hx with hx|rfl
  ·obtain ⟨y,_,rfl⟩:=List.mem_map.1 hx;cases hl
  ·simp only[AV.locs,List.mem_singleton] at hl;rw[hl];show N<N+1+1;omega) ⟨b2,vs.toArray,upd'_same _ _ _,r.o2,r.h2,by
   refine avrs_set vs u fun x hx ob hob=>?_;rw[eu] at hx;injection hx with hx;subst hx;rw[upd'_other _ _ (show N≠N+1 by omega),upd'_same],r.one⟩
 dsimp only at s2
 have s3:=s2.adopt (ob:=.box T1 [.arr (N+1) n0]) (u:=.pointer (some ⟨b1,0,none⟩)) (fun b hb=>by
  simp only[blk,Option.some.injEq] at hb;subst hb;exact ⟨⟨⟨(r.m b1).2 (.inr (.inl rfl)),fun e=>(r.rm v hv b1 e).2.1 rfl⟩,fun e=>by simp only[blk,Option.some.injEq] at e;exact r.ne e.symm⟩,r.o1⟩) (by
  intro k hk;simp[OB.locs,AV.locsL,AV.locs] at hk;rw[hk];show N+1<N+1+1+1;omega) ⟨b1,#[.slice (some ⟨b2,0,none⟩) n0 c],upd'_same _ _ _,r.o1,r.h1,by
   refine ⟨_,[],rfl,fun ob hob=>⟨b2,c,?_,rfl,r.cap⟩,rfl⟩;show upd' _ (N+1+1) _ (N+1)=_;rw[upd'_other _ _ (show N+1≠N+1+1 by omega),upd'_same],fun x hx=>by simp at hx;subst hx;rfl⟩
 dsimp only at s3
 have s4:=s3.slot (t:=d) (av:=.ptr (N+2) 0) (fun ob hob=>⟨b1,upd'_same _ _ _,by
  have:=s3.av d;simp only[tmG,if_true] at this;exact this⟩) (by intro l hl;simp only[AV.locs,List.mem_singleton] at hl;rw[hl];show N+2<N+1+1+1;omega)
 refine ⟨upd' (upd' (upd' ψ N v) (N+1) (.pointer (some ⟨b2,0,none⟩))) (N+2) (.pointer (some ⟨b1,0,none⟩)),?_⟩
 have e:(fun x=>((M' x∧blk v≠some x)∧b2≠x)∧b1≠x)=(fun x=>((M' x∧blk v≠some x)∧blk (.pointer (some ⟨b2,0,none⟩))≠some x)∧blk (.pointer (some ⟨b1,0,none⟩))≠some x):=by
  funext x;simp[blk]
 rw[e]
 unfold Sim at s4⊢
 rw[←tmG_over (y:=.cst (.pointer (some ⟨b1,0,none⟩)))]
 exact s4
theorem rows_give {M M':Nat→Prop} {s0:AS} {ψ:Nat→Value} {w0:Fix} {a:Act} {w':World} {T1 T0 et:TypeId} {n0 b1 b2 c d u na nb nr:Nat} {vs:List Value} {D:List (List Int)} {ys:List Int}
  (s:Sim P B (fun x=>((M' x∧blk (vs.getD u undef)≠some x)∧b2≠x)∧b1≠x) n s0 ψ w0 a w') (r:RowsAt (P:=P) B M M' w0.w T1 T0 et n0 b1 b2 c vs D) (hM:∀b,M' b→b<w0.w.heap.size) (hu:u<n0)
  (ht:tmG s0.tm d= .ptr nb 0) (hb:look s0.hp nb=some (.box T1 [.arr na n0])) (ha:look s0.hp na=some (.box T0 ((vs.map .cst).set u (.own nr)))) (hr:look s0.hp nr=some (.row et (.int .i64) ys)) (hne:na≠nb):
  ∃b1' b2' c' vs' M3,Sim P B M3 n ⟨(d,.cst (.pointer (some ⟨b1',0,none⟩)))::s0.tm,killL (killL (killL s0.hp [nb]) [na]) [nr],s0.nx,s0.kv⟩ ψ ⟨w',w0.vs,w0.dm,w0.ms⟩ a w'∧RowsAt (P:=P) B M M3 w' T1 T0 et n0 b1' b2' c' vs' (D.set u ys):=by
 have hrb:nr≠nb:=fun e=>by rw[e,hb] at hr;cases hr
 have hra:nr≠na:=fun e=>by rw[e,ha] at hr;cases hr
 have hul:u<vs.length:=by rw[r.len];exact hu
 have eu:vs[u]?=some (vs.getD u undef):=by rw[List.getD_eq_getElem?_getD,List.getElem?_eq_getElem hul];rfl
 obtain ⟨b1',cells1,e1,o1,h1,a1,on1⟩:=s.hok.ob nb _ hb
 obtain ⟨x1,y1,ex,a2,a3⟩:=a1
 obtain rfl:y1=[]:=a3
 obtain ⟨b2',c',e2,rfl,hc1,hc2⟩:=a2 _ ha
 obtain ⟨b2x,cells2,e2',o2,h2,a4,on2⟩:=s.hok.ob na _ ha
 rw[e2] at e2'
 simp only[Value.pointer.injEq,Option.some.injEq,Addr.mk.injEq,and_true] at e2'
 subst e2'
 obtain ⟨zs,q1,q2⟩:=s.hok.ob nr _ hr
 obtain ⟨hl,hnew,hold⟩:=set_avrs vs u cells2.toList a4
 have bb1:blk (ψ nb)=some b1':=by rw[e1];rfl
 have bb2:blk (ψ na)=some b2':=by rw[e2];rfl
 have enu:cells2.toList[u]?=some (ψ nr):=by
  have:u<cells2.toList.length:=by rw[hl];exact hul
  rw[List.getElem?_eq_getElem this];exact congrArg some (hnew _ (List.getElem?_eq_getElem this) _ hr)
 have keep:∀(i:Nat) (v:Value) (g:Nat),i≠u→vs[i]?=some v→blk v=some g→((M' g∧blk (vs.getD u undef)≠some g)∧b2≠g)∧b1≠g:=fun i v g hi hv hg=>by
  have:=r.rm v (List.mem_of_getElem? hv) g hg;exact ⟨⟨⟨(r.m g).2 (.inr (.inr (.inr ⟨v,List.mem_of_getElem? hv,hg⟩))),fun e=>hi (r.dj i u v _ g hv eu hg e)⟩,fun e=>this.2.2 e.symm⟩,fun e=>this.2.1 e.symm⟩
 have hsub:∀b,M b→((M' b∧blk (vs.getD u undef)≠some b)∧b2≠b)∧b1≠b:=fun b hb=>⟨⟨⟨(r.m b).2 (.inl hb),fun e=>(r.rm _ (List.mem_of_getElem? eu) b e).1 hb⟩,fun e=>r.m2 (e▸hb)⟩,fun e=>r.m1 (e▸hb)⟩
 have s1:=s.release hb
 have s2:=s1.release (l:=na) (ob:=.box T0 ((vs.map .cst).set u (.own nr))) (by rw[look_kill,kill_not (by simpa using hne)];exact ha)
 have s3:=s2.release (l:=nr) (ob:=.row et (.int .i64) ys) (by rw[look_kill,kill_not (by simpa using hra),look_kill,kill_not (by simpa using hrb)];exact hr)
 have s4:=s3.slot (t:=d) (av:=.cst (.pointer (some ⟨b1',0,none⟩))) (by
  obtain ⟨b,q3,q4⟩:=(show AVR P _ ψ w' _ (.ptr nb 0) _ from ht▸s.av d) _ hb;rw[e1] at q3;simp only[Value.pointer.injEq,Option.some.injEq,Addr.mk.injEq,and_true] at q3;subst q3;exact q4) (by intro l hl;cases hl)
 refine ⟨b1',b2',c',cells2.toList,_,s4,?_⟩
 have vold:∀(i:Nat) (v:Value),i≠u→cells2.toList[i]?=some v→vs[i]?=some v:=fun i v hi hv=>by rw[←hold i hi];exact hv
 have hnr:∀b,blk (ψ nr)=some b→¬(((M' b∧blk (vs.getD u undef)≠some b)∧b2≠b)∧b1≠b):=fun b hb=>s.hok.md nr _ b hr hb
 refine { h1:=?_,h2:=by simpa using h2,len:=by rw[hl,r.len],lenD:=by rw[List.length_set,r.lenD],cap:=⟨hc1,hc2⟩,o1:=o1,o2:=o2,ne:=fun e=>?_,m:=fun b=>?_,m1:=fun q=>s.hok.md nb _ _ hb bb1 (hsub _ q),m2:=fun q=>s.hok.md na _ _ ha bb2 (hsub _ q),rm:=fun v hv b hb'=>?_,dj:=fun i i' v v' b hi hi' q q'=>?_,row:=fun i v hi=>?_,one:=on2 }
 ·have:cells1= #[.slice (some ⟨b2',0,none⟩) n0 c']:=by rw[←Array.toArray_toList (xs:=cells1),ex]
  rw[←this];exact h1
 ·exact hne (s.hok.dj na nb _ _ b1' ha hb (e▸bb2) bb1)
 ·constructor
  ·rintro (((q|q)|q)|q)
   ·rcases (r.m b).1 q.1.1.1 with k|k|k|⟨v,hv,hg⟩
    ·exact .inl k
    ·exact absurd k.symm q.2
    ·exact absurd k.symm q.1.2
    ·obtain ⟨i,hi⟩:=List.mem_iff_getElem?.1 hv
     by_cases e:i=u
     ·subst e;rw[eu] at hi;injection hi with hi;subst hi;exact absurd hg q.1.1.2
     ·exact .inr (.inr (.inr ⟨v,List.mem_of_getElem? (by rw[hold i e];exact hi),hg⟩))
   ·rw[bb1] at q;injection q with q;exact .inr (.inl q.symm)
   ·rw[bb2] at q;injection q with q;exact .inr (.inr (.inl q.symm))
   ·exact .inr (.inr (.inr ⟨_,List.mem_of_getElem? enu,q⟩))
  ·rintro (q|q|q|⟨v,hv,hg⟩)
   ·exact .inl (.inl (.inl (hsub b q)))
   ·exact .inl (.inl (.inr (by rw[bb1,q])))
   ·exact .inl (.inr (by rw[bb2,q]))
   ·obtain ⟨i,hi⟩:=List.mem_iff_getElem?.1 hv
    by_cases e:i=u
    ·subst e;rw[enu] at hi;injection hi with hi;subst hi;exact .inr hg
    ·exact .inl (.inl (.inl (keep i v b e (vold i v e hi) hg)))
 ·obtain ⟨i,hi⟩:=List.mem_iff_getElem?.1 hv
  by_cases e:i=u
  ·subst e;rw[enu] at hi;injection hi with hi;subst hi
   exact ⟨fun q=>hnr b hb' (hsub b q),fun e=>hrb (s.hok.dj nr nb _ _ b hr hb hb' (e▸bb1)),fun e=>hra (s.hok.dj nr na _ _ b hr ha hb' (e▸bb2))⟩
  ·have k:=keep i v b e (vold i v e hi) hb'
   exact ⟨(r.rm v (List.mem_of_getElem? (vold i v e hi)) b hb').1,fun e=>s.hok.md nb _ _ hb bb1 (e▸k),fun e=>s.hok.md na _ _ ha bb2 (e▸k)⟩
 ·by_cases e:i=u
  ·by_cases e':i'=u
   ·rw[e,e']
   ·subst e;rw[enu] at hi;injection hi with hi;subst hi
    exact absurd (keep i' v' b e' (vold i' v' e' hi') q') (hnr b q)
  ·by_cases e':i'=u
   ·subst e';rw[enu] at hi';injection hi' with hi';subst hi'
    exact absurd (keep i v b e (vold i v e hi) q) (hnr b q')
   ·exact r.dj i i' v v' b (vold i v e hi) (vold i' v' e' hi') q q'
 ·by_cases e:i=u
  ·subst e;rw[enu] at hi;injection hi with hi;subst hi
   have:(D.set i ys).getD i []=ys:=by rw[List.getD_eq_getElem?_getD,List.getElem?_set_self (by rw[r.lenD];exact hu)];rfl
   rw[this]
   exact ⟨zs,q1,q2.mono fun x _ c q=>rd_int q⟩
  ·obtain ⟨zs',k1,k2⟩:=r.row i v (vold i v e hi)
   have:(D.set u ys).getD i []=D.getD i []:=by rw[List.getD_eq_getElem?_getD,List.getElem?_set_ne (Ne.symm e),List.getD_eq_getElem?_getD]
   rw[this]
   refine ⟨zs',ownsRow_at k1 fun g hg=>?_,k2.mono fun x _ c q=>rd_int q⟩
   have k:=keep i v g e (vold i v e hi) hg
   exact s.bel.stay g k (hM g k.1.1.1)
theorem RowsAt.sub {M M':Nat→Prop} {w:World} {T1 T0 et:TypeId} {n0 b1 b2 c u:Nat} {vs:List Value} {D:List (List Int)} (r:RowsAt (P:=P) B M M' w T1 T0 et n0 b1 b2 c vs D) (hu:u<n0):∀b,M b→((M' b∧blk (vs.getD u undef)≠some b)∧b2≠b)∧b1≠b:=fun b hb=>by
 have hul:u<vs.length:=by rw[r.len];exact hu
 have eu:vs[u]?=some (vs.getD u undef):=by rw[List.getD_eq_getElem?_getD,List.getElem?_eq_getElem hul];rfl
 exact ⟨⟨⟨(r.m b).2 (.inl hb),fun e=>(r.rm _ (List.mem_of_getElem? eu) b e).1 hb⟩,fun e=>r.m2 (e▸hb)⟩,fun e=>r.m1 (e▸hb)⟩
theorem csts_avrs {hp:Hp} {ψ:Nat→Value} {w:World} {M:Nat→Prop} {v:Value}:∀(k:Nat) (us:List Value),AVRs P hp ψ w M (List.replicate k (.cst v)) us→us=List.replicate k v
 |0,us,h=>h
 |k+1,us,h=>by
  obtain ⟨x,r,rfl,h1,h2⟩:=h;rw[csts_avrs k r h2,show x=v from h1];rfl
theorem rows_start {M:Nat→Prop} {st:AS} {ψ:Nat→Value} {w0:Fix} {a:Act} {w:World} {T1 T0:TypeId} (et:TypeId) {n0 d lb lo:Nat} (s:Sim P B M n st ψ w0 a w) (ht:tmG st.tm d= .ptr lb 0) (hb:look st.hp lb=some (.box T1 [.arr lo n0])) (ho:look st.hp lo=some (.box T0 (List.replicate n0 (.cst (.slice none 0 0))))) (hne:lo≠lb):
  ∃b1 b2 c M',Sim P B M' n ⟨(d,.cst (.pointer (some ⟨b1,0,none⟩)))::st.tm,killL (killL st.hp [lb]) [lo],st.nx,st.kv⟩ ψ ⟨w,w0.vs,w0.dm,w0.ms⟩ a w∧RowsAt (P:=P) B M M' w T1 T0 et n0 b1 b2 c (List.replicate n0 (.slice none 0 0)) (List.replicate n0 []):=by
 obtain ⟨b1,cells1,e1,o1,h1,a1,on1⟩:=s.hok.ob lb _ hb
 obtain ⟨x1,y1,ex,a2,a3⟩:=a1
 obtain rfl:y1=[]:=a3
 obtain ⟨b2,c,e2,rfl,hc1,hc2⟩:=a2 _ ho
 obtain ⟨b2x,cells2,e2',o2,h2,a4,on2⟩:=s.hok.ob lo _ ho
 rw[e2] at e2'
 simp only[Value.pointer.injEq,Option.some.injEq,Addr.mk.injEq,and_true] at e2'
 subst e2'
 have ec:=csts_avrs _ _ a4
 have bb1:blk (ψ lb)=some b1:=by rw[e1];rfl
 have bb2:blk (ψ lo)=some b2:=by rw[e2];rfl
 have s1:=s.release hb
 have s2:=s1.release (l:=lo) (by rw[look_kill,kill_not (by simpa using hne)];exact ho)
 have s3:=s2.slot (t:=d) (av:=.cst (.pointer (some ⟨b1,0,none⟩))) (by
  obtain ⟨b,q3,q4⟩:=(show AVR P _ ψ w _ (.ptr lb 0) _ from ht▸s.av d) _ hb;rw[e1] at q3;simp only[Value.pointer.injEq,Option.some.injEq,Addr.mk.injEq,and_true] at q3;subst q3;exact q4) (by intro l hl;cases hl)
 refine ⟨b1,b2,c,_,s3,?_⟩
 have nb:∀v∈List.replicate n0 (Value.slice none 0 0),v= .slice none 0 0:=fun v hv=>(List.mem_replicate.1 hv).2
 refine { h1:=?_,h2:=by rw[←ec];simpa using h2,len:=by simp,lenD:=by simp,cap:=⟨hc1,hc2⟩,o1:=o1,o2:=o2,ne:=fun e=>?_,m:=fun b=>?_,m1:=s.hok.md lb _ _ hb bb1,m2:=s.hok.md lo _ _ ho bb2,rm:=fun v hv b hb'=>?_,dj:=fun i i' v v' b hi hi' q q'=>?_,row:=fun i v hi=>?_,one:=fun v hv=>by rw[nb v hv];rfl }
 ·have:cells1= #[.slice (some ⟨b2,0,none⟩) n0 c]:=by rw[←Array.toArray_toList (xs:=cells1),ex]
  rw[←this];exact h1
 ·exact hne (s.hok.dj lo lb _ _ b1 ho hb (e▸bb2) bb1)
 ·rw[bb1,bb2]
  constructor
  ·rintro ((q|q)|q)
   ·exact .inl q
   ·injection q with q;exact .inr (.inl q.symm)
   ·injection q with q;exact .inr (.inr (.inl q.symm))
  ·rintro (q|q|q|⟨v,hv,hg⟩)
   ·exact .inl (.inl q)
   ·exact .inl (.inr (by rw[q]))
   ·exact .inr (by rw[q])
   ·rw[nb v hv] at hg;cases hg
 ·rw[nb v hv] at hb';cases hb'
 ·rw[nb v (List.mem_of_getElem? hi)] at q;cases q
 ·rw[nb v (List.mem_of_getElem? hi)]
  have hi':=(List.getElem?_eq_some_iff.1 hi).1
  have:(List.replicate n0 ([]:List Int)).getD i []=[]:=by
   rw[List.getD_eq_getElem?_getD,List.getElem?_replicate];split<;>rfl
  rw[this]
  exact ⟨[],⟨rfl,.inl ⟨rfl,rfl⟩⟩,rfl⟩
def AS.with (st:AS) (d:Nat) (av:AV):AS:=⟨(d,av)::st.tm,st.hp,st.nx,st.kv⟩
theorem XW_rows {b:XC} {Q:XQ} {st:AS} (i:Nat) (X:Type) (I:X→AS) (inv done:X→Prop) (μ:X→Nat) (x0:X) (d lb lo n0:Nat) (T1 T0 et:TypeId) (D:X→List (List Int)) (sel:X→Nat)
  (ht:tmG st.tm d= .ptr lb 0) (hb:look st.hp lb=some (.box T1 [.arr lo n0])) (ho:look st.hp lo=some (.box T0 (List.replicate n0 (.cst (.slice none 0 0))))) (hne:lo≠lb)
  (h0:∀v,AS.le P n ⟨(d,.cst v)::st.tm,killL (killL st.hp [lb]) [lo],st.nx,st.kv⟩ ((I x0).with d (.cst v))) (hi:inv x0) (hD0:D x0=List.replicate n0 [])
  (hdone:∀x,inv x→done x→Q (.exit i) ((I x).with d (.val (.ptr (.sl (.sl (.int .i64)))) (D x)))∧∀v,xwp P C n b (fun e s=>e= .exit i∧AS.le P n s ((I x).with d (.cst v))) ((I x).with d (.cst v)))
  (hr:∀x,inv x→¬done x→sel x<n0∧∀vs:List Value,vs.length=n0→xwp P C n b (fun e s=>e= .normal∧∃x' nr ys,μ x'<μ x∧inv x'∧tmG s.tm d= .ptr ((I x).nx+2) 0∧look s.hp ((I x).nx+2)=some (.box T1 [.arr ((I x).nx+1) n0])∧look s.hp ((I x).nx+1)=some (.box T0 ((vs.map .cst).set (sel x) (.own nr)))∧look s.hp nr=some (.row et (.int .i64) ys)∧D x'=(D x).set (sel x) ys∧
    ∀v,AS.le P n ⟨(d,.cst v)::s.tm,killL (killL (killL s.hp [(I x).nx+2]) [(I x).nx+1]) [nr],s.nx,s.kv⟩ ((I x').with d (.cst v)))
   ⟨(d,.ptr ((I x).nx+2) 0)::(I x).tm,((I x).nx+2,.box T1 [.arr ((I x).nx+1) n0])::((I x).nx+1,.box T0 ((vs.map .cst).set (sel x) (.own (I x).nx)))::((I x).nx,.row et (.int .i64) ((D x).getD (sel x) []))::(I x).hp,(I x).nx+3,(I x).kv⟩):XW P C n (.loop b) Q st:=by
 intro code hc hC B M w0 ψ a w s ro hR
 cases code<;>simp[codeChk] at hc
 obtain ⟨b1,b2,c,M',s1,r1⟩:=rows_start et s ht hb ho hne
 obtain ⟨ψ1,s2⟩:=h0 _ B M' _ ψ a w s1
 refine wpIn_loop_ghost (fun k a w=>∃x ψ M' b1 b2 c vs,μ x=k∧inv x∧Stay B M w0.w w∧Sim P B M' n ((I x).with d (.cst (.pointer (some ⟨b1,0,none⟩)))) ψ ⟨w,w0.vs,w0.dm,w0.ms⟩ a w∧RowsAt (P:=P) B M M' w T1 T0 et n0 b1 b2 c vs (D x)) (μ x0) ⟨x0,ψ1,M',b1,b2,c,_,rfl,hi,s.bel,s2,hD0▸r1⟩ ?_
 rintro k a w ⟨x,ψ,M',b1,b2,c,vs,rfl,hx,hst,s,r⟩
 by_cases hdn:done x
 ·obtain ⟨hq,hw⟩:=hdone x hx hdn
  refine wpIn_mono (XW_of (hw _) _ hc hC B M' _ ψ a w s ro hR) fun e a' w' q=>?_
  cases e with
  |normal=>obtain ⟨_,_,_,h2,_⟩:=q;cases h2
  |ret=>obtain ⟨_,_,_,h2,_⟩:=q;cases h2
  |exit j=>
   obtain ⟨s1,ψ1,h1,h2,h3⟩:=q
   injection h2 with h2;subst h2
   obtain ⟨ψ2,s3⟩:=h3 B M' _ ψ1 a' w' h1
   have r':=r.stay (w':=w') fun b hb=>h1.bel.stay b hb (s.hok.mb b hb)
   have s4:=s3.fewer (M':=M) fun b hb=>(r.m b).2 (.inl hb)
   have hmu:∀b,M' b→¬M b→¬Mu M (look (I x).hp) ψ2 b:=fun b k1 k2 k3=>by
    rcases k3 with k3|⟨l,ob,k4,k5⟩
    ·exact k2 k3
    ·exact s3.hok.md l ob b k4 k5 k1
   have s5:=s4.slot (t:=d) (av:=.val (.ptr Z14) (D x)) (by
    have:=s3.av d;simp only[AS.with,tmG,if_true] at this;have hdt:=r'.data hmu;rw[←this] at hdt;exact hdt) (by intro l hl;cases hl)
   refine ⟨_,ψ2,Sim.base (w1:=w') (st:=(I x).with d (.val (.ptr Z14) (D x))) ?_ (hst.trans (h1.bel.fewer fun b hb=>(r.m b).2 (.inl hb))),hq⟩
   unfold Sim AS.with at s5⊢
   rw[tmG_over] at s5
   exact s5
  |_=>exact q.elim
 ·obtain ⟨hsel,hw⟩:=hr x hx hdn
  obtain ⟨ψ1,s1⟩:=rows_take s r hsel
  refine wpIn_mono (XW_of (hw vs r.len) _ hc hC B _ _ ψ1 a w s1 ro hR) fun e a' w' q=>?_
  cases e with
  |normal=>
   obtain ⟨s2,ψ2,h1,_,x',nr,ys,k1,k2,k3,k4,k5,k6,k7,k8⟩:=q
   obtain ⟨b1',b2',c',vs',M3,s3,r3⟩:=rows_give (w0:=⟨w,w0.vs,w0.dm,w0.ms⟩) h1 r (fun b=>s.hok.mb b) hsel k3 k4 k5 k6 (by omega)
   obtain ⟨ψ4,s4⟩:=k8 _ B M3 _ ψ2 a' w' s3
   exact ⟨μ x',k1,x',ψ4,M3,b1',b2',c',vs',rfl,k2,hst.trans (h1.bel.fewer (r.sub hsel)),s4,k7▸r3⟩
  |ret=>obtain ⟨_,_,_,h2,_⟩:=q;cases h2
  |exit j=>obtain ⟨_,_,_,h2,_⟩:=q;cases h2
  |_=>exact q.elim
theorem XW_rowsN {b:XC} {Q:XQ} {st:AS} (i N:Nat) (ds ls:List Nat) (live:Nat→List (Nat×AV)) (m d lb lo n0:Nat) (T1 T0 et:TypeId) (D:Nat→List (List Int)) (sel:Nat→Nat) (nr:Nat) (ys:Nat→List Int)
  (ht:tmG st.tm d= .ptr lb 0) (hb:look st.hp lb=some (.box T1 [.arr lo n0])) (ho:look st.hp lo=some (.box T0 (List.replicate n0 (.cst (.slice none 0 0))))) (hne:lo≠lb)
  (h0:∀v,le' ⟨(d,.cst v)::st.tm,killL (killL st.hp [lb]) [lo],st.nx,st.kv⟩ ((headOf ⟨st.tm,killL (killL st.hp [lb]) [lo],st.nx,st.kv⟩ N ds (live 0) ls []).with d (.cst v))) (hD0:D 0=List.replicate n0 [])
  (hq:Q (.exit i) ((headOf ⟨st.tm,killL (killL st.hp [lb]) [lo],st.nx,st.kv⟩ N ds (live m) ls []).with d (.val (.ptr (.sl (.sl (.int .i64)))) (D m))))
  (hx:∀v,xwp P C n b (fun e s=>e= .exit i∧leQ s ((headOf ⟨st.tm,killL (killL st.hp [lb]) [lo],st.nx,st.kv⟩ N ds (live m) ls []).with d (.cst v))) ((headOf ⟨st.tm,killL (killL st.hp [lb]) [lo],st.nx,st.kv⟩ N ds (live m) ls []).with d (.cst v)))
  (hr:∀k,k<m→sel k<n0∧D (k+1)=(D k).set (sel k) (ys k)∧∀vs:List Value,vs.length=n0→xwp P C n b (fun e s=>e= .normal∧tmG s.tm d= .ptr (N+2) 0∧look s.hp (N+2)=some (.box T1 [.arr (N+1) n0])∧look s.hp (N+1)=some (.box T0 ((vs.map .cst).set (sel k) (.own nr)))∧look s.hp nr=some (.row et (.int .i64) (ys k))∧
    ∀v,leQ ⟨(d,.cst v)::s.tm,killL (killL (killL s.hp [N+2]) [N+1]) [nr],s.nx,s.kv⟩ ((headOf ⟨st.tm,killL (killL st.hp [lb]) [lo],st.nx,st.kv⟩ N ds (live (k+1)) ls []).with d (.cst v)))
   ⟨(d,.ptr (N+2) 0)::headT st.tm st.kv ds (live k),(N+2,.box T1 [.arr (N+1) n0])::(N+1,.box T0 ((vs.map .cst).set (sel k) (.own N)))::(N,.row et (.int .i64) ((D k).getD (sel k) []))::puts (keep (killL (killL st.hp [lb]) [lo]) ls) [],N+3,st.kv⟩):XW P C n (.loop b) Q st:=by
 refine XW_rows i Nat (fun k=>headOf ⟨st.tm,killL (killL st.hp [lb]) [lo],st.nx,st.kv⟩ N ds (live k) ls []) (fun k=>k≤m) (fun k=>k=m) (fun k=>m-k) 0 d lb lo n0 T1 T0 et D sel ht hb ho hne (fun v=>le_of (h0 v)) (Nat.zero_le _) hD0 (fun k _ hk=>?_) (fun k hk hkm=>?_)
 ·subst hk
  exact ⟨hq,fun v=>xwp_mono (fun e s q=>⟨q.1,le_of q.2⟩) (hx v)⟩
 ·obtain ⟨h1,h2,h3⟩:=hr k (by omega)
  exact ⟨h1,fun vs hvs=>xwp_mono (fun e s q=>⟨q.1,k+1,nr,ys k,by omega,by omega,q.2.1,q.2.2.1,q.2.2.2.1,q.2.2.2.2.1,h2,fun v=>le_of (q.2.2.2.2.2 v)⟩) (h3 vs hvs)⟩
end
end T
end Go.Proofs.YtpocfbfmjippnaaGreat
end
section
namespace Go.Proofs.YtpocfbfmjippnaaGreat
namespace T
set_option maxRecDepth 100000
set_option maxHeartbeats 4000000
def x7:XF:=⟨161,[.tmp 0],[0,1,2,3,4,5,6,7,8,9,10,11,12,13,14,15],(⟨_,by conv=>rhs;reduce;try simp only[Int.reduceOfNat,Int.reduceNegSucc]⟩:Fx Tryz.f7 [4,6,8,16,18,20,28,30] [] []).v⟩
def x8_0:XC:=(⟨_,by conv=>rhs;reduce;try simp only[Int.reduceOfNat,Int.reduceNegSucc]⟩:Fl Tryz.f8 0 [15] [] []).v
def x8_0d:List Nat:=[8,9]
def x8_1:XC:=(⟨_,by conv=>rhs;reduce;try simp only[Int.reduceOfNat,Int.reduceNegSucc]⟩:Fl Tryz.f8 1 [15] [] []).v
def x8_1d:List Nat:=[8,10]
def x8:XF:=⟨83,[.tmp 8],[0,1,2,3,4,8,9,10],(fun a b=>(⟨_,by conv=>rhs;reduce;try simp only[Int.reduceOfNat,Int.reduceNegSucc]⟩:Fx Tryz.f8 [10,15] [] [a,b]).v) x8_0 x8_1⟩
def x10:XF:=⟨16,[.cell 2 (.st (.cons (.int .i64) (.cons (.sl (.st (.cons (.int .i64) (.cons (.int .i64) (.cons (.sl (.int .i64)) (.sl (.int .i64))))))) (.cons (.sl (.st (.cons (.int .i64) (.cons (.int .i64) (.cons (.int .i64) (.cons (.int .i64) (.cons (.int .i64) (.cons (.int .i64) (.cons (.int .i64) (.cons (.int .i64) (.int .i64))))))))))) (.cons (.sl (.st (.cons (.int .i64) (.cons (.int .i64) (.cons (.int .i64) (.cons (.int .i64) (.cons (.int .i64) (.cons (.int .i64) (.cons (.int .i64) (.cons (.int .i64) (.cons (.int .i64) (.int .i64)))))))))))) (.cons (.sl (.st (.cons (.int .i64) (.cons (.int .i64) .bool)))) (.st (.cons (.int .i64) (.cons (.int .i64) (.int .i64))))))))))],[0,1,2],(⟨_,by conv=>rhs;reduce;try simp only[Int.reduceOfNat,Int.reduceNegSucc]⟩:Fx Tryz.f10 [] [] []).v⟩
def x12_0:XC:=(⟨_,by conv=>rhs;reduce;try simp only[Int.reduceOfNat,Int.reduceNegSucc]⟩:Fl Tryz.f12 0 [15] [] []).v
def x12_0d:List Nat:=[4,5]
def x12:XF:=⟨27,[.tmp 4],[0,1,4,5],(fun a=>(⟨_,by conv=>rhs;reduce;try simp only[Int.reduceOfNat,Int.reduceNegSucc]⟩:Fx Tryz.f12 [10] [] [a]).v) x12_0⟩
def x13_0:XC:=(⟨_,by conv=>rhs;reduce;try simp only[Int.reduceOfNat,Int.reduceNegSucc]⟩:Fl Tryz.f13 0 [15] [] []).v
def x13_0d:List Nat:=[4,5]
def x13:XF:=⟨26,[.tmp 4],[0,1,4,5],(fun a=>(⟨_,by conv=>rhs;reduce;try simp only[Int.reduceOfNat,Int.reduceNegSucc]⟩:Fx Tryz.f13 [10] [] [a]).v) x13_0⟩
def x14_0:XC:=(⟨_,by conv=>rhs;reduce;try simp only[Int.reduceOfNat,Int.reduceNegSucc]⟩:Fl Tryz.f14 0 [15] [] []).v
def x14_0d:List Nat:=[4,5]
def x14:XF:=⟨42,[.tmp 4],[0,1,4,5],(fun a=>(⟨_,by conv=>rhs;reduce;try simp only[Int.reduceOfNat,Int.reduceNegSucc]⟩:Fx Tryz.f14 [10] [] [a]).v) x14_0⟩
def x15_0:XC:=(⟨_,by conv=>rhs;reduce;try simp only[Int.reduceOfNat,Int.reduceNegSucc]⟩:Fl Tryz.f15 0 [9] [] []).v
def x15_0d:List Nat:=[3,4]
def x15:XF:=⟨26,[.tmp 2],[0,2,3,4],(fun a=>(⟨_,by conv=>rhs;reduce;try simp only[Int.reduceOfNat,Int.reduceNegSucc]⟩:Fx Tryz.f15 [] [] [a]).v) x15_0⟩
def x17_0:XC:=(⟨_,by conv=>rhs;reduce;try simp only[Int.reduceOfNat,Int.reduceNegSucc]⟩:Fl Tryz.f17 0 [9] [] []).v
def x17_0d:List Nat:=[3,4]
def x17:XF:=⟨26,[.tmp 2],[0,2,3,4],(fun a=>(⟨_,by conv=>rhs;reduce;try simp only[Int.reduceOfNat,Int.reduceNegSucc]⟩:Fx Tryz.f17 [] [] [a]).v) x17_0⟩
def x18:XF:=⟨48,[.tmp 14],[0,1,2,3,4,5,6,7,14,15,16,17,18],(⟨_,by conv=>rhs;reduce;try simp only[Int.reduceOfNat,Int.reduceNegSucc]⟩:Fx Tryz.f18 [4] [] []).v⟩
def x19_0:XC:=(⟨_,by conv=>rhs;reduce;try simp only[Int.reduceOfNat,Int.reduceNegSucc]⟩:Fl Tryz.f19 0 [13] [] []).v
def x19_0d:List Nat:=[5,6]
def x19:XF:=⟨28,[.tmp 4],[0,1,4,5,6],(fun a=>(⟨_,by conv=>rhs;reduce;try simp only[Int.reduceOfNat,Int.reduceNegSucc]⟩:Fx Tryz.f19 [] [] [a]).v) x19_0⟩
def x22_0:XC:=(⟨_,by conv=>rhs;reduce;try simp only[Int.reduceOfNat,Int.reduceNegSucc]⟩:Fl Tryz.f22 0 [9] [] []).v
def x22_0d:List Nat:=[5,6]
def x22:XF:=⟨19,[.tmp 4],[0,1,4,5,6],(fun a=>(⟨_,by conv=>rhs;reduce;try simp only[Int.reduceOfNat,Int.reduceNegSucc]⟩:Fx Tryz.f22 [] [] [a]).v) x22_0⟩
def x25_0:XC:=(⟨_,by conv=>rhs;reduce;try simp only[Int.reduceOfNat,Int.reduceNegSucc]⟩:Fl Tryz.f25 0 [14,20,26,31] [] []).v
def x25_0d:List Nat:=[5,6,7,8]
def x25:XF:=⟨68,[.tmp 4],[0,1,4,5,6,7,8],(fun a=>(⟨_,by conv=>rhs;reduce;try simp only[Int.reduceOfNat,Int.reduceNegSucc]⟩:Fx Tryz.f25 [13] [] [a]).v) x25_0⟩
def x26:XF:=⟨60,[.tmp 4],[0,1,2,3,4,5,6],(⟨_,by conv=>rhs;reduce;try simp only[Int.reduceOfNat,Int.reduceNegSucc]⟩:Fx Tryz.f26 [4] [] []).v⟩
def x27:XF:=⟨45,[.cell 6 (.st (.cons (.int .i64) (.cons (.sl (.st (.cons (.int .i64) .bool))) (.cons (.sl (.st (.cons (.int .i64) (.int .i64)))) (.sl (.int .i64)))))),.tmp 7],[0,1,2,3,6,7,8,9,10],(⟨_,by conv=>rhs;reduce;try simp only[Int.reduceOfNat,Int.reduceNegSucc]⟩:Fx Tryz.f27 [4,12,14,29] [] []).v⟩
def x28_1:XC:=(⟨_,by conv=>rhs;reduce;try simp only[Int.reduceOfNat,Int.reduceNegSucc]⟩:Fl Tryz.f28 1 [11] [] []).v
def x28_1d:List Nat:=[4]
def x28_0:XC:=(fun a=>(⟨_,by conv=>rhs;reduce;try simp only[Int.reduceOfNat,Int.reduceNegSucc]⟩:Fl Tryz.f28 0 [15,16] [] [a]).v) x28_1
def x28_0d:List Nat:=[2,3,4]
def x28_2:XC:=(⟨_,by conv=>rhs;reduce;try simp only[Int.reduceOfNat,Int.reduceNegSucc]⟩:Fl Tryz.f28 2 [10,11] [] []).v
def x28_2d:List Nat:=[5]
def x28:XF:=⟨54,[.cell 0 (.st (.cons (.int .i64) (.cons (.sl (.st (.cons (.int .i64) (.cons (.int .i64) (.cons (.sl (.int .i64)) (.sl (.int .i64))))))) (.cons (.sl (.st (.cons (.int .i64) (.cons (.int .i64) (.cons (.int .i64) (.cons (.int .i64) (.cons (.int .i64) (.cons (.int .i64) (.cons (.int .i64) (.cons (.int .i64) (.int .i64))))))))))) (.cons (.sl (.st (.cons (.int .i64) (.cons (.int .i64) (.cons (.int .i64) (.cons (.int .i64) (.cons (.int .i64) (.cons (.int .i64) (.cons (.int .i64) (.cons (.int .i64) (.cons (.int .i64) (.int .i64)))))))))))) (.cons (.sl (.st (.cons (.int .i64) (.cons (.int .i64) .bool)))) (.st (.cons (.int .i64) (.cons (.int .i64) (.int .i64))))))))))],[0,1,2,3,4,5],(fun a b=>(⟨_,by conv=>rhs;reduce;try simp only[Int.reduceOfNat,Int.reduceNegSucc]⟩:Fx Tryz.f28 [13] [] [a,b]).v) x28_0 x28_2⟩
def x29:XF:=⟨31,[.tmp 4],[0,1,2,3,4],(⟨_,by conv=>rhs;reduce;try simp only[Int.reduceOfNat,Int.reduceNegSucc]⟩:Fx Tryz.f29 [] [] []).v⟩
def x30_0:XC:=(⟨_,by conv=>rhs;reduce;try simp only[Int.reduceOfNat,Int.reduceNegSucc]⟩:Fl Tryz.f30 0 [6,15] [] []).v
def x30_0d:List Nat:=[4,5]
def x30:XF:=⟨72,[.tmp 4],[0,1,2,4,5],(fun a=>(⟨_,by conv=>rhs;reduce;try simp only[Int.reduceOfNat,Int.reduceNegSucc]⟩:Fx Tryz.f30 [7] [] [a]).v) x30_0⟩
def x31_0:XC:=(⟨_,by conv=>rhs;reduce;try simp only[Int.reduceOfNat,Int.reduceNegSucc]⟩:Fl Tryz.f31 0 [12,14] [] []).v
def x31_0d:List Nat:=[8,9,10,11,12,31]
def x31_1:XC:=(⟨_,by conv=>rhs;reduce;try simp only[Int.reduceOfNat,Int.reduceNegSucc]⟩:Fl Tryz.f31 1 [] [] []).v
def x31_1d:List Nat:=[8,13,14,64]
def x31:XF:=⟨86,[.tmp 8],[0,1,2,3,4,7,8,9,10,11,12,13,14,29,30,31,62,63,64],(fun a b=>(⟨_,by conv=>rhs;reduce;try simp only[Int.reduceOfNat,Int.reduceNegSucc]⟩:Fx Tryz.f31 [10,15] [] [a,b]).v) x31_0 x31_1⟩
def x32_0:XC:=(⟨_,by conv=>rhs;reduce;try simp only[Int.reduceOfNat,Int.reduceNegSucc]⟩:Fl Tryz.f32 0 [] [] []).v
def x32_0d:List Nat:=[5,7,10]
def x32:XF:=⟨24,[.tmp 4],[0,1,4,5,7,8,9,10],(fun a=>(⟨_,by conv=>rhs;reduce;try simp only[Int.reduceOfNat,Int.reduceNegSucc]⟩:Fx Tryz.f32 [] [] [a]).v) x32_0⟩
def x36_0:XC:=(⟨_,by conv=>rhs;reduce;try simp only[Int.reduceOfNat,Int.reduceNegSucc]⟩:Fl Tryz.f36 0 [12] [] []).v
def x36_0d:List Nat:=[5,6,7,8,9,12]
def x36:XF:=⟨50,[.tmp 4],[0,1,4,5,6,7,8,9,11,12],(fun a=>(⟨_,by conv=>rhs;reduce;try simp only[Int.reduceOfNat,Int.reduceNegSucc]⟩:Fx Tryz.f36 [9] [] [a]).v) x36_0⟩
def x37_0:XC:=(⟨_,by conv=>rhs;reduce;try simp only[Int.reduceOfNat,Int.reduceNegSucc]⟩:Fl Tryz.f37 0 [] [] []).v
def x37_0d:List Nat:=[3,5,8]
def x37:XF:=⟨29,[.tmp 2],[0,2,3,5,6,7,8],(fun a=>(⟨_,by conv=>rhs;reduce;try simp only[Int.reduceOfNat,Int.reduceNegSucc]⟩:Fx Tryz.f37 [] [] [a]).v) x37_0⟩
def x38_1:XC:=(⟨_,by conv=>rhs;reduce;try simp only[Int.reduceOfNat,Int.reduceNegSucc]⟩:Fl Tryz.f38 1 [15] [] []).v
def x38_1d:List Nat:=[8,10]
def x38_0:XC:=(fun a=>(⟨_,by conv=>rhs;reduce;try simp only[Int.reduceOfNat,Int.reduceNegSucc]⟩:Fl Tryz.f38 0 [16,20] [] [a]).v) x38_1
def x38_0d:List Nat:=[8,9,10]
def x38_3:XC:=(⟨_,by conv=>rhs;reduce;try simp only[Int.reduceOfNat,Int.reduceNegSucc]⟩:Fl Tryz.f38 3 [15] [] []).v
def x38_3d:List Nat:=[8,13]
def x38_2:XC:=(fun a=>(⟨_,by conv=>rhs;reduce;try simp only[Int.reduceOfNat,Int.reduceNegSucc]⟩:Fl Tryz.f38 2 [12] [] [a]).v) x38_3
def x38_2d:List Nat:=[8,12,13]
def x38:XF:=⟨87,[.tmp 8],[0,1,2,3,4,8,9,10,11,12,13],(fun a b=>(⟨_,by conv=>rhs;reduce;try simp only[Int.reduceOfNat,Int.reduceNegSucc]⟩:Fx Tryz.f38 [10,15,22] [] [a,b]).v) x38_0 x38_2⟩
def x39_0:XC:=(⟨_,by conv=>rhs;reduce;try simp only[Int.reduceOfNat,Int.reduceNegSucc]⟩:Fl Tryz.f39 0 [14,16,24,25] [] []).v
def x39_0d:List Nat:=[8,9,11,12,16]
def x39:XF:=⟨61,[.tmp 8,.tmp 9],[0,1,2,3,4,8,9,10,11,12,16],(fun a=>(⟨_,by conv=>rhs;reduce;try simp only[Int.reduceOfNat,Int.reduceNegSucc]⟩:Fx Tryz.f39 [9] [] [a]).v) x39_0⟩
def x40_0:XC:=(⟨_,by conv=>rhs;reduce;try simp only[Int.reduceOfNat,Int.reduceNegSucc]⟩:Fl Tryz.f40 0 [10,11] [] []).v
def x40_0d:List Nat:=[5,6,7]
def x40:XF:=⟨28,[.tmp 4],[0,1,2,4,5,6,7],(fun a=>(⟨_,by conv=>rhs;reduce;try simp only[Int.reduceOfNat,Int.reduceNegSucc]⟩:Fx Tryz.f40 [] [] [a]).v) x40_0⟩
def x48:XF:=⟨39,[.tmp 4,.tmp 5],[0,1,2,3,4,5,6,7,9],(⟨_,by conv=>rhs;reduce;try simp only[Int.reduceOfNat,Int.reduceNegSucc]⟩:Fx Tryz.f48 [12,14,16] [] []).v⟩
def x49:XF:=⟨5,[.tmp 2],[0,2],(⟨_,by conv=>rhs;reduce;try simp only[Int.reduceOfNat,Int.reduceNegSucc]⟩:Fx Tryz.f49 [] [] []).v⟩
def x50_1:XC:=(⟨_,by conv=>rhs;reduce;try simp only[Int.reduceOfNat,Int.reduceNegSucc]⟩:Fl Tryz.f50 1 [6,10,18,24,25] [] []).v
def x50_1d:List Nat:=[13,14,16,17,18,19]
def x50_0:XC:=(fun a=>(⟨_,by conv=>rhs;reduce;try simp only[Int.reduceOfNat,Int.reduceNegSucc]⟩:Fl Tryz.f50 0 [] [] [a]).v) x50_1
def x50_0d:List Nat:=[13,14,15,16,17,18,19,32]
def x50:XF:=⟨105,[.cell 6 (.st (.cons (.int .i64) (.cons (.sl (.st (.cons (.int .i64) .bool))) (.cons (.sl (.st (.cons (.int .i64) (.int .i64)))) (.sl (.int .i64)))))),.tmp 7,.tmp 8,.tmp 9,.tmp 10],[0,1,2,3,4,6,7,8,9,10,11,12,13,14,15,16,17,18,19,31,32],(fun a=>(⟨_,by conv=>rhs;reduce;try simp only[Int.reduceOfNat,Int.reduceNegSucc]⟩:Fx Tryz.f50 [2,12,23,31] [] [a]).v) x50_0⟩
def x51:XF:=⟨45,[.cell 6 (.st (.cons (.sl (.st (.cons (.int .i64) (.int .i64)))) (.cons (.sl (.st (.cons (.int .i64) (.int .i64)))) (.sl (.st (.cons (.int .i64) (.cons (.int .i64) (.int .i64)))))))),.tmp 7],[0,1,2,3,6,7,9],(⟨_,by conv=>rhs;reduce;try simp only[Int.reduceOfNat,Int.reduceNegSucc]⟩:Fx Tryz.f51 [10,13,20,28] [] []).v⟩
def x52:XF:=⟨9,[.tmp 4],[0,1,2,4],(⟨_,by conv=>rhs;reduce;try simp only[Int.reduceOfNat,Int.reduceNegSucc]⟩:Fx Tryz.f52 [] [] []).v⟩
def x55_0:XC:=(⟨_,by conv=>rhs;reduce;try simp only[Int.reduceOfNat,Int.reduceNegSucc]⟩:Fl Tryz.f55 0 [9] [] []).v
def x55_0d:List Nat:=[12]
def x55:XF:=⟨94,[.tmp 6],[0,1,2,3,4,6,7,9,11,12,14],(fun a=>(⟨_,by conv=>rhs;reduce;try simp only[Int.reduceOfNat,Int.reduceNegSucc]⟩:Fx Tryz.f55 [4,6,13,15] [] [a]).v) x55_0⟩
def x58_0:XC:=(⟨_,by conv=>rhs;reduce;try simp only[Int.reduceOfNat,Int.reduceNegSucc]⟩:Fl Tryz.f58 0 [15] [] []).v
def x58_0d:List Nat:=[4,5]
def x58:XF:=⟨26,[.tmp 4],[0,1,4,5],(fun a=>(⟨_,by conv=>rhs;reduce;try simp only[Int.reduceOfNat,Int.reduceNegSucc]⟩:Fx Tryz.f58 [10] [] [a]).v) x58_0⟩
def x59_0:XC:=(⟨_,by conv=>rhs;reduce;try simp only[Int.reduceOfNat,Int.reduceNegSucc]⟩:Fl Tryz.f59 0 [15] [] []).v
def x59_0d:List Nat:=[4,5]
def x59:XF:=⟨26,[.tmp 4],[0,1,4,5],(fun a=>(⟨_,by conv=>rhs;reduce;try simp only[Int.reduceOfNat,Int.reduceNegSucc]⟩:Fx Tryz.f59 [10] [] [a]).v) x59_0⟩
def x61:XF:=⟨56,[.tmp 2],[0,1,2,3,4,5],(⟨_,by conv=>rhs;reduce;try simp only[Int.reduceOfNat,Int.reduceNegSucc]⟩:Fx Tryz.f61 [10] [] []).v⟩
def x63:XF:=⟨9,[.tmp 3],[0,1,2,3],(⟨_,by conv=>rhs;reduce;try simp only[Int.reduceOfNat,Int.reduceNegSucc]⟩:Fx Tryz.f63 [] [] []).v⟩
def x65:XF:=⟨8,[.tmp 3],[0,1,2,3],(⟨_,by conv=>rhs;reduce;try simp only[Int.reduceOfNat,Int.reduceNegSucc]⟩:Fx Tryz.f65 [] [] []).v⟩
def x72_0:XC:=(⟨_,by conv=>rhs;reduce;try simp only[Int.reduceOfNat,Int.reduceNegSucc]⟩:Fl Tryz.f72 0 [6,10,17] [] []).v
def x72_0d:List Nat:=[2,3,4]
def x72_1:XC:=(⟨_,by conv=>rhs;reduce;try simp only[Int.reduceOfNat,Int.reduceNegSucc]⟩:Fl Tryz.f72 1 [6,10,17] [] []).v
def x72_1d:List Nat:=[2,5,6]
def x72_2:XC:=(⟨_,by conv=>rhs;reduce;try simp only[Int.reduceOfNat,Int.reduceNegSucc]⟩:Fl Tryz.f72 2 [6,15] [] []).v
def x72_2d:List Nat:=[2,7]
def x72:XF:=⟨183,[.tmp 2],[0,1,2,3,4,5,6,7],(fun a b c=>(⟨_,by conv=>rhs;reduce;try simp only[Int.reduceOfNat,Int.reduceNegSucc]⟩:Fx Tryz.f72 [10,15,20,25] [] [a,b,c]).v) x72_0 x72_1 x72_2⟩
def x73_0:XC:=(⟨_,by conv=>rhs;reduce;try simp only[Int.reduceOfNat,Int.reduceNegSucc]⟩:Fl Tryz.f73 0 [6,15] [] []).v
def x73_0d:List Nat:=[4,8]
def x73:XF:=⟨105,[.tmp 4],[0,1,2,3,4,6,7,8],(fun a=>(⟨_,by conv=>rhs;reduce;try simp only[Int.reduceOfNat,Int.reduceNegSucc]⟩:Fx Tryz.f73 [10,12,28,30,46,51,59,61] [] [a]).v) x73_0⟩
def x74_0:XC:=(⟨_,by conv=>rhs;reduce;try simp only[Int.reduceOfNat,Int.reduceNegSucc]⟩:Fl Tryz.f74 0 [15] [] []).v
def x74_0d:List Nat:=[4,5]
def x74:XF:=⟨19,[.tmp 4],[0,1,4,5],(fun a=>(⟨_,by conv=>rhs;reduce;try simp only[Int.reduceOfNat,Int.reduceNegSucc]⟩:Fx Tryz.f74 [] [] [a]).v) x74_0⟩
def x75_1:XC:=(⟨_,by conv=>rhs;reduce;try simp only[Int.reduceOfNat,Int.reduceNegSucc]⟩:Fl Tryz.f75 1 [15] [] []).v
def x75_1d:List Nat:=[4,6]
def x75_0:XC:=(fun a=>(⟨_,by conv=>rhs;reduce;try simp only[Int.reduceOfNat,Int.reduceNegSucc]⟩:Fl Tryz.f75 0 [16,20] [] [a]).v) x75_1
def x75_0d:List Nat:=[4,5,6]
def x75:XF:=⟨40,[.tmp 4],[0,1,4,5,6],(fun a=>(⟨_,by conv=>rhs;reduce;try simp only[Int.reduceOfNat,Int.reduceNegSucc]⟩:Fx Tryz.f75 [] [] [a]).v) x75_0⟩
def x76_1:XC:=(⟨_,by conv=>rhs;reduce;try simp only[Int.reduceOfNat,Int.reduceNegSucc]⟩:Fl Tryz.f76 1 [6,10,20,21] [] []).v
def x76_1d:List Nat:=[11,13,14,15,16,17]
def x76_0:XC:=(fun a=>(⟨_,by conv=>rhs;reduce;try simp only[Int.reduceOfNat,Int.reduceNegSucc]⟩:Fl Tryz.f76 0 [6,12] [] [a]).v) x76_1
def x76_0d:List Nat:=[11,12,13,14,15,16,17]
def x76_2:XC:=(⟨_,by conv=>rhs;reduce;try simp only[Int.reduceOfNat,Int.reduceNegSucc]⟩:Fl Tryz.f76 2 [13] [] []).v
def x76_2d:List Nat:=[19,20]
def x76:XF:=⟨161,[.cell 6 (.st (.cons (.int .i64) (.cons (.sl (.st (.cons (.int .i64) .bool))) (.cons (.sl (.st (.cons (.int .i64) (.int .i64)))) (.sl (.int .i64)))))),.tmp 7,.tmp 8,.tmp 9,.tmp 10],[0,1,2,3,4,6,7,8,9,10,11,12,13,14,15,16,17,19,20,21,22],(fun a b=>(⟨_,by conv=>rhs;reduce;try simp only[Int.reduceOfNat,Int.reduceNegSucc]⟩:Fx Tryz.f76 [2,10,18,26,33,40,48,52] [] [a,b]).v) x76_0 x76_2⟩
def x77:XF:=⟨39,[.tmp 4,.tmp 5],[0,1,2,3,4,5,6,7,9],(⟨_,by conv=>rhs;reduce;try simp only[Int.reduceOfNat,Int.reduceNegSucc]⟩:Fx Tryz.f77 [12,14,16] [] []).v⟩
def x78_0:XC:=(⟨_,by conv=>rhs;reduce;try simp only[Int.reduceOfNat,Int.reduceNegSucc]⟩:Fl Tryz.f78 0 [12,14,16,23,29,37] [] []).v
def x78_0d:List Nat:=[7,11,12,13,14,15,16,42]
def x78_1:XC:=(⟨_,by conv=>rhs;reduce;try simp only[Int.reduceOfNat,Int.reduceNegSucc]⟩:Fl Tryz.f78 1 [12] [] []).v
def x78_1d:List Nat:=[7,18,19,20,117]
def x78:XF:=⟨148,[.cell 6 Z18,.tmp 7],[0,1,2,3,5,6,7,8,9,10,11,12,13,14,15,16,17,18,19,20,40,41,42,116,117],(Ze [Zb 3 (.box 39) [Zc 0],Zb 5 (.box 62) [Zc 2],Zb 6 (.alloc 102 Z18) [],Zb 7 .mv [.int .i64 0]] (.seq (Ze [Zh 21 Z21 3,Za 22 1,Zh 23 Z15 5,Zb 24 (.call 82) [Zc 21,Zc 22,Zc 23],Zb 25 .not [Zc 24]] (.cond (Zc 25) (Ze [Zb 26 (.build Z18 []) [],Zi Z18 6 26,Zb 7 .mv [.int .i64 1]] .ret) .skip)) (.clean (Ze [Zb 27 (.faddr 2 Z20) [Zc 3],Zh 28 Z20 27,Za 29 1,Zb 30 (.iaddr Z19) [Zc 28,Zc 29],Zh 31 Z19 30,Zb 8 (.alloc 115 Z19) [],Zi Z19 8 31] (.clean (Ze [Zb 32 (.faddr 2 Z1) [Zc 8],Zh 33 Z1 32,Zb 34 (.faddr 3 Z1) [Zc 8],Zh 35 Z1 34,Zb 36 (.build Z8 [(0,Z1),(1,Z1)]) [Zc 33,Zc 35],Zb 37 (.bslice 145 Z8 1 [0]) [Zc 36],Zb 38 (.build Z18 [(0,Z9)]) [Zc 37],Zb 9 (.alloc 102 Z18) [],Zi Z18 9 38] (.clean (Ze [Zb 39 (.mkmap .i64 Z1) [],Za 10 39] (.seq (Ze [Zh 40 Z15 5,Zb 41 (.len false) [Zc 40],Zb 42 .mv [.int .i64 0]] (.block 0 (.loop x78_0))) (.clean (.seq (.icall false [Zb 111 (.faddr 2 Z17) [Zc 9],Zh 112 Z17 111] (Zb 113 .callv [.fn 130,Zc 112,.fn 131]) [] 130 x130.n x130.res x130.kv x130.code) (Ze [Zb 114 (.mkfn 132) [Zc 8,Zc 3,Zc 5],Za 17 114] (.seq (Ze [Zh 115 Z15 5,Zb 116 (.len false) [Zc 115],Zb 117 .mv [.int .i64 0]] (.block 3 (.loop x78_1))) (Ze [Zh 147 Z18 9,Zi Z18 6 147,Zb 7 .mv [.int .i64 0]] .ret))))))))))))))⟩
def x80:XF:=⟨41,[.tmp 6],[0,1,2,3,4,5,6,7],(⟨_,by conv=>rhs;reduce;try simp only[Int.reduceOfNat,Int.reduceNegSucc]⟩:Fx Tryz.f80 [] [] []).v⟩
def x81:XF:=⟨36,[.tmp 8],[0,1,2,3,8,9],(⟨_,by conv=>rhs;reduce;try simp only[Int.reduceOfNat,Int.reduceNegSucc]⟩:Fx Tryz.f81 [10,12] [] []).v⟩
def x82:XF:=⟨24,[.tmp 6],[0,1,2,3,6],(⟨_,by conv=>rhs;reduce;try simp only[Int.reduceOfNat,Int.reduceNegSucc]⟩:Fx Tryz.f82 [] [] []).v⟩
def x86:XF:=⟨11,[.tmp 3],[0,1,3],(⟨_,by conv=>rhs;reduce;try simp only[Int.reduceOfNat,Int.reduceNegSucc]⟩:Fx Tryz.f86 [] [] []).v⟩
def x93_0:XC:=(⟨_,by conv=>rhs;reduce;try simp only[Int.reduceOfNat,Int.reduceNegSucc]⟩:Fl Tryz.f93 0 [] [] []).v
def x93_0d:List Nat:=[2,4,7]
def x93:XF:=⟨18,[.tmp 2],[0,2,4,5,6,7],(fun a=>(⟨_,by conv=>rhs;reduce;try simp only[Int.reduceOfNat,Int.reduceNegSucc]⟩:Fx Tryz.f93 [] [] [a]).v) x93_0⟩
def x94_0:XC:=(⟨_,by conv=>rhs;reduce;try simp only[Int.reduceOfNat,Int.reduceNegSucc]⟩:Fl Tryz.f94 0 [] [] []).v
def x94_0d:List Nat:=[2,4,7]
def x94:XF:=⟨18,[.tmp 2],[0,2,4,5,6,7],(fun a=>(⟨_,by conv=>rhs;reduce;try simp only[Int.reduceOfNat,Int.reduceNegSucc]⟩:Fx Tryz.f94 [] [] [a]).v) x94_0⟩
def x95:XF:=⟨26,[.tmp 6],[0,1,2,3,4,6,7],(⟨_,by conv=>rhs;reduce;try simp only[Int.reduceOfNat,Int.reduceNegSucc]⟩:Fx Tryz.f95 [4] [] []).v⟩
def x103:XF:=⟨39,[.tmp 3],[0,1,2,3],(⟨_,by conv=>rhs;reduce;try simp only[Int.reduceOfNat,Int.reduceNegSucc]⟩:Fx Tryz.f103 [] [] []).v⟩
def x104:XF:=⟨54,[.tmp 3],[0,1,2,3,4],(⟨_,by conv=>rhs;reduce;try simp only[Int.reduceOfNat,Int.reduceNegSucc]⟩:Fx Tryz.f104 [4] [] []).v⟩
def x105:XF:=⟨10,[.tmp 2],[0,1,2],(⟨_,by conv=>rhs;reduce;try simp only[Int.reduceOfNat,Int.reduceNegSucc]⟩:Fx Tryz.f105 [] [] []).v⟩
def x113_0:XC:=(⟨_,by conv=>rhs;reduce;try simp only[Int.reduceOfNat,Int.reduceNegSucc]⟩:Fl Tryz.f113 0 [] [] []).v
def x113_0d:List Nat:=[5,7]
def x113:XF:=⟨14,[.tmp 4],[0,1,4,5,6,7],(fun a=>(⟨_,by conv=>rhs;reduce;try simp only[Int.reduceOfNat,Int.reduceNegSucc]⟩:Fx Tryz.f113 [] [] [a]).v) x113_0⟩
def x115:XF:=⟨15,[.tmp 6],[0,1,2,6],(⟨_,by conv=>rhs;reduce;try simp only[Int.reduceOfNat,Int.reduceNegSucc]⟩:Fx Tryz.f115 [] [] []).v⟩
def x116:XF:=⟨5,[.tmp 2],[0,2],(⟨_,by conv=>rhs;reduce;try simp only[Int.reduceOfNat,Int.reduceNegSucc]⟩:Fx Tryz.f116 [] [] []).v⟩
def x117:XF:=⟨17,[.tmp 6],[0,1,2,6],(⟨_,by conv=>rhs;reduce;try simp only[Int.reduceOfNat,Int.reduceNegSucc]⟩:Fx Tryz.f117 [] [] []).v⟩
def x119:XF:=⟨23,[.tmp 6],[0,1,2,3,6],(⟨_,by conv=>rhs;reduce;try simp only[Int.reduceOfNat,Int.reduceNegSucc]⟩:Fx Tryz.f119 [] [] []).v⟩
def x122_0:XC:=(⟨_,by conv=>rhs;reduce;try simp only[Int.reduceOfNat,Int.reduceNegSucc]⟩:Fl Tryz.f122 0 [10,18,19] [] []).v
def x122_0d:List Nat:=[7,9,10]
def x122_1:XC:=(⟨_,by conv=>rhs;reduce;try simp only[Int.reduceOfNat,Int.reduceNegSucc]⟩:Fl Tryz.f122 1 [10,19] [] []).v
def x122_1d:List Nat:=[7,11,12,13]
def x122_3:XC:=(⟨_,by conv=>rhs;reduce;try simp only[Int.reduceOfNat,Int.reduceNegSucc]⟩:Fl Tryz.f122 3 [13] [] []).v
def x122_3d:List Nat:=[15]
def x122_2:XC:=(fun a=>(⟨_,by conv=>rhs;reduce;try simp only[Int.reduceOfNat,Int.reduceNegSucc]⟩:Fl Tryz.f122 2 [14,18] [] [a]).v) x122_3
def x122_2d:List Nat:=[14,15]
def x122:XF:=⟨134,[.cell 6 (.st (.cons (.sl (.st (.cons (.int .i64) (.int .i64)))) (.cons (.sl (.st (.cons (.int .i64) (.int .i64)))) (.sl (.st (.cons (.int .i64) (.cons (.int .i64) (.int .i64)))))))),.tmp 7],[0,1,2,3,6,7,8,9,10,11,12,13,14,15],(fun a b c=>(⟨_,by conv=>rhs;reduce;try simp only[Int.reduceOfNat,Int.reduceNegSucc]⟩:Fx Tryz.f122 [10,17,22] [] [a,b,c]).v) x122_0 x122_1 x122_2⟩
def x124_0:XC:=(⟨_,by conv=>rhs;reduce;try simp only[Int.reduceOfNat,Int.reduceNegSucc]⟩:Fl Tryz.f124 0 [6,10,12,19] [] []).v
def x124_0d:List Nat:=[4,11,12,13]
def x124:XF:=⟨82,[.tmp 4],[0,1,2,4,5,6,7,9,11,12,13],(fun a=>(⟨_,by conv=>rhs;reduce;try simp only[Int.reduceOfNat,Int.reduceNegSucc]⟩:Fx Tryz.f124 [8,10,18] [] [a]).v) x124_0⟩
def x126_0:XC:=(⟨_,by conv=>rhs;reduce;try simp only[Int.reduceOfNat,Int.reduceNegSucc]⟩:Fl Tryz.f126 0 [6,16,17] [] []).v
def x126_0d:List Nat:=[9,10]
def x126:XF:=⟨83,[.tmp 4],[0,1,2,4,5,7,9,10],(fun a=>(⟨_,by conv=>rhs;reduce;try simp only[Int.reduceOfNat,Int.reduceNegSucc]⟩:Fx Tryz.f126 [4,6] [] [a]).v) x126_0⟩
def x127:XF:=⟨82,[.cell 6 (.st (.cons (.int .i64) (.cons (.sl (.st (.cons (.int .i64) .bool))) (.cons (.sl (.st (.cons (.int .i64) (.int .i64)))) (.sl (.int .i64)))))),.tmp 7],[0,1,2,3,6,7,9,10,11],(⟨_,by conv=>rhs;reduce;try simp only[Int.reduceOfNat,Int.reduceNegSucc]⟩:Fx Tryz.f127 [10,12,28,30,38,40,50] [] []).v⟩
def x128_0:XC:=(⟨_,by conv=>rhs;reduce;try simp only[Int.reduceOfNat,Int.reduceNegSucc]⟩:Fl Tryz.f128 0 [14,20,25] [] []).v
def x128_0d:List Nat:=[9,10]
def x128:XF:=⟨58,[.tmp 8],[0,1,2,3,8,9,10],(fun a=>(⟨_,by conv=>rhs;reduce;try simp only[Int.reduceOfNat,Int.reduceNegSucc]⟩:Fx Tryz.f128 [10] [] [a]).v) x128_0⟩
def x131:XF:=⟨10,[.tmp 4],[0,1,2,3,4],(⟨_,by conv=>rhs;reduce;try simp only[Int.reduceOfNat,Int.reduceNegSucc]⟩:Fx Tryz.f131 [] [] []).v⟩
def x132:XF:=⟨31,[.tmp 5],[0,1,2,3,5,6],(⟨_,by conv=>rhs;reduce;try simp only[Int.reduceOfNat,Int.reduceNegSucc]⟩:Fx Tryz.f132 [10,12,20] [] []).v⟩
def x133_0:XC:=(⟨_,by conv=>rhs;reduce;try simp only[Int.reduceOfNat,Int.reduceNegSucc]⟩:Fl Tryz.f133 0 [12,14] [] []).v
def x133_0d:List Nat:=[15,16,39]
def x133:XF:=⟨76,[.cell 8 (.st (.cons (.int .i64) (.int .i64))),.tmp 9],[0,1,2,3,4,7,8,9,10,11,13,15,16,37,38,39],(fun a=>(⟨_,by conv=>rhs;reduce;try simp only[Int.reduceOfNat,Int.reduceNegSucc]⟩:Fx Tryz.f133 [12,14,16,21] [] [a]).v) x133_0⟩
def x136:XF:=⟨8,[.tmp 3],[0,1,2,3],(⟨_,by conv=>rhs;reduce;try simp only[Int.reduceOfNat,Int.reduceNegSucc]⟩:Fx Tryz.f136 [] [] []).v⟩
def x168_0:XC:=(⟨_,by conv=>rhs;reduce;try simp only[Int.reduceOfNat,Int.reduceNegSucc]⟩:Fl Tryz.f168 0 [15] [] []).v
def x168_0d:List Nat:=[12]
def x168:XF:=⟨83,[.cell 8 (.st (.cons (.int .i64) (.int .i64)))],[0,1,2,3,4,8,9,10,11,12],(fun a=>(⟨_,by conv=>rhs;reduce;try simp only[Int.reduceOfNat,Int.reduceNegSucc]⟩:Fx Tryz.f168 [4,12,14,16,24,29] [] [a]).v) x168_0⟩
def x169_0:XC:=(⟨_,by conv=>rhs;reduce;try simp only[Int.reduceOfNat,Int.reduceNegSucc]⟩:Fl Tryz.f169 0 [10,13] [] []).v
def x169_0d:List Nat:=[14,15,16]
def x169:XF:=⟨81,[.cell 8 (.st (.cons (.int .i64) (.int .i64))),.tmp 9],[0,1,2,3,4,7,8,9,10,12,13,14,15,16],(fun a=>(⟨_,by conv=>rhs;reduce;try simp only[Int.reduceOfNat,Int.reduceNegSucc]⟩:Fx Tryz.f169 [10,12,14,22] [] [a]).v) x169_0⟩
def x170:XF:=⟨38,[.tmp 8],[0,1,2,3,4,8,9],(⟨_,by conv=>rhs;reduce;try simp only[Int.reduceOfNat,Int.reduceNegSucc]⟩:Fx Tryz.f170 [10,12,20] [] []).v⟩
def x186_0:XC:=(⟨_,by conv=>rhs;reduce;try simp only[Int.reduceOfNat,Int.reduceNegSucc]⟩:Fl Tryz.f186 0 [9] [] []).v
def x186_0d:List Nat:=[10]
def x186:XF:=⟨61,[.cell 6 (.st (.cons (.int .i64) (.int .i64)))],[0,1,2,3,6,7,8,9,10],(fun a=>(⟨_,by conv=>rhs;reduce;try simp only[Int.reduceOfNat,Int.reduceNegSucc]⟩:Fx Tryz.f186 [4,6] [] [a]).v) x186_0⟩
def x204_0:XC:=(⟨_,by conv=>rhs;reduce;try simp only[Int.reduceOfNat,Int.reduceNegSucc]⟩:Fl Tryz.f204 0 [6,10,11] [] []).v
def x204_0d:List Nat:=[8,9,10]
def x204:XF:=⟨58,[.tmp 6,.tmp 7],[0,1,2,3,6,7,8,9,10],(fun a=>(⟨_,by conv=>rhs;reduce;try simp only[Int.reduceOfNat,Int.reduceNegSucc]⟩:Fx Tryz.f204 [4,6,11] [] [a]).v) x204_0⟩
set_option maxRecDepth 100000
set_option maxHeartbeats 4000000
def z149_0:XC:=(Ze [Zb 9 (.bin .lss) [.t 8,.t 7]] (.seq (.cond (.t 9) .skip (.exit 0)) (.seq (.block 1 (Ze [Za 10 8,Za 5 10] (.seq (.icall false [Za 11 1,Za 12 0,Za 13 5,Zb 14 (.iaddr Z3) [.t 12,.t 13],Zb 15 (.load Z3) [.t 14]] (Zb 16 .callv [.t 11,.t 15]) [] 151 x151.n x151.res x151.kv x151.code) (.cond (.t 16) (Ze [Za 17 5,Za 4 17] .ret) .skip)))) (.reg false [Zb 18 (.bin .add) [.t 8,.int .i64 1],Za 8 18]))))
def z149_0d:List Nat:=[4,5,8]
def z149:XF:=⟨19,[.tmp 4],[0,1,4,5,7,8],(fun a=>(⟨_,by conv=>rhs;reduce;try simp only[Int.reduceOfNat,Int.reduceNegSucc]⟩:Fx Tryz.f149 [] [] [a]).v) z149_0⟩
def z92:XF:=⟨9,[.tmp 4],[0,1,4],(Ze [Zb 4 .mv [.bool false]] (.seq (.icall false [Za 5 0,Za 6 1] (Zb 7 .callv [.fn 149,.t 5,.t 6]) [Zb 8 (.bin .geq) [.t 7,.int .i64 0],Za 4 8] 149 z149.n z149.res z149.kv z149.code) .ret))⟩
def z98_0:XC:=(⟨_,by conv=>rhs;reduce;try simp only[Int.reduceOfNat,Int.reduceNegSucc]⟩:Fl Tryz.f98 0 [] [] []).v
def z98_0d:List Nat:=[4,5,6,21]
def z98:XF:=⟨48,[.tmp 4],[0,1,2,3,4,5,6,19,20,21],(Ze [Zb 2 (.box 102) [Zc 0],Zb 3 (.box 31) [Zc 1],Zb 4 .mv [.bool false]] (.seq (Ze [Zh 7 Z18 2,Zb 8 (.call 53) [Zc 7],Zb 9 .not [Zc 8],Zb 10 .mv [Zc 9],Zf 11 (.load Z5) [Zc 3] 3 10 false,Zf 12 (.len false) [Zc 11] 3 10 false,Zf 13 (.faddr 0 Z9) [Zc 2] 3 10 false,Zf 14 (.load Z9) [Zc 13] 3 10 false,Zf 15 (.len false) [Zc 14] 3 10 false,Zf 16 (.bin .neq) [Zc 12,Zc 15] 3 10 false,Zb 17 .pick [Zc 10,.bool true,Zc 16]] (.cond (Zc 17) (Ze [Zb 4 .mv [.bool false]] .ret) .skip)) (.clean (.seq (Ze [Zb 18 (.faddr 0 Z9) [Zc 2],Zh 19 Z9 18,Zb 20 (.len false) [Zc 19],Zb 21 .mv [.int .i64 0]] (.block 0 (.loop z98_0))) (.clean (.seq (.icall false [Zb 43 (.faddr 2 Z17) [Zc 2],Zh 44 Z17 43,Zb 45 (.mkfn 151) [Zc 3]] (Zb 46 .callv [.fn 92,Zc 44,Zc 45]) [Zb 47 .not [Zc 46],Zb 4 .mv [Zc 47]] 92 z92.n z92.res z92.kv z92.code) .ret))))))⟩
end T
end Go.Proofs.YtpocfbfmjippnaaGreat
end
section
namespace Go.Proofs.YtpocfbfmjippnaaGreat
open Go.RowKit Go.Lib Go.IntWalk
namespace T
set_option maxHeartbeats 2000000 in
set_option maxRecDepth 100000 in
theorem grow_room (base:Option Addr) (l c n:Nat) (w:World) (hlc:l≤c) (hc63:c≤9223372036854775807) (hn63:n≤9223372036854775807) (hroom:l+n≤c):
  Calls Tryz.prog 150 #[.slice base l c,.int .i64 n] w fun e w'=>e= .returned (.slice base l c)∧w'=w:=by
 have h1:¬((n:Int)<0):=by omega
 have h2:wrap64 ((c:Int)-(l:Int))=(c:Int)-(l:Int):=by unfold wrap64;omega
 have h3:wrap64 ((n:Int)-((c:Int)-(l:Int)))=(n:Int)-((c:Int)-(l:Int)):=by unfold wrap64;omega
 have h4:¬((n:Int)-((c:Int)-(l:Int))>0):=by omega
 go_enter Tryz.func150,Tryz.ntmps150
 go_wp2
 go_ret
 exact ⟨rfl,rfl⟩
set_option maxHeartbeats 4000000 in
set_option maxRecDepth 100000 in
theorem grow_grow (base:Option Addr) (l c n:Nat) (cs:List Value) (w:World) (hlc:l≤c) (hroom:c<l+n) (hbig:(l+n)*8≤140737488355328) (h63:l+n≤4611686018427387904)
  (hcl:cs.length=c) (hnil:base=none→c=0) (hcs:∀a,base=some a→∀j v,cs[j]?=some v→w.cell? (a.add j)=some v):
  Calls Tryz.prog 150 #[.slice base l c,.int .i64 n] w fun e w'=>
   e= .returned (.slice (some ⟨w.heap.size,0,none⟩) l (grownCap w (l+n) c 3))∧
   w'=w.drew.alloc (.cells (cs.toArray++Builtin.zeroCells #[.int .i64 0] (l+n-c)++Builtin.zeroCells #[.int .i64 0] (grownCap w (l+n) c 3-(l+n))) 3):=by
 obtain ⟨hu,i0,hi0,hs0⟩:=elemOk_spec (P:=Tryz.prog) (T:=31) (e:=3) (t:=.int .i64) (by kernel_rfl)
 have hz0:(Tryz.prog.info? 3).bind (·.zero)=some (.int .i64 0):=by kernel_rfl
 rw[hi0] at hz0
 have hz0:i0.zero=some (.int .i64 0):=hz0
 have hby:(Tryz.prog.info? 3).map (·.bytes)=some 8:=by kernel_rfl
 rw[hi0] at hby
 simp only[Option.map_some,Option.some.injEq] at hby
 have hs1:i0.size=1:=hs0
 have h1:¬((n:Int)<0):=by omega
 have h2:wrap64 ((c:Int)-(l:Int))=(c:Int)-(l:Int):=by unfold wrap64;omega
 have h3:wrap64 ((n:Int)-((c:Int)-(l:Int)))=(n:Int)-((c:Int)-(l:Int)):=by unfold wrap64;omega
 have h4:(n:Int)-((c:Int)-(l:Int))>0:=by omega
 have hck:c+(l+n-c)=l+n:=by omega
 have hold:(Builtin.firstCells i0.size c (.slice base c c)).run Tryz.prog w.drew= .ok cs.toArray w.drew:=by
  cases base with
  |none=>
   have h0:=hnil rfl;subst h0;have hc0:cs=[]:=List.length_eq_zero_iff.1 (by simpa using hcl);rw[hc0];exact run_firstCells_none w.drew i0.size 0 0 0
  |some a=>exact run_firstCells_some w.drew i0.size c a c c cs (by rw[hs1,Nat.mul_one];exact hcl) (fun j v hj=>hcs a rfl j v hj)
 have t3:Tryz.prog.underlying 3=some (.int .i64):=by kernel_rfl
 have hrz:∀ty,(Builtin.append_ #[31,3] ty #[.slice base c c,.int .i64 ((n:Int)-((c:Int)-(l:Int)))]).run Tryz.prog w=
   .ok (.slice (some ⟨w.heap.size,0,none⟩) (l+n) (grownCap w (l+n) c 3)) (w.drew.alloc (.cells (cs.toArray++Builtin.zeroCells #[.int .i64 0] (l+n-c)++Builtin.zeroCells #[.int .i64 0] (grownCap w (l+n) c 3-(l+n))) 3)):=fun ty=>by
  have h:=Lib.run_append_grow_zeros w 31 3 ty 3 i0 (.int .i64 0) .i64 .i64 hu t3 hi0 hz0 base c c cs hold (l+n-c) (by omega) (by omega) (by omega) (by omega)
   (by
    rw[hby];have:(l+n-c)*8≤(l+n)*8:=Nat.mul_le_mul_right _ (by omega);omega)
   (by rw[hck];exact growslice_fits hroom (by rw[hby];exact hbig))
  rw[hck] at h
  rw[show (n:Int)-((c:Int)-(l:Int))=((l+n-c:Nat):Int) by omega]
  exact h
 have hGn:l+n≤grownCap w (l+n) c 3:=grownCap_ge w _ _ _
 obtain ⟨G,hG⟩:∃G,G=grownCap w (l+n) c 3:=⟨_,rfl⟩
 rw[←hG] at hrz hGn⊢
 have hG63:G≤9223372036854775807:=by
  have:=grownCap_le_maxLen w (l+n) c 3 (by unfold maxLen;omega);rw[←hG] at this;unfold maxLen at this;omega
 clear hold hck hG hcs hcl
 go_enter Tryz.func150,Tryz.ntmps150
 cases base with
 |none=>
  have h0:=hnil rfl
  subst h0
  obtain rfl:l=0:=by omega
  go_wp2_with (at_builtin;refine Lib.wpList_append_run _ rfl _ _ _ _ rfl _ _ rfl rfl _ _ (hrz _) ?_)
  all_goals (go_ret;exact ⟨rfl,rfl⟩)
 |some a=>
  obtain ⟨ab,ao,asp⟩:=a
  go_wp2_with (at_builtin;refine Lib.wpList_append_run _ rfl _ _ _ _ rfl _ _ rfl rfl _ _ (hrz _) ?_)
  all_goals (go_ret;exact ⟨rfl,rfl⟩)
theorem grown_new {w:World} (o:Obj) (row:Option Nat):w.grownBy (w.drew.alloc o) row:=
 ⟨rfl,rfl,rfl,(World.grownBy_alloc w.drew o row).size,fun k hk h=>(World.grownBy_alloc w.drew o row).block k hk h⟩
def entGrow0:Ent:=⟨150,.cons Z5 (.cons Z1 .nil),.sl (.int .i64),true,some 3,fun x=>List.length (α:=Int) x.1=0∧0≤(x.2.1:Int)∧(x.2.1:Int)≤1000000,fun x=>x.1⟩
theorem conGrow0:Con Tryz.prog entGrow0:=by
 unfold Con;rw[if_pos (by rfl)];refine ⟨by kernel_rfl,?_⟩;rintro (x:List Int) ⟨(n:Int),_⟩ ⟨hx,h0,h1⟩ w M v us cells hM hMu hown hrow hargs hplain;have hx:x.length=0:=hx;obtain rfl:x=[]:=List.length_eq_zero_iff.1 hx;obtain rfl:cells=[]:=hrow;have h0:0≤n:=h0;have h1:n≤(1000000:Int):=h1;obtain ⟨n,rfl⟩:∃i:Nat,n=i:=⟨n.toNat,by omega⟩;obtain ⟨u1,us1,rfl,hu1,rfl⟩:=hargs;obtain ⟨rfl,_⟩:=avr_int (P:=Tryz.prog) (hp:=fun _=>none) (ψ:=fun _=>undef) hu1;have big:∀(base:Option Addr) (c:Nat) (cs:List Value),c<0+n→cs.length=c→(base=none→c=0)→(∀a,base=some a→∀j v,cs[j]?=some v→w.cell? (a.add j)=some v)→
   Calls Tryz.prog 150 #[.slice base 0 c,.int .i64 n] w fun e w'=>∃v' cells',e= .returned v'∧w'.ownsRow 0 3 1 v' 0 cells'∧RowsBy (fun x c=>Rd Tryz.prog (.int .i64) w M x c) ([]:List Int) cells'∧w.grownBy w' (Value.slice base 0 c).ownBlock∧(blk v'=blk (.slice base 0 c)∨∃g,blk v'=some g∧w.heap.size≤g):=by
  intro base c cs hroom hcl hnil hcs
  refine (grow_grow base 0 c n cs w (Nat.zero_le _) hroom (by omega) (by omega) hcl hnil hcs).mono ?_
  rintro e w' ⟨rfl,rfl⟩
  have hGn:0+n≤grownCap w (0+n) c 3:=grownCap_ge w _ _ _
  have hG63:=grownCap_le_maxLen w (0+n) c 3 (by unfold maxLen;omega)
  refine ⟨_,[],rfl,?_,rfl,grown_new _ _,.inr ⟨_,rfl,Nat.le_refl _⟩⟩
  refine World.ownsRow_made w.drew _ _ (Nat.zero_le _) hG63 ?_
  simp only[Array.size_append,List.size_toArray,size_zeroCells,hcl,List.size_toArray,List.length_cons,List.length_nil]
  omega
 rcases hown.2 with ⟨rfl,_⟩|⟨g,cap,cur,rfl,_,hg,_,hcap,hcs,_⟩
 ·by_cases hn:n=0
  ·refine (grow_room none 0 0 n w (Nat.le_refl _) (by omega) (by omega) (by omega)).mono ?_;rintro e w' ⟨rfl,rfl⟩;exact ⟨_,[],rfl,hown,rfl,⟨rfl,rfl,rfl,Nat.le_refl _,fun _ _ _=>rfl⟩,.inl rfl⟩
  ·exact big none 0 [] (by omega) rfl (fun _=>rfl) (fun a ha=>by cases ha)
 ·have hcap':cap≤9223372036854775807:=by unfold maxLen at hcap;omega
  by_cases hn:n≤cap
  ·refine (grow_room (some ⟨g,0,none⟩) 0 cap n w (Nat.zero_le _) hcap' (by omega) (by omega)).mono ?_;rintro e w' ⟨rfl,rfl⟩;exact ⟨_,[],rfl,hown,rfl,⟨rfl,rfl,rfl,Nat.le_refl _,fun _ _ _=>rfl⟩,.inl rfl⟩
  ·refine big (some ⟨g,0,none⟩) cap cur.toList (by omega) (by rw[Array.length_toList,hcs];exact Nat.mul_one _) (fun h=>by cases h) ?_;intro a ha j v hv;injection ha with ha;subst ha;rw[Addr.add_lit,Nat.zero_add];unfold World.cell?;simp only[hg];simpa using hv
end T
end Go.Proofs.YtpocfbfmjippnaaGreat
end
section
namespace Go.Proofs.YtpocfbfmjippnaaGreat
namespace T
set_option maxRecDepth 100000
set_option maxHeartbeats 4000000
def u99:XF:=⟨9,[.tmp 3],[0,1,2,3],(⟨_,by conv=>rhs;reduce;try simp only[Int.reduceOfNat,Int.reduceNegSucc]⟩:Fx Tryz.f99 [] [] []).v⟩
def u149_0:XC:=(Ze [Zb 9 (.bin .lss) [.t 8,.t 7]] (.seq (.cond (.t 9) .skip (.exit 0)) (.seq (.block 1 (Ze [Za 10 8,Za 5 10] (.seq (.icall false [Za 11 1,Za 12 0,Za 13 5,Zb 14 (.iaddr Z3) [.t 12,.t 13],Zb 15 (.load Z3) [.t 14]] (Zb 16 .callv [.t 11,.t 15]) [] 99 u99.n u99.res u99.kv u99.code) (.cond (.t 16) (Ze [Za 17 5,Za 4 17] .ret) .skip)))) (.reg false [Zb 18 (.bin .add) [.t 8,.int .i64 1],Za 8 18]))))
def u149_0d:List Nat:=[4,5,8]
def u149:XF:=⟨19,[.tmp 4],[0,1,4,5,7,8],(fun a=>(⟨_,by conv=>rhs;reduce;try simp only[Int.reduceOfNat,Int.reduceNegSucc]⟩:Fx Tryz.f149 [] [] [a]).v) u149_0⟩
def u92:XF:=⟨9,[.tmp 4],[0,1,4],(Ze [Zb 4 .mv [.bool false]] (.seq (.icall false [Za 5 0,Za 6 1] (Zb 7 .callv [.fn 149,.t 5,.t 6]) [Zb 8 (.bin .geq) [.t 7,.int .i64 0],Za 4 8] 149 u149.n u149.res u149.kv u149.code) .ret))⟩
def u54:XF:=⟨30,[.tmp 4],[0,1,2,3,4,5,6,7],(Ze [Zb 2 (.box 102) [Zc 0],Zb 3 (.box 31) [Zc 1],Zb 4 .mv [.bool false]] (.seq (.reg true [Zb 8 (.faddr 1 Z9) [Zc 2],Zg 9 (.load Z9) [Zc 8] [0],Zg 10 (.call 93) [Zc 9] [1,0],Zb 11 (.faddr 1 Z9) [Zc 2],Zg 12 (.load Z9) [Zc 11] [3],Zg 13 (.call 94) [Zc 12] [4,3,2,1,0],Zb 5 (.alloc 31 Z5) [],Zb 6 (.alloc 31 Z5) [],⟨none,.store Z5,[Zc 5,Zc 10],none,[6,2,1,0,5,4,3,7]⟩,⟨none,.store Z5,[Zc 6,Zc 13],none,[7,5,4,3,2,1,0,8,6]⟩]) (.clean (Ze [Zb 14 (.mkfn 95) [Zc 2,Zc 3,Zc 5,Zc 6],Zb 7 (.allocz 143 2) [],⟨none,.store (.fn .nil .nil),[Zc 7,Zc 14],none,[]⟩] (.seq (Ze [Zb 15 (.load (.fn .nil .nil)) [Zc 7],Zb 16 .callv [Zc 15,.int .i64 0],Zb 17 .not [Zc 16],Zb 18 .mv [Zc 17],⟨some 19,.load (.fn .nil .nil),[Zc 7],some (3,18,false),[]⟩,⟨some 20,.load Z5,[Zc 5],some (3,18,false),[]⟩,⟨some 21,.len false,[Zc 20],some (3,18,false),[]⟩,⟨some 22,.callv,[Zc 19,Zc 21],some (3,18,false),[]⟩,⟨some 23,.not,[Zc 22],some (3,18,false),[]⟩,Zb 24 .pick [Zc 18,.bool true,Zc 23]] (.cond (Zc 24) (Ze [Zb 4 .mv [.bool false]] .ret) .skip)) (.clean (.seq (.icall false [Zb 25 (.faddr 2 Z17) [Zc 2],Zb 26 (.load Z17) [Zc 25],Zb 27 (.mkfn 99) [Zc 7]] (Zb 28 .callv [.fn 92,Zc 26,Zc 27]) [Zb 29 .not [Zc 28],Zb 4 .mv [Zc 29]] 92 u92.n u92.res u92.kv u92.code) .ret)))))))⟩
end T
end Go.Proofs.YtpocfbfmjippnaaGreat
end
section
namespace Go.Proofs.YtpocfbfmjippnaaGreat
open Go.RowKit
namespace T
set_option maxHeartbeats 4000000 in
set_option maxRecDepth 100000 in
theorem len64_any (x:Int) (w:World) (h0:0≤x) (h1:x≤255):
  Calls Tryz.prog 216 #[.int .u64 x] w fun e w'=>e= .returned (.int .i64 (Lib.bitLen x.toNat))∧w'=w:=by
 have c1:¬x≥4294967296:=by omega
 have c2:¬x≥65536:=by omega
 have c3:¬x≥256:=by omega
 go_enter Tryz.func216,Tryz.ntmps216
 go_wp2
 all_goals (go_ret;refine ⟨congrArg Ending.returned (congrArg (Value.int IntKind.i64) ?_),rfl⟩)
 have l:=Lib.bitLen_le8' x h0 h1
 rw[Lib.len8_of x h0 h1]
 unfold wrap64
 omega
theorem len_any (x:Int) (w:World) (h0:0≤x) (h1:x≤255):
  Calls Tryz.prog 183 #[.int .u64 x] w fun e w'=>e= .returned (.int .i64 (Lib.bitLen x.toNat))∧w'=w:=by
 go_enter Tryz.func183,Tryz.ntmps183
 go_wp2_with (go_at_call 216;refine (len64_any x _ h0 h1).mono ?_;rintro e w' ⟨rfl,rfl⟩)
 go_ret
 exact ⟨rfl,rfl⟩
def entBLen:Ent:=⟨183,.cons (.int .u64) .nil,.int .i64,false,none,fun x=>0≤(x.1:Int)∧(x.1:Int)≤255,fun x=>((Lib.bitLen (x.1:Int).toNat:Nat):Int)⟩
theorem conBLen:Con Tryz.prog entBLen:=by
 refine Con.to ?_ (by rfl);refine ⟨by kernel_rfl,?_⟩;rintro ⟨(x:Int),_⟩ ⟨h0,h1⟩ w M vs hM hargs;replace h0:0≤x:=h0;replace h1:x≤(255:Int):=h1;obtain ⟨u1,us1,rfl,hu1,rfl⟩:=hargs;obtain ⟨rfl,_⟩:=avr_int (P:=Tryz.prog) (hp:=fun _=>none) (ψ:=fun _=>undef) hu1;refine (len_any x w h0 (by omega)).mono ?_;rintro e w' ⟨rfl,rfl⟩;refine ⟨_,rfl,Below.refl _ _,?_⟩;show RdV Tryz.prog (.int .i64) w' M ((Lib.bitLen x.toNat:Nat):Int) (.int .i64 (Lib.bitLen x.toNat));have l:=Lib.bitLen_le8' x h0 h1;exact int_avr (hp:=fun _=>none) (ψ:=fun _=>undef) ⟨by show (-9223372036854775808:Int)≤_;omega,by show _≤(9223372036854775807:Int);omega⟩
theorem locsL_own {l k:Nat}:∀{avs:List AV} {u:Nat},k∈AV.locsL (avs.set u (.own l))→k∈AV.locsL avs∨k=l
 |[],_,h=>.inl h
 |x::r,0,h=>by
  rw[List.set_cons_zero,AV.locsL] at h;rw[AV.locsL];rcases List.mem_append.1 h with h|h
  ·exact .inr (by simpa [AV.locs] using h)
  ·exact .inl (List.mem_append_right _ h)
 |x::r,u+1,h=>by
  rw[List.set_cons_succ,AV.locsL] at h;rw[AV.locsL];rcases List.mem_append.1 h with h|h
  ·exact .inl (List.mem_append_left _ h)
  ·rcases locsL_own h with h|h
   ·exact .inl (List.mem_append_right _ h)
   ·exact .inr h
theorem XW_nilb {P:Program} {C:List Ent} {n:Nat} {c:XC} {Q:XQ} {st:AS} (m u:Nat) (e:TypeId) (t:Ty) {T:TypeId} {cs:List AV} (h1:look st.hp m=some (.box T cs)) (hu:cs[u]?=some (.cst (.slice none 0 0)))
  (h:XW P C n c Q ⟨st.tm,appL ⟨.top,[],some (m,.box T (cs.set u (.own st.nx)))⟩ ((st.nx,.row e t [])::st.hp),st.nx+1+1,st.kv⟩):XW P C n c Q st:=by
 intro code hc hC B M w0 ψ a w s ro hR
 have c0:=sim_ctx s
 have hnew:=c0.new
 have hM:(fun x=>M x∧blk (Value.slice none 0 0)≠some x)=M:=by
  funext x;simp[blk]
 have s1:=Sim.adopt s (ob:=.row e t []) (u:=.slice none 0 0) (fun b hb=>by simp[blk] at hb) (fun k hk=>by simp[OB.locs] at hk)
  ⟨[],by rw[upd'_same];exact ⟨by simp,.inl ⟨rfl,rfl⟩⟩,rfl⟩
 rw[hM] at s1
 have s1:=Sim.base s1 s.bel
 have c1:=sim_ctx s1
 have hne:m≠st.nx:=fun q=>by rw[q,hnew] at h1;cases h1
 have h1':look ((st.nx,.row e t [])::st.hp) m=some (.box T cs):=by rw[look_cons,putHp_other _ _ hne];exact h1
 have hob:=s1.hok.ob m _ h1'
 obtain ⟨b,cells,e1,hB,hg,q,q1⟩:=hob
 obtain ⟨v,hv,hav⟩:=q.at hu
 have hvn:v= .slice none 0 0:=hav
 subst hvn
 have op:OpPost P B M (look ((st.nx,.row e t [])::st.hp)) (upd' ψ st.nx (.slice none 0 0)) w (st.nx+1) ⟨.top,[],some (m,.box T (cs.set u (.own st.nx)))⟩ undef w:=by
  refine c1.write (ob:=.box T (cs.set u (.own st.nx))) h1' trivial (by simp) rfl rfl rfl (Nat.le_refl _) (fun _ _ _=>rfl) (fun hlt=>⟨b,cells,e1,hB,hg,?_,q1⟩) (fun _=>trivial);have hk:=put_kind (fr:=st.nx+1) (ks:=[]) h1' (ob:=.box T (cs.set u (.own st.nx))) trivial;refine AVRs.put (AVRs.later hlt (fun _ _=>rfl) hk (c1.obs m _ h1') q) hv ?_;intro ob _;exact (upd'_same _ _ _).symm
 obtain ⟨ψ',hs⟩:=s1.step (d:=none) (v:=undef) (A':=fun l=>l<st.nx+1+1) (Nat.lt_irrefl _) (fun _ e=>by cases e) (fun _ h=>Nat.lt_succ_of_lt h) (Nat.lt_succ_self _) (fun l' _ e=>by injection e with e;injection e with e e';subst e;exact Nat.lt_succ_of_lt (s1.hlt _ _ h1').1) (fun _ h=>by simp[AV.locs] at h)
  (fun l' ob' e k hk=>by
   injection e with e;injection e with e e';subst e';rcases locsL_own hk with hk|rfl
   ·exact Nat.lt_succ_of_lt ((s1.hlt _ _ h1').2 k hk)
   ·omega) op
 refine h code hc hC B M w0 ψ' a w ?_ ro hR
 unfold Sim
 dsimp only
 rw[look_app]
 exact hs
end T
end Go.Proofs.YtpocfbfmjippnaaGreat
end
section
namespace Go.Proofs.YtpocfbfmjippnaaGreat
namespace T
set_option maxRecDepth 100000
set_option maxHeartbeats 4000000
def z56_0:XC:=(⟨_,by conv=>rhs;reduce;try simp only[Int.reduceOfNat,Int.reduceNegSucc]⟩:Fl Tryz.f56 0 [] [] []).v
def z56_0d:List Nat:=[6,24]
def z56_3:XC:=(⟨_,by conv=>rhs;reduce;try simp only[Int.reduceOfNat,Int.reduceNegSucc]⟩:Fl Tryz.f56 3 [9] [] []).v
def z56_3d:List Nat:=[12]
def z56_2:XC:=(fun a=>(⟨_,by conv=>rhs;reduce;try simp only[Int.reduceOfNat,Int.reduceNegSucc]⟩:Fl Tryz.f56 2 [24] [] [a]).v) z56_3
def z56_2d:List Nat:=[2,3,11,12,65]
def z56_1:XC:=(fun a=>(⟨_,by conv=>rhs;reduce;try simp only[Int.reduceOfNat,Int.reduceNegSucc]⟩:Fl Tryz.f56 1 [10,14] [] [a]).v) z56_2
def z56_1d:List Nat:=[2,3,9,11,12,63,64,65]
def z56_4:XC:=(⟨_,by conv=>rhs;reduce;try simp only[Int.reduceOfNat,Int.reduceNegSucc]⟩:Fl Tryz.f56 4 [] [] []).v
def z56_4d:List Nat:=[2,3,15,16,119]
def z56:XF:=⟨134,[.tmp 2,.tmp 3],[0,1,2,3,4,6,7,8,9,11,12,13,15,16,22,23,24,63,64,65,117,118,119],(fun a b c=>(⟨_,by conv=>rhs;reduce;try simp only[Int.reduceOfNat,Int.reduceNegSucc]⟩:Fx Tryz.f56 [10,17,26,28,33] [26] [a,b,c]).v) z56_0 z56_1 z56_4⟩
end T
end Go.Proofs.YtpocfbfmjippnaaGreat
end
section
namespace Go.Proofs.YtpocfbfmjippnaaGreat
open Go.RowKit Go.Lib
namespace T
set_option maxRecDepth 100000
theorem wpList_copyI (w:World) {P:Program} {ops:Array Oper} {rest:List Oper} {o:Oper} {a:Act} {Q:Exit→Act→World→Prop} (hgd:o.guard=none) (d s:Operand) (t t':TypeId)
  (ho:o.op= .call { callee:=.builtin .copy,args:=#[d,s],argTypes:=#[t,t'] }) (v u:Value) (hd:a.eval d=v) (hs:a.eval s=u) {v':Value} {w':World}
  (hr:(Builtin.copy_ #[t,t'] o.type #[v,u]).run P w= .ok v' w') (h:wpList P ops Q rest (a.put o.dst v') w'):wpList P ops Q (o::rest) a w:=
 wpList_plain hgd fun _ hK=>by
  unfold Oper.wp execOp;simp only[ho,resolve,invoke,builtin,Sem.run_bind,Sem.run_pure,Result.andThen_ok,List.map_toArray,List.map_cons,List.map_nil,hd,hs,hr];exact hK _ _ h
theorem step_copyI {P:Program} {ops:Array Oper} {o:Oper} {a:Act} {w:World} {K:Act→World→Prop} {Q:Exit→Act→World→Prop} {E:Prop}
  (hg:o.guard=none) (d x:Operand) (dT sT:TypeId) (hop:o.op=Op.call { callee:=Callee.builtin Builtin.copy,args:=#[d,x],argTypes:=#[dT,sT] })
  (v u:Value) (hd:a.eval d=v) (hx:a.eval x=u) {v':Value} {w':World} (hr:(Builtin.copy_ #[dT,sT] o.type #[v,u]).run P w= .ok v' w') (hK:K (a.put o.dst v') w'):
  if Region.wanted o (yielded ops a.tmps)=true then Oper.wp P o a w K Q else E:=by
 have hw:Region.wanted o (yielded ops a.tmps)=true:=by simp[Region.wanted,hg]
 rw[if_pos hw]
 unfold Oper.wp
 simp[execOp,hop,resolve,invoke,builtin,hd,hx,hr,Result.andThen]
 exact hK
theorem insStop_end {w:World} {v:Value} {n:Nat} {cells vs:List Value} (hown:w.ownsRow 0 68 2 v n cells) {vb voff vc:Nat} (hvl:vs.length=2) (hvs:∀j u,vs[j]?=some u→w.cell? ((⟨vb,voff,none⟩:Addr).add j)=some u) (h1:∀u∈vs,u.oneCell'=true) (hb:(n+1)*16≤140737488355328):
  Calls Tryz.prog 137 #[v,.int .i64 n,.slice (some ⟨vb,voff,none⟩) 1 vc] w fun e w'=>∃v',e= .returned v'∧w'.ownsRow 0 68 2 v' (n+1) (cells++vs)∧w.grownBy w' v.ownBlock∧Near w v v':=by
 obtain ⟨hu,i,hi,his⟩:=elemOk_spec (P:=Tryz.prog) (T:=62) (e:=68) (t:=Z2) (by kernel_rfl)
 obtain ⟨i',z,hi',hz',hrd⟩:=zeroIs_spec (P:=Tryz.prog) (T:=68) (t:=Z2) (by kernel_rfl)
 rw[hi] at hi';injection hi' with hi';subst hi'
 have hzs:z.cells.size=2:=by have:=(hrd w (fun _=>False)).len;simpa [Ty.size] using this
 have hby:(Tryz.prog.info? 68).map (·.bytes)=some 16:=by kernel_rfl
 rw[hi] at hby
 simp only[Option.map_some,Option.some.injEq] at hby
 obtain ⟨v',w',hr,k1,k2,k3⟩:=append_near (P:=Tryz.prog) (w:=w) 0 62 62 68 i z 2 16 hu hi hz' his hby hzs (by omega) v n cells hown ⟨vb,voff,none⟩ 1 vc vs (by rw[hvl]) hvs h1 (by simp only[maxLen];omega) hb (Nat.zero_le _)
 obtain ⟨A,c,rfl⟩:=ownsRow_slice hown
 rcases hown.2 with ⟨q,q'⟩|⟨g,cap,cur,q,_,hg,hnc,hcap,_⟩
 ·injection q with q1 q2 q3
  subst q1;subst q3;subst q'
  go_enter Tryz.func137,Tryz.ntmps137
  go_wp2_with (at_builtin;refine Lib.wpList_append_run _ rfl _ _ _ _ rfl _ _ rfl rfl _ _ hr ?_)
  go_ret
  exact ⟨_,rfl,k1,k2,k3⟩
 ·injection q with q1 q2 q3
  subst q1;subst q3
  simp only[maxLen] at hcap
  go_enter Tryz.func137,Tryz.ntmps137
  go_wp2_with (at_builtin;refine Lib.wpList_append_run _ rfl _ _ _ _ rfl _ _ rfl rfl _ _ hr ?_)
  all_goals (go_ret;exact ⟨_,rfl,k1,k2,k3⟩)
set_option maxHeartbeats 4000000 in
set_option maxRecDepth 100000 in
theorem insStop_shift {w:World} {g n cap i:Nat} {cur:Array Value} (hg:w.heap[g]?=some (.cells cur 68 (0,0))) (hcs:cur.size=cap*2) (hroom:n+1≤cap) (hcap:cap≤9223372036854775807) (hi:i<n) (h1c:∀u∈cur.toList.take (n*2),u.oneCell'=true)
  {vs:List Value} {vb voff vc:Nat} (hvl:vs.length=2) (hvs:∀j u,vs[j]?=some u→w.cell? ((⟨vb,voff,none⟩:Addr).add j)=some u) (h1:∀u∈vs,u.oneCell'=true) {curv:Array Value} {ev:TypeId} (hgv:w.heap[vb]?=some (.cells curv ev (0,0))) (hne:vb≠g):
  Calls Tryz.prog 137 #[.slice (some ⟨g,0,none⟩) n cap,.int .i64 i,.slice (some ⟨vb,voff,none⟩) 1 vc] w fun e w'=>e= .returned (.slice (some ⟨g,0,none⟩) (n+1) cap)∧
   ∃cur':Array Value,w'.heap[g]?=some (.cells cur' 68 (0,0))∧cur'.size=cap*2∧cur'.toList.take ((n+1)*2)=cur.toList.take ((i*2))++vs++(cur.toList.take (n*2)).drop ((i*2))∧w.grownBy w' (some g):=by
 obtain ⟨hu,inf,hin,his⟩:=elemOk_spec (P:=Tryz.prog) (T:=62) (e:=68) (t:=Z2) (by kernel_rfl)
 have his:inf.size=2:=his
 have hszE:∀w:World,(Go.sizeOf 68).run Tryz.prog w= .ok 2 w:=fun w=>by simp[sizeOf,typeInfo,hin,his]
 have hov:∀o lb cb,(callFunc 188 #[.slice (some ⟨vb,voff,none⟩) 1 vc,.slice (some ⟨g,o,none⟩) lb cb]).run Tryz.prog w= .ok (.value (.bool false)) w:=fun o lb cb=>by
  rw[run_callFunc_extern Tryz.func188 (by kernel_rfl) (by kernel_rfl) (by kernel_rfl) (e:=Extern.SlicesOverlaps.overlaps #[62,62] #[4]) (by kernel_rfl),
   Lib.run_overlaps_apart w 62 4 68 hu 2 hszE ⟨vb,voff,none⟩ ⟨g,o,none⟩ 1 vc lb cb hne ev 68 curv.size cur.size (by simp[World.shape?,hgv]) (by simp[World.shape?,hg]) (by omega) (by simp[World.frozen?,hgv]) (by simp[World.frozen?,hgv])]
  rfl
 obtain ⟨C,hC⟩:∃C,C=cur.toList.take (n*2):=⟨_,rfl⟩
 have hCl:C.length=n*2:=by rw[hC,List.length_take,Array.length_toList];omega
 rw[←hC] at h1c⊢
 have hCat:∀k v,C[k]?=some v→cur[k]?=some v:=fun k v h=>by
  rw[hC,List.getElem?_take] at h;split at h
  ·simpa using h
  ·cases h
 obtain ⟨c1,hc1⟩:∃c1:Array Value,c1=(cur.toList.take (((i+1)*2))++C.drop ((i*2))++cur.toList.drop (((i+1)*2)+(C.drop ((i*2))).length)).toArray:=⟨_,rfl⟩
 have hgD:w.drew.heap[g]?=some (.cells cur 68 (0,0)):=hg
 have hcp1:∀ty dc sc,(Builtin.copy_ #[62,62] ty #[.slice (some ⟨g,((i+1)*2),none⟩) (n-i) dc,.slice (some ⟨g,(i*2),none⟩) (n+1-i) sc]).run Tryz.prog w.drew= .ok (goInt (Nat.min (n+1-i) (n-i):Nat)) (w.drew.setRow g c1):=fun ty dc sc=>by
  rw[hc1];exact run_copy_sized (P:=Tryz.prog) (w:=w.drew) (T':=62) (ty:=ty) (oc:=id) hu hin his (o:=((i+1)*2)) (dLen:=n-i) (dCap:=dc) (sLen:=n+1-i) (sCap:=sc) (a:=⟨g,(i*2),none⟩) (cs:=C.drop ((i*2))) hgD
   (by rw[List.length_drop,hCl,show Nat.min (n+1-i) (n-i)=n-i from Nat.min_eq_right (by omega)];omega)
   (fun j v hj=>by
    rw[List.getElem?_drop] at hj;have:=hCat _ _ hj;rw[Addr.add_lit];simp[World.cell?,hgD,this])
   (by rw[List.length_drop,hCl,hcs];omega) (fun v hv=>h1c v (List.mem_of_mem_drop hv))
 have hc1s:c1.size=cap*2:=by
  rw[hc1];simp only[List.size_toArray,List.length_append,List.length_take,List.length_drop,Array.length_toList,hCl,hcs];omega
 have hg1:(w.drew.setRow g c1).heap[g]?=some (.cells c1 68 (0,0)):=setRow_heap _ _ _ _ _ _ hgD
 obtain ⟨c2,hc2⟩:∃c2:Array Value,c2=(c1.toList.take ((i*2))++vs++c1.toList.drop ((i*2)+vs.length)).toArray:=⟨_,rfl⟩
 have hcp2:∀ty dc,(Builtin.copy_ #[62,62] ty #[.slice (some ⟨g,(i*2),none⟩) (n+1-i) dc,.slice (some ⟨vb,voff,none⟩) 1 vc]).run Tryz.prog (w.drew.setRow g c1)= .ok (goInt (Nat.min 1 (n+1-i):Nat)) ((w.drew.setRow g c1).setRow g c2):=fun ty dc=>by
  rw[hc2];exact run_copy_sized (P:=Tryz.prog) (w:=w.drew.setRow g c1) (T':=62) (ty:=ty) (oc:=id) hu hin his (o:=(i*2)) (dLen:=n+1-i) (dCap:=dc) (sLen:=1) (sCap:=vc) (a:=⟨vb,voff,none⟩) (cs:=vs) hg1
   (by rw[hvl,show Nat.min 1 (n+1-i)=1 from Nat.min_eq_left (by omega)])
   (fun j v hj=>by
    have:=hvs j v hj;rwa [World.cell?_of_block (w:=w) (a:=(⟨vb,voff,none⟩:Addr).add j) (by rw[Addr.add_lit,setRow_other _ _ _ _ hne];rfl)])
   (by rw[hvl,hc1s];omega) h1
 have a1:(cur.toList.take ((i+1)*2)).length=((i+1)*2):=by rw[List.length_take,Array.length_toList];omega
 have e1:c1.toList.take (i*2)=cur.toList.take (i*2):=by
  rw[hc1,List.append_assoc,List.take_append_of_le_length (by omega),List.take_take,Nat.min_eq_left (by omega)]
 have e2:c1.toList.drop ((i*2)+vs.length)=C.drop (i*2)++cur.toList.drop (((i+1)*2)+(C.drop (i*2)).length):=by
  rw[hc1,hvl,show (i*2)+2=((i+1)*2) by omega,List.append_assoc];exact List.drop_left' a1
 have hc2s:c2.size=cap*2:=by
  rw[hc2];simp only[List.size_toArray,List.length_append,List.length_take,List.length_drop,Array.length_toList,hvl,hc1s];omega
 have hc2t:c2.toList.take ((n+1)*2)=cur.toList.take (i*2)++vs++C.drop (i*2):=by
  rw[hc2,e1,e2,←List.append_assoc];refine List.take_left' ?_;simp only[List.length_append,List.length_take,List.length_drop,Array.length_toList,hvl,hCl];omega
 have mixed:Tryz.prog.follows Departure.mixedOrders=true:=by kernel_rfl
 have hw1:IntKind.i64.wrap ((i:Int)+1)=(i:Int)+1:=by rw[IntKind.wrap_i64];omega
 have hb1:(0:Int)≤(i:Int)+1:=by omega
 have hin':i≤n:=by omega
 have htn:((i:Int)+1).toNat=i+1:=by omega
 have hb2:¬(cap=i+1):=by omega
 have hb3:(i:Int)≤(n:Int)+1:=by omega
 have hb4:¬(cap=i):=by omega
 clear hc1 hc2
 go_enter Tryz.func137,Tryz.ntmps137
 go_wp2_with (simp only[hov])
 go_region_law_o (refine step_copyI rfl _ _ 62 62 rfl _ _ (by simp[Act.eval,Act.put]) (by simp[Act.eval,Act.put]) (hcp1 _ _ _) ?_)
 go_wp2_with (at_builtin;refine wpList_copyI _ rfl _ _ 62 62 rfl _ _ rfl rfl (hcp2 _ _) ?_)
 go_ret
 refine ⟨rfl,c2,setRow_heap _ _ _ _ _ _ hg1,hc2s,hc2t,⟨rfl,rfl,rfl,by simp,fun k hk hn=>?_⟩⟩
 have hkg:k≠g:=fun e=>hn (by rw[e])
 rw[setRow_other _ _ _ _ hkg,setRow_other _ _ _ _ hkg];rfl
set_option maxHeartbeats 4000000 in
set_option maxRecDepth 100000 in
theorem insStop_grow {w:World} {g n cap i:Nat} {cur:Array Value} (hg:w.heap[g]?=some (.cells cur 68 (0,0))) (hcs:cur.size=cap*2) (hnc:n≤cap) (hroom:cap<n+1) (hcap:cap≤9223372036854775807) (hi:i<n) (hbig:(n+1)*16≤140737488355328) (h1c:∀u∈cur.toList.take (n*2),u.oneCell'=true)
  {vs:List Value} {vb voff vc:Nat} (hvl:vs.length=2) (hvs:∀j u,vs[j]?=some u→w.cell? ((⟨vb,voff,none⟩:Addr).add j)=some u) (h1:∀u∈vs,u.oneCell'=true) (hvw:vb<w.heap.size):
  Calls Tryz.prog 137 #[.slice (some ⟨g,0,none⟩) n cap,.int .i64 i,.slice (some ⟨vb,voff,none⟩) 1 vc] w fun e w'=>∃c',e= .returned (.slice (some ⟨w.heap.size,0,none⟩) (n+1) c')∧
   ∃cur':Array Value,w'.heap[w.heap.size]?=some (.cells cur' 68 (0,0))∧(n+1≤c'∧c'≤maxLen)∧cur'.size=c'*2∧cur'.toList.take ((n+1)*2)=cur.toList.take (i*2)++vs++(cur.toList.take (n*2)).drop (i*2)∧w.grownBy w' none:=by
 obtain ⟨hu,inf,hin,his⟩:=elemOk_spec (P:=Tryz.prog) (T:=62) (e:=68) (t:=Z2) (by kernel_rfl)
 have his:inf.size=2:=his
 obtain ⟨i',z,hi',hz',hrd⟩:=zeroIs_spec (P:=Tryz.prog) (T:=68) (t:=Z2) (by kernel_rfl)
 rw[hin] at hi';injection hi' with hi';subst hi'
 have hzs:z.cells.size=2:=by have:=(hrd w (fun _=>False)).len;simpa [Ty.size] using this
 have hby:(Tryz.prog.info? 68).map (·.bytes)=some 16:=by kernel_rfl
 rw[hin] at hby
 simp only[Option.map_some,Option.some.injEq] at hby
 obtain ⟨C,hC⟩:∃C,C=cur.toList.take (n*2):=⟨_,rfl⟩
 have hCl:C.length=n*2:=by rw[hC,List.length_take,Array.length_toList];omega
 rw[←hC] at h1c⊢
 have hCat:∀k v,C[k]?=some v→cur[k]?=some v:=fun k v h=>by
  rw[hC,List.getElem?_take] at h;split at h
  ·simpa using h
  ·cases h
 have hgw:g<w.heap.size:=lt_of_block hg
 have hold:(Builtin.firstCells inf.size i (.slice (some ⟨g,0,none⟩) i cap)).run Tryz.prog w.drew= .ok (cur.toList.take (i*2)).toArray w.drew:=by
  rw[his];exact run_firstCells_some w.drew 2 i ⟨g,0,none⟩ i cap (cur.toList.take (i*2)) (by rw[List.length_take,Array.length_toList];omega) (fun j v hj=>by
   rw[Addr.add_lit];rw[List.getElem?_take] at hj;split at hj
   ·have:w.drew.heap[g]?=some (.cells cur 68 (0,0)):=hg;have hj:cur[j]?=some v:=by simpa using hj
    simp[World.cell?,this,hj]
   ·cases hj)
 have hrz:∀ty,(Builtin.append_ #[62,3] ty #[.slice (some ⟨g,0,none⟩) i cap,.int .i64 ((n:Int)+1-(i:Int))]).run Tryz.prog w= .ok (.slice (some ⟨w.heap.size,0,none⟩) (n+1) (grownCap w (n+1) cap 68)) (w.drew.alloc (.cells ((cur.toList.take (i*2)).toArray++Builtin.zeroCells z.cells (n+1-i)++Builtin.zeroCells z.cells (grownCap w (n+1) cap 68-(n+1))) 68)):=fun ty=>by
  have h:=Lib.run_append_grow_zeros w 62 3 ty 68 inf z .i64 .i64 hu Tryz.underlying3 hin hz' (some ⟨g,0,none⟩) i cap (cur.toList.take (i*2)) hold (n+1-i) (by omega) (by omega) (by omega) (by omega) (by rw[hby];omega) (by rw[hby,show i+(n+1-i)=n+1 by omega];exact growslice_fits hroom hbig);rw[show i+(n+1-i)=n+1 by omega] at h;rw[show (n:Int)+1-(i:Int)=((n+1-i:Nat):Int) by omega];exact h
 obtain ⟨G,hG⟩:∃G,G=grownCap w (n+1) cap 68:=⟨_,rfl⟩
 obtain ⟨R0,hR0⟩:∃R0:Array Value,R0=(cur.toList.take (i*2)).toArray++Builtin.zeroCells z.cells (n+1-i)++Builtin.zeroCells z.cells (G-(n+1)):=⟨_,rfl⟩
 rw[←hG] at hrz
 rw[←hR0] at hrz
 have hGn:n+1≤G:=by rw[hG];exact grownCap_ge w _ _ _
 have hGm:G≤maxLen:=by rw[hG];exact grownCap_le_maxLen w (n+1) cap 68 (by unfold maxLen;omega)
 have hG63:G≤9223372036854775807:=by unfold maxLen at hGm;omega
 have hz0:∀k,(Builtin.zeroCells z.cells k).size=k*2:=fun k=>by simp[Builtin.zeroCells,hzs]
 have hR0s:R0.size=G*2:=by
  rw[hR0];simp only[Array.size_append,List.size_toArray,List.length_take,Array.length_toList,hz0];omega
 have hR0t:R0.toList.take (i*2)=cur.toList.take (i*2):=by
  rw[hR0,Array.append_assoc,Array.toList_append];exact List.take_left' (by rw[List.length_take,Array.length_toList];omega)
 obtain ⟨W1,hW1⟩:∃W1,W1=w.drew.alloc (.cells R0 68):=⟨_,rfl⟩
 rw[←hW1] at hrz
 have hN1:W1.heap[w.heap.size]?=some (.cells R0 68 (0,0)):=by rw[hW1];exact (Array.getElem?_push_size ..)
 have hO1:∀b,b<w.heap.size→W1.heap[b]?=w.heap[b]?:=fun b hb=>by rw[hW1];exact Below.heap_alloc w _ b hb
 obtain ⟨r1,hr1⟩:∃r1:Array Value,r1=(R0.toList.take (i*2)++vs++R0.toList.drop ((i*2)+vs.length)).toArray:=⟨_,rfl⟩
 have hcpA:∀(W:World),(∀b:Nat,W.heap[b]?=W1.heap[b]?)→∀ty dc,(Builtin.copy_ #[62,62] ty #[.slice (some ⟨w.heap.size,(i*2),none⟩) (n+1-i) dc,.slice (some ⟨vb,voff,none⟩) 1 vc]).run Tryz.prog W= .ok (goInt (Nat.min 1 (n+1-i):Nat)) (W.setRow w.heap.size r1):=fun W hW ty dc=>by
  rw[hr1];exact run_copy_sized (P:=Tryz.prog) (w:=W) (T':=62) (ty:=ty) (oc:=id) hu hin his (o:=(i*2)) (dLen:=n+1-i) (dCap:=dc) (sLen:=1) (sCap:=vc) (a:=⟨vb,voff,none⟩) (cs:=vs) (by rw[hW];exact hN1)
   (by rw[hvl,show Nat.min 1 (n+1-i)=1 from Nat.min_eq_left (by omega)])
   (fun j v hj=>by
    have:=hvs j v hj;rwa [World.cell?_of_block (w:=w) (a:=(⟨vb,voff,none⟩:Addr).add j) (by rw[Addr.add_lit,hW];exact hO1 _ hvw)])
   (by rw[hvl,hR0s];omega) h1
 have hr1s:r1.size=G*2:=by
  rw[hr1];simp only[List.size_toArray,List.length_append,List.length_take,List.length_drop,Array.length_toList,hvl,hR0s];omega
 have hr1t:r1.toList.take ((i+1)*2)=cur.toList.take (i*2)++vs:=by
  rw[hr1,hR0t];refine List.take_left' ?_;simp only[List.length_append,List.length_take,Array.length_toList,hvl];omega
 obtain ⟨r2,hr2⟩:∃r2:Array Value,r2=(r1.toList.take ((i+1)*2)++C.drop (i*2)++r1.toList.drop (((i+1)*2)+(C.drop (i*2)).length)).toArray:=⟨_,rfl⟩
 have hcpB:∀(W:World),(∀b:Nat,W.heap[b]?=(W1.setRow w.heap.size r1).heap[b]?)→∀ty dc sc,(Builtin.copy_ #[62,62] ty #[.slice (some ⟨w.heap.size,((i+1)*2),none⟩) (n-i) dc,.slice (some ⟨g,(i*2),none⟩) (n-i) sc]).run Tryz.prog W= .ok (goInt (Nat.min (n-i) (n-i):Nat)) (W.setRow w.heap.size r2):=fun W hW ty dc sc=>by
  rw[hr2];exact run_copy_sized (P:=Tryz.prog) (w:=W) (T':=62) (ty:=ty) (oc:=id) hu hin his (o:=((i+1)*2)) (dLen:=n-i) (dCap:=dc) (sLen:=n-i) (sCap:=sc) (a:=⟨g,(i*2),none⟩) (cs:=C.drop (i*2)) (by rw[hW];exact setRow_heap _ _ _ _ _ _ hN1)
   (by rw[List.length_drop,hCl,show Nat.min (n-i) (n-i)=n-i from Nat.min_self _];omega)
   (fun j v hj=>by
    rw[List.getElem?_drop] at hj;have:=hCat _ _ hj;rw[World.cell?_of_block (w:=w) (a:=(⟨g,(i*2),none⟩:Addr).add j) (by rw[Addr.add_lit,hW,setRow_other _ _ _ _ (by dsimp only;omega)];exact hO1 _ hgw),Addr.add_lit];simp[World.cell?,hg,this])
   (by rw[List.length_drop,hCl,hr1s];omega) (fun v hv=>h1c v (List.mem_of_mem_drop hv))
 have hr2s:r2.size=G*2:=by
  rw[hr2];simp only[List.size_toArray,List.length_append,List.length_take,List.length_drop,Array.length_toList,hCl,hr1s];omega
 have hr2t:r2.toList.take ((n+1)*2)=cur.toList.take (i*2)++vs++C.drop (i*2):=by
  rw[hr2,hr1t];refine List.take_left' ?_;simp only[List.length_append,List.length_take,List.length_drop,Array.length_toList,hvl,hCl];omega
 have hfin:∀W:World,W.heap[w.heap.size]?=some (.cells r2 68 (0,0))→(∀b,b<w.heap.size→W.heap[b]?=w.heap[b]?)→W.os=w.os→W.tape=w.tape→W.output=w.output→w.heap.size≤W.heap.size→
   ∃c',Ending.returned (.slice (some ⟨w.heap.size,0,none⟩) (n+1) G)= .returned (.slice (some ⟨w.heap.size,0,none⟩) (n+1) c')∧∃cur':Array Value,W.heap[w.heap.size]?=some (.cells cur' 68 (0,0))∧(n+1≤c'∧c'≤maxLen)∧cur'.size=c'*2∧cur'.toList.take ((n+1)*2)=cur.toList.take (i*2)++vs++C.drop (i*2)∧w.grownBy W none:=fun W q1 q2 q3 q4 q5 q6=>
  ⟨G,rfl,r2,q1,⟨hGn,hGm⟩,hr2s,hr2t,⟨q3,q4,q5,q6,fun k hk _=>q2 k hk⟩⟩
 have hN2:(W1.setRow w.heap.size r1).heap[w.heap.size]?=some (.cells r1 68 (0,0)):=setRow_heap _ _ _ _ _ _ hN1
 have mixed:Tryz.prog.follows Departure.mixedOrders=true:=by kernel_rfl
 have hw1:IntKind.i64.wrap ((i:Int)+1)=(i:Int)+1:=by rw[IntKind.wrap_i64];omega
 have hb1:(0:Int)≤(i:Int)+1:=by omega
 have hin':i≤n:=by omega
 have htn:((i:Int)+1).toNat=i+1:=by omega
 have hb3:(i:Int)≤(n:Int):=by omega
 have hb5:(i:Int)≤(n:Int)+1:=by omega
 have hz3:(cap:Int)<(n:Int)+1:=by omega
 have hGi:¬(G=i):=by omega
 have hGim:¬(G=i+1):=by omega
 have hci:¬(cap=i):=by omega
 subst hW1
 have hE:∀b:Nat,((w.alloc (.cells R0 68)).drew).heap[b]?=(w.drew.alloc (.cells R0 68)).heap[b]?:=fun _=>rfl
 have hF:∀b:Nat,(((w.alloc (.cells R0 68)).drew.setRow w.heap.size r1).drew).heap[b]?=((w.drew.alloc (.cells R0 68)).setRow w.heap.size r1).heap[b]?:=fun _=>rfl
 clear hr1 hr2 hR0 hG hold
 go_enter Tryz.func137,Tryz.ntmps137
 go_wp2_with (first
  |(at_builtin;refine Lib.wpList_append_run _ rfl _ _ _ _ rfl _ _ rfl rfl _ _ (hrz _) ?_)
  |(at_builtin;refine wpList_copyI _ rfl _ _ 62 62 rfl _ _ rfl rfl (hcpA _ hE _ _) ?_))
 go_region_law_o (refine step_copyI rfl _ _ 62 62 rfl (.slice (some ⟨w.heap.size,((i+1)*2),none⟩) (n-i) (G-(i+1))) (.slice (some ⟨g,(i*2),none⟩) (n-i) (cap-i)) (by simp[Act.eval,Act.put]) (by simp[Act.eval,Act.put]) (hcpB _ hF 3 (G-(i+1)) (cap-i)) ?_)
 go_wp2
 go_ret
 refine hfin _ ?_ ?_ rfl rfl rfl ?_
 ·exact setRow_heap _ _ _ _ _ _ hN2
 ·intro b hb
  rw[setRow_other _ _ _ _ (by omega)]
  refine Eq.trans ?_ (hO1 b hb)
  exact setRow_other _ _ _ _ (by omega)
 ·simp
def insF {α:Type} (x:List α) (i:Nat) (v:List α):List α:=x.take i++v++x.drop i
def entInsStop:Ent:=⟨137,.cons Z15 (.cons Z1 (.cons Z15 .nil)),.sl Z2,true,some 68,fun x=>(0≤(x.2.1:Int)∧(x.2.1:Int)≤List.length (α:=(Int×Bool)) x.1)∧List.length (α:=(Int×Bool)) x.2.2.1=1∧List.length (α:=(Int×Bool)) x.1≤1000000,fun x=>insF (α:=(Int×Bool)) x.1 (x.2.1:Int).toNat x.2.2.1⟩
theorem conInsStop:Con Tryz.prog entInsStop:=by
 unfold Con;rw[if_pos (by rfl)];refine ⟨by kernel_rfl,?_⟩;rintro (x:List (Int×Bool)) ⟨(n:Int),(v:List (Int×Bool)),_⟩ ⟨⟨h0,h1⟩,hv1,hsm⟩ w M u us cells hM hMu hown hrow hargs hplain;have h0:0≤n:=h0;have h1:n≤x.length:=h1;obtain ⟨i,rfl⟩:∃i:Nat,n=i:=⟨n.toNat,by omega⟩;obtain ⟨u1,us1,rfl,hu1,u2,us2,rfl,hu2,rfl⟩:=hargs;obtain ⟨rfl,_⟩:=avr_int (P:=Tryz.prog) (hp:=fun _=>none) (ψ:=fun _=>undef) hu1;have hv1:v.length=1:=hv1;have hsm:x.length≤1000000:=hsm;have hu2':RdV Tryz.prog Z15 w M v u2:=hu2;obtain ⟨A2,k2,c2,e2,hlen2,hkc2,hcm2,hd2⟩:=(RdV.one (t:=.sl Z2) hu2' rfl rfl).1;simp only[List.cons.injEq,and_true] at e2;subst e2;have hk2:k2=1:=by rw[←hlen2];exact hv1
 subst hk2;rcases hd2 with hd2|⟨vb,voff,vs,rfl,hvw,hvM,hvc,hvr⟩
 ·cases hd2
 have hvl:vs.length=2:=by
  have:=RowsBy.len (n:=2) (fun (d:(Int×Bool)) c (q:Rd Tryz.prog Z2 w M d c)=>q.len) hvr;rw[hv1] at this;omega
 have hvs:∀j u,vs[j]?=some u→w.cell? ((⟨vb,voff,none⟩:Addr).add j)=some u:=fun j u h=>by rw[Addr.add_lit];exact hvc j u h
 have hone:∀{zs:List (Int×Bool)} {cs:List Value},RowsBy (fun x c=>Rd Tryz.prog Z2 w M x c) zs cs→∀u∈cs,u.oneCell'=true:=by
  intro zs;induction zs with
  |nil=>intro cs h u hu;obtain rfl:cs=[]:=h;simp at hu
  |cons z r ih=>
   rintro cs ⟨c1,c2,rfl,q1,q2⟩ u hu;rcases List.mem_append.1 hu with hu|hu
   ·exact Rd.one q1 u hu
   ·exact ih q2 u hu
 have h1v:=hone hvr;have h1c:=hone hrow;have hcl:cells.length=x.length*2:=hown.1;obtain ⟨r1,r2,er,hr1,hr2⟩:=RowsBy.split (xs:=x.take i) (ys:=x.drop i) (by rw[List.take_append_drop];exact hrow);have hr1l:r1.length=(i*2):=by
  have:=RowsBy.len (n:=2) (fun (d:(Int×Bool)) c (q:Rd Tryz.prog Z2 w M d c)=>q.len) hr1;rw[List.length_take] at this;omega
 have hrows:RowsBy (fun x c=>Rd Tryz.prog Z2 w M x c) (insF x i v) (cells.take (i*2)++vs++cells.drop (i*2)):=by
  unfold insF;have t1:cells.take (i*2)=r1:=by rw[er];exact List.take_left' hr1l
  have t2:cells.drop (i*2)=r2:=by rw[er];exact List.drop_left' hr1l
  rw[t1,t2];exact (hr1.append hvr).append hr2
 have hFl:(insF x i v).length=x.length+1:=by unfold insF;simp only[List.length_append,List.length_take,List.length_drop,hv1];omega
 obtain ⟨hne,curv,ev,hgv⟩:=hplain (.slice (some ⟨vb,voff,none⟩) 1 c2) (by simp) vb rfl;show Calls Tryz.prog 137 #[u,.int .i64 i,.slice (some ⟨vb,voff,none⟩) 1 c2] w fun en w'=>∃v' cells',en= .returned v'∧w'.ownsRow 0 68 2 v' (insF x (Int.toNat i) v).length cells'∧RowsBy (fun x c=>Rd Tryz.prog Z2 w M x c) (insF x (Int.toNat i) v) cells'∧w.grownBy w' u.ownBlock∧(blk v'=blk u∨∃g,blk v'=some g∧w.heap.size≤g);rw[Int.toNat_natCast,hFl];have hown':w.ownsRow 0 68 2 u x.length cells:=hown;by_cases hi:i=x.length
 ·subst hi;refine Calls.mono (insStop_end (v:=u) hown' (vb:=vb) (voff:=voff) (vc:=c2) hvl hvs h1v (by omega)) ?_;rintro en w' ⟨v',rfl,k1,k2,k3⟩;obtain ⟨A,cX,eX⟩:=ownsRow_slice hown';obtain ⟨A',cX',eX'⟩:=ownsRow_slice k1;refine ⟨v',_,rfl,k1,?_,k2,?_⟩
  ·have t1:∀k,k=x.length*2→cells.take k++vs++cells.drop k=cells++vs:=fun k e=>by
    rw[List.take_of_length_le (by omega),List.drop_of_length_le (by omega),List.append_nil]
   rw[t1 _ (by omega)] at hrows;exact hrows
  ·rw[blk_own eX',blk_own eX];exact k3
 ·have hin:i<x.length:=by omega
  rcases hown'.2 with ⟨_,q⟩|⟨g,cap,cur,rfl,_,hg,hnc,hcap,hcs,htk⟩
  ·omega
  have hcap':cap≤9223372036854775807:=hcap;have htk2:cur.toList.take (i*2)=cells.take (i*2):=by rw[←htk,List.take_take,Nat.min_eq_left (by omega)]
  have hbne:vb≠g:=fun e=>hne (by rw[e];rfl);by_cases hroom:x.length+1≤cap
  ·refine Calls.mono (insStop_shift hg hcs hroom hcap' hin (by rw[htk];exact h1c) hvl hvs h1v (vc:=c2) hgv hbne) ?_;rintro en w' ⟨rfl,cur',k1,k2,k3,k4⟩;rw[htk,htk2] at k3;exact ⟨_,_,rfl,⟨by simp only[List.length_append,List.length_take,List.length_drop,hvl,hcl];omega,.inr ⟨g,cap,cur',rfl,Nat.zero_le _,k1,hroom,hcap,k2,k3⟩⟩,hrows,k4,.inl rfl⟩
  ·refine Calls.mono (insStop_grow hg hcs hnc (by omega) hcap' hin (by omega) (by rw[htk];exact h1c) hvl hvs h1v (vc:=c2) hvw) ?_;rintro en w' ⟨c',rfl,cur',k1,⟨k5,k6⟩,k2,k3,k4⟩;rw[htk,htk2] at k3;exact ⟨_,_,rfl,⟨by simp only[List.length_append,List.length_take,List.length_drop,hvl,hcl];omega,.inr ⟨w.heap.size,c',cur',rfl,Nat.zero_le _,k1,k5,k6,k2,k3⟩⟩,hrows,⟨k4.os,k4.tape,k4.output,k4.size,fun k hk _=>k4.block k hk (by simp)⟩,.inr ⟨_,rfl,Nat.le_refl _⟩⟩
end T
end Go.Proofs.YtpocfbfmjippnaaGreat
end
section
namespace Go.Proofs.YtpocfbfmjippnaaGreat
namespace T
set_option maxRecDepth 100000
set_option maxHeartbeats 4000000
def z69_1:XC:=(⟨_,by conv=>rhs;reduce;try simp only[Int.reduceOfNat,Int.reduceNegSucc]⟩:Fl Tryz.f69 1 [10,17] [] []).v
def z69_1d:List Nat:=[8,9,10]
def z69_0:XC:=(fun a=>(⟨_,by conv=>rhs;reduce;try simp only[Int.reduceOfNat,Int.reduceNegSucc]⟩:Fl Tryz.f69 0 [15,17] [] [a]).v) z69_1
def z69_0d:List Nat:=[7,8,9,10,25]
def z69:XF:=⟨72,[],[0,1,2,6,7,8,9,10,24,25],(fun a=>(⟨_,by conv=>rhs;reduce;try simp only[Int.reduceOfNat,Int.reduceNegSucc]⟩:Fx Tryz.f69 [4] [] [a]).v) z69_0⟩
def v33_0:XC:=(⟨_,by conv=>rhs;reduce;try simp only[Int.reduceOfNat,Int.reduceNegSucc]⟩:Fl Tryz.f33 0 [12] [] []).v
def v33_0d:List Nat:=[6,8,9,30]
def v33_1:XC:=let i:Ty:=.int .i64;let a15:Ty:=.sl i;let a14:Ty:=.st (.cons i .bool);let a12:Ty:=.sl a14;let a13:Ty:=.st (.cons i i);let n:Ty:=.sl a13;let m:Ty:=.st (.cons i (.cons i .bool));let j:Ty:=.sl m;let k:Ty:=.st (.cons i (.cons i i));let h:Ty:=.st (.cons i (.cons i (.cons a15 a15)));let g:Ty:=.sl h;let f:Ty:=.st (.cons i (.cons a12 (.cons n a15)));let e:Ty:=.st (.cons i (.cons i (.cons i (.cons i (.cons i (.cons i (.cons i (.cons i i))))))));let d:Ty:=.sl e;let c:Ty:=.st (.cons i (.cons i (.cons i (.cons i (.cons i (.cons i (.cons i (.cons i (.cons i i)))))))));let b:Ty:=.sl c;let a:Ty:=.st (.cons i (.cons g (.cons d (.cons b (.cons j k)))));let l (d:Nat) (t:Ty) (x:Nat):XO:=⟨some d,.load t,[.t x],none,[]⟩;let v (d x:Nat):XO:=⟨some d,.mv,[.t x],none,[]⟩;let o (d:Nat) (p:XOp) (l:List XA):XO:=⟨some d,p,l,none,[]⟩;let u (d:Nat) (p:XOp) (l:List XA) (a:List Nat):XO:=⟨some d,p,l,none,a⟩;let r (l:List XO) (c:XC):XC:=.seq (.reg false l) c;let t:=XA.t;(r [o 95 (.bin .lss) [t 94,t 93]] (.seq (.cond (t 95) .skip (.exit 2)) (.seq (.block 3 (r [v 96 94,o 97 (.iaddr f) [t 92,t 94],l 98 f 97,o 12 (.alloc 65 f) [],v 11 96,⟨none,.store f,[t 12,t 98],none,[]⟩] (r [v 99 1,o 100 (.call 67) [t 99],v 101 11,⟨some 102,.bslice 3 i 1 [0],[t 101],none,[]⟩,o 103 (.append 3 i 8) [t 100,t 102],v 13 103] (.clean (.seq (.reg true [v 105 0,u 106 .nilck [t 105] [0],u 107 (.faddr 0 a) [t 106] [1,0],u 108 (.load a) [t 107] [2,1,0],l 109 f 12,v 110 0,u 111 .nilck [t 110] [5],u 112 (.faddr 8 a15) [t 111] [6,5],u 113 (.load a15) [t 112] [7,6,5],v 114 1,u 115 (.len false) [t 114] [9],u 116 (.iaddr i) [t 113,t 115] [8,7,6,5,10,9],u 117 (.load i) [t 116] [11,8,7,6,5,10,9],u 118 (.call 50) [t 108,t 109,t 117] [3,2,1,0,4,12,11,8,7,6,5,10,9],u 104 .mv [t 118] [13,3,2,1,0,4,12,11,8,7,6,5,10,9],u 119 (.extract 0) [t 104] [14,13,3,2,1,0,4,12,11,8,7,6,5,10,9],u 120 (.extract 1) [t 104] [14,13,3,2,1,0,4,12,11,8,7,6,5,10,9],u 121 (.extract 2) [t 104] [14,13,3,2,1,0,4,12,11,8,7,6,5,10,9],u 122 (.extract 3) [t 104] [14,13,3,2,1,0,4,12,11,8,7,6,5,10,9],u 123 (.extract 4) [t 104] [14,13,3,2,1,0,4,12,11,8,7,6,5,10,9],o 14 (.alloc 65 f) [],⟨none,.store f,[t 14,t 119],none,[20,15,14,13,3,2,1,0,4,12,11,8,7,6,5,10,9]⟩,u 15 .mv [t 120] [16,14,13,3,2,1,0,4,12,11,8,7,6,5,10,9,21,20,15],u 16 .mv [t 121] [17,14,13,3,2,1,0,4,12,11,8,7,6,5,10,9,22,16,21,20,15],u 17 .mv [t 122] [18,14,13,3,2,1,0,4,12,11,8,7,6,5,10,9,23,17,22,16,21,20,15],u 18 .mv [t 123] [19,14,13,3,2,1,0,4,12,11,8,7,6,5,10,9,24,18,23,17,22,16,21,20,15]]) (.clean (.seq (r [v 124 18,o 125 (.bin .neq) [t 124,.int .i64 0]] (.cond (t 125) (.seq (.icall false [v 126 0,v 127 13,v 128 2,o 129 (.len false) [t 128]] ⟨some 130,.callv,[.fn 69,t 126,t 127,t 129],none,[]⟩ [] 69 z69.n z69.res z69.kv z69.code) (.exit 3)) .skip)) (.clean (r [v 131 2,o 132 (.call 68) [t 131],v 19 132] (r [v 133 19,v 134 11,l 135 f 14,o 136 (.iaddr f) [t 133,t 134],⟨none,.store f,[t 136,t 135],none,[]⟩] (.top (.clean (.reg false [v 137 0,v 138 13,v 139 19,o 140 (.call 33) [t 137,t 138,t 139]]))))))))))))) (.reg false [o 141 (.bin .add) [t 94,.int .i64 1],v 94 141]))))
def v33:XF:=let i:Ty:=.int .i64;let g:Ty:=.sl i;let f:Ty:=.st (.cons i .bool);let d:Ty:=.sl f;let e:Ty:=.st (.cons i i);let c:Ty:=.sl e;let b:Ty:=.st (.cons i (.cons d (.cons c g)));let a:Ty:=.sl b;let s (t:Ty) (x y:Nat):XO:=⟨none,.store t,[.t x,.t y],none,[]⟩;let v (d x:Nat):XO:=⟨some d,.mv,[.t x],none,[]⟩;let o (d:Nat) (p:XOp) (l:List XA):XO:=⟨some d,p,l,none,[]⟩;let w (d:Nat) (p:XOp) (l:List XA) (j t:Nat) (b:Bool):XO:=⟨some d,p,l,some (j,t,b),[]⟩;let r (l:List XO) (c:XC):XC:=.seq (.reg false l) c;let t:=XA.t;⟨149,[],[0,1,2,6,8,9,11,12,13,14,18,19,28,29,30,92,93,94],(.seq (r [v 20 1,o 21 (.len false) [t 20],v 22 0,o 23 .nilck [t 22],o 24 (.faddr 8 g) [t 23],o 25 (.load g) [t 24],o 26 (.len false) [t 25],o 27 (.bin .eql) [t 21,t 26]] (.top (.cond (t 27) (r [o 6 .mv [.int .i64 0]] (.seq (r [v 28 2,o 29 (.len false) [t 28],o 30 .mv [.int .i64 0]] (.block 0 (.loop v33_0))) (.clean (.seq (r [v 47 0,o 48 .nilck [t 47],o 49 (.faddr 9 g) [t 48],o 50 (.load g) [t 49],o 51 (.isnilk false i) [t 50],v 52 51,w 53 .mv [t 1] 5 52 false,w 54 .mv [t 0] 5 52 false,w 55 .nilck [t 54] 5 52 false,w 56 (.faddr 9 g) [t 55] 5 52 false,w 57 (.load g) [t 56] 5 52 false,w 58 (.call 36) [t 53,t 57] 5 52 false,w 59 (.bin .lss) [t 58,.int .i64 0] 5 52 false,o 60 .pick [t 52,.bool true,t 59],v 61 60,w 62 .mv [t 1] 14 61 false,w 63 .mv [t 0] 14 61 false,w 64 .nilck [t 63] 14 61 false,w 65 (.faddr 9 g) [t 64] 14 61 false,w 66 (.load g) [t 65] 14 61 false,w 67 (.call 36) [t 62,t 66] 14 61 false,w 68 (.bin .eql) [t 67,.int .i64 0] 14 61 false,w 69 .mv [t 68] 14 61 false,w 70 .mv [t 6] 22 69 true,w 71 .mv [t 0] 22 69 true,w 72 .nilck [t 71] 22 69 true,w 73 (.faddr 11 i) [t 72] 22 69 true,w 74 (.load i) [t 73] 22 69 true,w 75 (.bin .lss) [t 70,t 74] 22 69 true,w 76 .pick [t 69,t 75,.bool false] 14 61 false,o 77 .pick [t 61,.bool true,t 76]] (.cond (t 77) (.reg false [v 78 0,v 79 0,v 80 0,v 81 1,o 82 (.calld 67) [t 81],v 83 2,o 84 (.calld 68) [t 83],v 85 6,o 86 .nilck [t 78],o 87 (.faddr 9 g) [t 86],s g 87 82,o 88 .nilck [t 79],o 89 (.faddr 10 a) [t 88],s a 89 84,o 90 .nilck [t 80],o 91 (.faddr 11 i) [t 90],s i 91 85]) .skip)) .ret)))) .skip))) (.clean (.seq (r [v 92 2,o 93 (.len false) [t 92],o 94 .mv [.int .i64 0]] (.block 2 (.loop v33_1))) (.clean (.reg false [v 142 0,v 143 1,o 144 (.call 67) [t 143],⟨some 145,.bslice 3 i 1 [0],[.int .i64 (-1)],none,[]⟩,o 146 (.append 3 i 8) [t 144,t 145],v 147 2,o 148 (.call 33) [t 142,t 146,t 147]])))))⟩
def w33_0:XC:=(⟨_,by conv=>rhs;reduce;try simp only[Int.reduceOfNat,Int.reduceNegSucc]⟩:Fl Tryz.f33 0 [12] [] []).v
def w33_0d:List Nat:=[6,8,9,30]
def w33_1:XC:=let i:Ty:=.int .i64;let a15:Ty:=.sl i;let a14:Ty:=.st (.cons i .bool);let a12:Ty:=.sl a14;let a13:Ty:=.st (.cons i i);let n:Ty:=.sl a13;let m:Ty:=.st (.cons i (.cons i .bool));let j:Ty:=.sl m;let k:Ty:=.st (.cons i (.cons i i));let h:Ty:=.st (.cons i (.cons i (.cons a15 a15)));let g:Ty:=.sl h;let f:Ty:=.st (.cons i (.cons a12 (.cons n a15)));let e:Ty:=.st (.cons i (.cons i (.cons i (.cons i (.cons i (.cons i (.cons i (.cons i i))))))));let d:Ty:=.sl e;let c:Ty:=.st (.cons i (.cons i (.cons i (.cons i (.cons i (.cons i (.cons i (.cons i (.cons i i)))))))));let b:Ty:=.sl c;let a:Ty:=.st (.cons i (.cons g (.cons d (.cons b (.cons j k)))));let l (d:Nat) (t:Ty) (x:Nat):XO:=⟨some d,.load t,[.t x],none,[]⟩;let v (d x:Nat):XO:=⟨some d,.mv,[.t x],none,[]⟩;let o (d:Nat) (p:XOp) (l:List XA):XO:=⟨some d,p,l,none,[]⟩;let u (d:Nat) (p:XOp) (l:List XA) (a:List Nat):XO:=⟨some d,p,l,none,a⟩;let r (l:List XO) (c:XC):XC:=.seq (.reg false l) c;let t:=XA.t;(r [o 95 (.bin .lss) [t 94,t 93]] (.seq (.cond (t 95) .skip (.exit 2)) (.seq (.block 3 (r [v 96 94,o 97 (.iaddr f) [t 92,t 94],l 98 f 97,o 12 (.alloc 65 f) [],v 11 96,⟨none,.store f,[t 12,t 98],none,[]⟩] (r [v 99 1,o 100 (.call 67) [t 99],v 101 11,⟨some 102,.bslice 3 i 1 [0],[t 101],none,[]⟩,o 103 (.append 3 i 8) [t 100,t 102],v 13 103] (.clean (.seq (.reg true [v 105 0,u 106 .nilck [t 105] [0],u 107 (.faddr 0 a) [t 106] [1,0],u 108 (.load a) [t 107] [2,1,0],l 109 f 12,v 110 0,u 111 .nilck [t 110] [5],u 112 (.faddr 8 a15) [t 111] [6,5],u 113 (.load a15) [t 112] [7,6,5],v 114 1,u 115 (.len false) [t 114] [9],u 116 (.iaddr i) [t 113,t 115] [8,7,6,5,10,9],u 117 (.load i) [t 116] [11,8,7,6,5,10,9],u 118 (.call 50) [t 108,t 109,t 117] [3,2,1,0,4,12,11,8,7,6,5,10,9],u 104 .mv [t 118] [13,3,2,1,0,4,12,11,8,7,6,5,10,9],u 119 (.extract 0) [t 104] [14,13,3,2,1,0,4,12,11,8,7,6,5,10,9],u 120 (.extract 1) [t 104] [14,13,3,2,1,0,4,12,11,8,7,6,5,10,9],u 121 (.extract 2) [t 104] [14,13,3,2,1,0,4,12,11,8,7,6,5,10,9],u 122 (.extract 3) [t 104] [14,13,3,2,1,0,4,12,11,8,7,6,5,10,9],u 123 (.extract 4) [t 104] [14,13,3,2,1,0,4,12,11,8,7,6,5,10,9],o 14 (.alloc 65 f) [],⟨none,.store f,[t 14,t 119],none,[20,15,14,13,3,2,1,0,4,12,11,8,7,6,5,10,9]⟩,u 15 .mv [t 120] [16,14,13,3,2,1,0,4,12,11,8,7,6,5,10,9,21,20,15],u 16 .mv [t 121] [17,14,13,3,2,1,0,4,12,11,8,7,6,5,10,9,22,16,21,20,15],u 17 .mv [t 122] [18,14,13,3,2,1,0,4,12,11,8,7,6,5,10,9,23,17,22,16,21,20,15],u 18 .mv [t 123] [19,14,13,3,2,1,0,4,12,11,8,7,6,5,10,9,24,18,23,17,22,16,21,20,15]]) (.clean (.seq (r [v 124 18,o 125 (.bin .neq) [t 124,.int .i64 0]] (.cond (t 125) (.seq (.icall false [v 126 0,v 127 13,v 128 2,o 129 (.len false) [t 128]] ⟨some 130,.callv,[.fn 69,t 126,t 127,t 129],none,[]⟩ [] 69 z69.n z69.res z69.kv z69.code) (.exit 3)) .skip)) (.clean (r [v 131 2,o 132 (.call 68) [t 131],v 19 132] (r [v 133 19,v 134 11,l 135 f 14,o 136 (.iaddr f) [t 133,t 134],⟨none,.store f,[t 136,t 135],none,[]⟩] (.top (.clean (.icall false [v 137 0,v 138 13,v 139 19] ⟨some 140,.callv,[.fn 33,t 137,t 138,t 139],none,[]⟩ [] 33 v33.n v33.res v33.kv v33.code))))))))))))) (.reg false [o 141 (.bin .add) [t 94,.int .i64 1],v 94 141]))))
def w33_1d:List Nat:=[11,12,13,14,18,19,94]
def w33_t:XC:=let i:Ty:=.int .i64;let g:Ty:=.sl i;let f:Ty:=.st (.cons i .bool);let d:Ty:=.sl f;let e:Ty:=.st (.cons i i);let c:Ty:=.sl e;let b:Ty:=.st (.cons i (.cons d (.cons c g)));let a:Ty:=.sl b;let s (t:Ty) (x y:Nat):XO:=⟨none,.store t,[.t x,.t y],none,[]⟩;let v (d x:Nat):XO:=⟨some d,.mv,[.t x],none,[]⟩;let o (d:Nat) (p:XOp) (l:List XA):XO:=⟨some d,p,l,none,[]⟩;let w (d:Nat) (p:XOp) (l:List XA) (j t:Nat) (b:Bool):XO:=⟨some d,p,l,some (j,t,b),[]⟩;let r (l:List XO) (c:XC):XC:=.seq (.reg false l) c;let t:=XA.t;(.seq (r [v 20 1,o 21 (.len false) [t 20],v 22 0,o 23 .nilck [t 22],o 24 (.faddr 8 g) [t 23],o 25 (.load g) [t 24],o 26 (.len false) [t 25],o 27 (.bin .eql) [t 21,t 26]] (.top (.cond (t 27) (r [o 6 .mv [.int .i64 0]] (.seq (r [v 28 2,o 29 (.len false) [t 28],o 30 .mv [.int .i64 0]] (.block 0 (.loop w33_0))) (.clean (.seq (r [v 47 0,o 48 .nilck [t 47],o 49 (.faddr 9 g) [t 48],o 50 (.load g) [t 49],o 51 (.isnilk false i) [t 50],v 52 51,w 53 .mv [t 1] 5 52 false,w 54 .mv [t 0] 5 52 false,w 55 .nilck [t 54] 5 52 false,w 56 (.faddr 9 g) [t 55] 5 52 false,w 57 (.load g) [t 56] 5 52 false,w 58 (.call 36) [t 53,t 57] 5 52 false,w 59 (.bin .lss) [t 58,.int .i64 0] 5 52 false,o 60 .pick [t 52,.bool true,t 59],v 61 60,w 62 .mv [t 1] 14 61 false,w 63 .mv [t 0] 14 61 false,w 64 .nilck [t 63] 14 61 false,w 65 (.faddr 9 g) [t 64] 14 61 false,w 66 (.load g) [t 65] 14 61 false,w 67 (.call 36) [t 62,t 66] 14 61 false,w 68 (.bin .eql) [t 67,.int .i64 0] 14 61 false,w 69 .mv [t 68] 14 61 false,w 70 .mv [t 6] 22 69 true,w 71 .mv [t 0] 22 69 true,w 72 .nilck [t 71] 22 69 true,w 73 (.faddr 11 i) [t 72] 22 69 true,w 74 (.load i) [t 73] 22 69 true,w 75 (.bin .lss) [t 70,t 74] 22 69 true,w 76 .pick [t 69,t 75,.bool false] 14 61 false,o 77 .pick [t 61,.bool true,t 76]] (.cond (t 77) (.reg false [v 78 0,v 79 0,v 80 0,v 81 1,o 82 (.calld 67) [t 81],v 83 2,o 84 (.calld 68) [t 83],v 85 6,o 86 .nilck [t 78],o 87 (.faddr 9 g) [t 86],s g 87 82,o 88 .nilck [t 79],o 89 (.faddr 10 a) [t 88],s a 89 84,o 90 .nilck [t 80],o 91 (.faddr 11 i) [t 90],s i 91 85]) .skip)) .ret)))) .skip))) (.clean (.seq (r [v 92 2,o 93 (.len false) [t 92],o 94 .mv [.int .i64 0]] (.block 2 (.loop w33_1))) (.clean (.icall false [v 142 0,v 143 1,o 144 (.call 67) [t 143],⟨some 145,.bslice 3 i 1 [0],[.int .i64 (-1)],none,[]⟩,o 146 (.append 3 i 8) [t 144,t 145],v 147 2] ⟨some 148,.callv,[.fn 33,t 142,t 146,t 147],none,[]⟩ [] 33 v33.n v33.res v33.kv v33.code)))))
def w33:XF:=⟨149,[],[0,1,2,6,8,9,11,12,13,14,18,19,28,29,30,92,93,94],.top w33_t⟩
def z33_0:XC:=(⟨_,by conv=>rhs;reduce;try simp only[Int.reduceOfNat,Int.reduceNegSucc]⟩:Fl Tryz.f33 0 [12] [] []).v
def z33_0d:List Nat:=[6,8,9,30]
def z33_1:XC:=(Ze [Zb 95 (.bin .lss) [Zc 94,Zc 93]] (.seq (.cond (Zc 95) .skip (.exit 2)) (.seq (.block 3 (Ze [Za 96 94,Zb 97 (.iaddr Z22) [Zc 92,Zc 94],Zh 98 Z22 97,Zb 12 (.alloc 65 Z22) [],Za 11 96,⟨none,.store Z22,[Zc 12,Zc 98],none,[]⟩] (Ze [Za 99 1,Zb 100 (.call 67) [Zc 99],Za 101 11,Zb 102 (.bslice 3 Z1 1 [0]) [Zc 101],Zb 103 (.append 3 Z1 8) [Zc 100,Zc 102],Za 13 103] (.clean (.seq (.reg true [Za 105 0,Zg 106 .nilck [Zc 105] [0],Zg 107 (.faddr 0 Z21) [Zc 106] [1,0],Zg 108 (.load Z21) [Zc 107] [2,1,0],Zh 109 Z22 12,Za 110 0,Zg 111 .nilck [Zc 110] [5],Zg 112 (.faddr 8 Z5) [Zc 111] [6,5],Zg 113 (.load Z5) [Zc 112] [7,6,5],Za 114 1,Zg 115 (.len false) [Zc 114] [9],Zg 116 (.iaddr Z1) [Zc 113,Zc 115] [8,7,6,5,10,9],Zg 117 (.load Z1) [Zc 116] [11,8,7,6,5,10,9],Zg 118 (.call 50) [Zc 108,Zc 109,Zc 117] [3,2,1,0,4,12,11,8,7,6,5,10,9],Zg 104 .mv [Zc 118] [13,3,2,1,0,4,12,11,8,7,6,5,10,9],Zg 119 (.extract 0) [Zc 104] [14,13,3,2,1,0,4,12,11,8,7,6,5,10,9],Zg 120 (.extract 1) [Zc 104] [14,13,3,2,1,0,4,12,11,8,7,6,5,10,9],Zg 121 (.extract 2) [Zc 104] [14,13,3,2,1,0,4,12,11,8,7,6,5,10,9],Zg 122 (.extract 3) [Zc 104] [14,13,3,2,1,0,4,12,11,8,7,6,5,10,9],Zg 123 (.extract 4) [Zc 104] [14,13,3,2,1,0,4,12,11,8,7,6,5,10,9],Zb 14 (.alloc 65 Z22) [],⟨none,.store Z22,[Zc 14,Zc 119],none,[20,15,14,13,3,2,1,0,4,12,11,8,7,6,5,10,9]⟩,Zg 15 .mv [Zc 120] [16,14,13,3,2,1,0,4,12,11,8,7,6,5,10,9,21,20,15],Zg 16 .mv [Zc 121] [17,14,13,3,2,1,0,4,12,11,8,7,6,5,10,9,22,16,21,20,15],Zg 17 .mv [Zc 122] [18,14,13,3,2,1,0,4,12,11,8,7,6,5,10,9,23,17,22,16,21,20,15],Zg 18 .mv [Zc 123] [19,14,13,3,2,1,0,4,12,11,8,7,6,5,10,9,24,18,23,17,22,16,21,20,15]]) (.clean (.seq (Ze [Za 124 18,Zb 125 (.bin .neq) [Zc 124,.int .i64 0]] (.cond (Zc 125) (.seq (.icall false [Za 126 0,Za 127 13,Za 128 2,Zb 129 (.len false) [Zc 128]] (Zb 130 .callv [.fn 69,Zc 126,Zc 127,Zc 129]) [] 69 z69.n z69.res z69.kv z69.code) (.exit 3)) .skip)) (.clean (Ze [Za 131 2,Zb 132 (.call 68) [Zc 131],Za 19 132] (Ze [Za 133 19,Za 134 11,Zh 135 Z22 14,Zb 136 (.iaddr Z22) [Zc 133,Zc 134],⟨none,.store Z22,[Zc 136,Zc 135],none,[]⟩] (.top (.clean (.icall false [Za 137 0,Za 138 13,Za 139 19] (Zb 140 .callv [.fn 33,Zc 137,Zc 138,Zc 139]) [] 33 w33.n w33.res w33.kv w33.code))))))))))))) (.reg false [Zb 141 (.bin .add) [Zc 94,.int .i64 1],Za 94 141]))))
def z33_1d:List Nat:=[11,12,13,14,18,19,94]
def z33:XF:=⟨149,[],[0,1,2,6,8,9,11,12,13,14,18,19,28,29,30,92,93,94],(.seq (Ze [Za 20 1,Zb 21 (.len false) [Zc 20],Za 22 0,Zb 23 .nilck [Zc 22],Zb 24 (.faddr 8 Z5) [Zc 23],Zb 25 (.load Z5) [Zc 24],Zb 26 (.len false) [Zc 25],Zb 27 (.bin .eql) [Zc 21,Zc 26]] (.top (.cond (Zc 27) (Ze [Zb 6 .mv [.int .i64 0]] (.seq (Ze [Za 28 2,Zb 29 (.len false) [Zc 28],Zb 30 .mv [.int .i64 0]] (.block 0 (.loop z33_0))) (.clean (.seq (Ze [Za 47 0,Zb 48 .nilck [Zc 47],Zb 49 (.faddr 9 Z5) [Zc 48],Zb 50 (.load Z5) [Zc 49],Zb 51 (.isnilk false Z1) [Zc 50],Za 52 51,Zf 53 .mv [Zc 1] 5 52 false,Zf 54 .mv [Zc 0] 5 52 false,Zf 55 .nilck [Zc 54] 5 52 false,Zf 56 (.faddr 9 Z5) [Zc 55] 5 52 false,Zf 57 (.load Z5) [Zc 56] 5 52 false,Zf 58 (.call 36) [Zc 53,Zc 57] 5 52 false,Zf 59 (.bin .lss) [Zc 58,.int .i64 0] 5 52 false,Zb 60 .pick [Zc 52,.bool true,Zc 59],Za 61 60,Zf 62 .mv [Zc 1] 14 61 false,Zf 63 .mv [Zc 0] 14 61 false,Zf 64 .nilck [Zc 63] 14 61 false,Zf 65 (.faddr 9 Z5) [Zc 64] 14 61 false,Zf 66 (.load Z5) [Zc 65] 14 61 false,Zf 67 (.call 36) [Zc 62,Zc 66] 14 61 false,Zf 68 (.bin .eql) [Zc 67,.int .i64 0] 14 61 false,Zf 69 .mv [Zc 68] 14 61 false,Zf 70 .mv [Zc 6] 22 69 true,Zf 71 .mv [Zc 0] 22 69 true,Zf 72 .nilck [Zc 71] 22 69 true,Zf 73 (.faddr 11 Z1) [Zc 72] 22 69 true,Zf 74 (.load Z1) [Zc 73] 22 69 true,Zf 75 (.bin .lss) [Zc 70,Zc 74] 22 69 true,Zf 76 .pick [Zc 69,Zc 75,.bool false] 14 61 false,Zb 77 .pick [Zc 61,.bool true,Zc 76]] (.cond (Zc 77) (.reg false [Za 78 0,Za 79 0,Za 80 0,Za 81 1,Zb 82 (.calld 67) [Zc 81],Za 83 2,Zb 84 (.calld 68) [Zc 83],Za 85 6,Zb 86 .nilck [Zc 78],Zb 87 (.faddr 9 Z5) [Zc 86],Zi Z5 87 82,Zb 88 .nilck [Zc 79],Zb 89 (.faddr 10 Z23) [Zc 88],Zi Z23 89 84,Zb 90 .nilck [Zc 80],Zb 91 (.faddr 11 Z1) [Zc 90],Zi Z1 91 85]) .skip)) .ret)))) .skip))) (.clean (.seq (Ze [Za 92 2,Zb 93 (.len false) [Zc 92],Zb 94 .mv [.int .i64 0]] (.block 2 (.loop z33_1))) (.clean (.icall false [Za 142 0,Za 143 1,Zb 144 (.call 67) [Zc 143],Zb 145 (.bslice 3 Z1 1 [0]) [.int .i64 (-1)],Zb 146 (.append 3 Z1 8) [Zc 144,Zc 145],Za 147 2] (Zb 148 .callv [.fn 33,Zc 142,Zc 146,Zc 147]) [] 33 w33.n w33.res w33.kv w33.code)))))⟩
def z35:XF:=⟨12,[.tmp 3],[0,1,2,3],(⟨_,by conv=>rhs;reduce;try simp only[Int.reduceOfNat,Int.reduceNegSucc]⟩:Fx Tryz.f35 [] [] []).v⟩
def z70_0:XC:=(Ze [Zb 9 (.bin .lss) [.t 8,.t 7]] (.seq (.cond (.t 9) .skip (.exit 0)) (.seq (.block 1 (Ze [Za 10 8,Za 5 10] (.seq (.icall false [Za 11 1,Za 12 0,Za 13 5,Zb 14 (.iaddr Z24) [.t 12,.t 13],Zb 15 (.load Z24) [.t 14]] (Zb 16 .callv [.t 11,.t 15]) [] 35 z35.n z35.res z35.kv z35.code) (.cond (.t 16) (Ze [Za 17 5,Za 4 17] .ret) .skip)))) (.reg false [Zb 18 (.bin .add) [.t 8,.int .i64 1],Za 8 18]))))
def z70_0d:List Nat:=[4,5,8]
def z70:XF:=⟨19,[.tmp 4],[0,1,4,5,7,8],(fun a=>(⟨_,by conv=>rhs;reduce;try simp only[Int.reduceOfNat,Int.reduceNegSucc]⟩:Fx Tryz.f70 [] [] [a]).v) z70_0⟩
def z34_0:XC:=(.seq (Ze [Za 16 6,Za 17 0,Zb 18 (.len false) [Zc 17],Zb 19 (.bin .lss) [Zc 16,Zc 18]] (.cond (Zc 19) .skip (.exit 0))) (.seq (.block 1 (Ze [Za 22 0,Za 23 6,Zb 24 (.iaddr Z24) [Zc 22,Zc 23],Zh 25 Z24 24,Zb 7 (.alloc 60 Z24) [],⟨none,.store Z24,[Zc 7,Zc 25],none,[]⟩] (.seq (.icall false [Za 26 1,Zh 27 Z24 7] (Zb 28 .callv [Zc 26,Zc 27]) [Zb 29 .not [Zc 28]] 35 z35.n z35.res z35.kv z35.code) (.cond (Zc 29) (Ze [Za 30 0,Za 31 5,Zh 32 Z24 7,Zb 33 (.iaddr Z24) [Zc 30,Zc 31],⟨none,.store Z24,[Zc 33,Zc 32],none,[]⟩] (.reg false [Za 34 5,Zb 35 (.bin .add) [Zc 34,.int .i64 1],Za 5 35])) .skip)))) (.clean (.reg false [Za 20 6,Zb 21 (.bin .add) [Zc 20,.int .i64 1],Za 6 21]))))
def z34_0d:List Nat:=[5,6,7]
def z34:XF:=⟨42,[.tmp 4],[0,1,4,5,6,7],(Ze [Zb 4 (.nilrow 60 Z24) []] (.seq (.icall false [Za 8 0,Za 9 1] (Zb 10 .callv [.fn 70,.t 8,.t 9]) [Za 5 10] 70 z70.n z70.res z70.kv z70.code) (.seq (Ze [Za 11 5,Zb 12 (.bin .eql) [.t 11,.int .i64 (-1)]] (.cond (.t 12) (Ze [Za 13 0,Za 4 13] .ret) .skip)) (.seq (Ze [Za 14 5,Zb 15 (.bin .add) [.t 14,.int .i64 1],Za 6 15] (.block 0 (.loop z34_0))) (.clean (Ze [Za 36 0,Za 37 5,Zb 38 (.slice Z24 true false true) [.t 36,.t 37],⟨none,.clear 60 Z24,[.t 38],none,[]⟩] (Ze [Za 39 0,Za 40 5,Zb 41 (.slice Z24 false true false) [.t 39,.t 40],Za 4 41] .ret)))))))⟩
def z9_0:XC:=(⟨_,by conv=>rhs;reduce;try simp only[Int.reduceOfNat,Int.reduceNegSucc]⟩:Fl Tryz.f9 0 [] [] []).v
def z9_0d:List Nat:=[14,15,16,48]
def z9_r:XC:=let i:Ty:=.int .i64;let a20:Ty:=.sl i;let a19:Ty:=.st (.cons i .bool);let a17:Ty:=.sl a19;let a18:Ty:=.st (.cons i i);let a15:Ty:=.sl a18;let a16:Ty:=.st (.cons a20 i);let a14:Ty:=.sl a16;let a13:Ty:=.st (.cons i (.cons i .bool));let n:Ty:=.sl a13;let a12:Ty:=.st (.cons i (.cons i i));let m:Ty:=.st (.cons i (.cons i (.cons a20 a20)));let k:Ty:=.sl m;let j:Ty:=.st (.cons i (.cons a17 (.cons a15 a20)));let h:Ty:=.sl j;let g:Ty:=.st (.cons i (.cons i (.cons i (.cons i (.cons i (.cons i (.cons i (.cons i i))))))));let f:Ty:=.sl g;let e:Ty:=.st (.cons i (.cons i (.cons i (.cons i (.cons i (.cons i (.cons i (.cons i (.cons i i)))))))));let d:Ty:=.sl e;let c:Ty:=.st (.cons i (.cons k (.cons f (.cons d (.cons n a12)))));let b:Ty:=.st (.cons c (.cons a20 (.cons a20 (.cons h (.cons i a14)))));let a:Ty:=.ptr b;let l (d:Nat) (t:Ty) (x:Nat):XO:=⟨some d,.load t,[.t x],none,[]⟩;let v (d x:Nat):XO:=⟨some d,.mv,[.t x],none,[]⟩;let o (d:Nat) (p:XOp) (l:List XA):XO:=⟨some d,p,l,none,[]⟩;(.seq (.reg false [o 14 (.nilrow 3 i) []]) (.seq (.seq (.reg false [l 43 a 13,o 44 .nilck [.t 43],o 45 (.faddr 9 a20) [.t 44],l 46 a20 45,o 47 (.len false) [.t 46],o 48 .mv [.int .i64 0]]) (.clean (.block 0 (.loop z9_0)))) (.clean (.seq (.icall false [l 63 a 13,o 64 .nilck [.t 63],o 65 (.faddr 12 a14) [.t 64],l 66 a14 65,o 67 (.mkfn 35) [.t 13]] ⟨some 68,.callv,[.fn 34,.t 66,.t 67],none,[]⟩ [v 17 68] 34 z34.n z34.res z34.kv z34.code) (.clean (.seq (.reg false [l 69 a 13,o 70 .nilck [.t 69],o 71 (.faddr 10 h) [.t 70],l 72 h 71,o 73 (.call 37) [.t 72],v 74 14,v 75 17,v 8 73,v 9 74,v 10 75,o 11 .mv [.int .i64 0]]) .ret))))))
def z9:XF:=⟨76,[.tmp 8,.tmp 9,.tmp 10,.tmp 11],[0,1,2,3,4,8,9,10,11,12,13,14,15,16,17,46,47,48,38],(Ze [Zb 4 (.box 39) [Zc 0],Zb 8 (.nilrow 65 Z22) [],Zb 9 (.nilrow 3 Z1) [],Zb 10 (.nilrow 60 Z24) [],Zb 11 .mv [.int .i64 0]] (.seq (Ze [Zh 18 Z21 4,Za 19 1,Za 20 2,Za 21 3,Zb 22 (.call 31) [Zc 18,Zc 19,Zc 20,Zc 21],Zb 23 .not [Zc 22]] (.cond (Zc 23) (Ze [Zb 8 (.nilrow 65 Z22) [],Zb 9 (.nilrow 3 Z1) [],Zb 10 (.nilrow 60 Z24) [],Zb 11 .mv [.int .i64 1]] .ret) .skip)) (.clean (Ze [Za 24 1,Za 25 2,Zb 26 (.call 32) [Zc 24,Zc 25],Za 12 26] (.seq (Ze [Za 27 3,Zb 28 (.len false) [Zc 27],Zb 29 (.bin .gtr) [Zc 28,.int .i64 4],Za 30 29,⟨some 31,.mv,[Zc 12],some (3,30,false),[]⟩,⟨some 32,.len false,[Zc 31],some (3,30,false),[]⟩,⟨some 33,.bin .gtr,[Zc 32,.int .i64 3],some (3,30,false),[]⟩,Zb 34 .pick [Zc 30,.bool true,Zc 33]] (.cond (Zc 34) (Ze [Zb 8 (.nilrow 65 Z22) [],Zb 9 (.nilrow 3 Z1) [],Zb 10 (.nilrow 60 Z24) [],Zb 11 .mv [.int .i64 6]] .ret) .skip)) (.clean (Ze [Zh 35 Z21 4,Za 36 3,Zb 37 (.build Z26 [(0,Z21),(8,Z5)]) [Zc 35,Zc 36],Zb 38 (.box 78) [Zc 37],Zb 13 (.allocz 76 0) [],⟨none,.store Z27,[Zc 13,Zc 38],none,[]⟩] (.top (.clean (.seq (.icall false [Zh 39 Z27 13,Zb 40 (.bslice 3 Z1 0 []) [],Za 41 12] (Zb 42 .callv [.fn 33,Zc 39,Zc 40,Zc 41]) [] 33 z33.n z33.res z33.kv z33.code) (.top (.clean z9_r))))))))))))⟩
set_option maxRecDepth 100000
set_option maxHeartbeats 4000000
def z16:XF:=⟨52,[.tmp 14],[0,1,2,3,4,5,6,7,14,15,16,17,18,19,20],(⟨_,by conv=>rhs;reduce;try simp only[Int.reduceOfNat,Int.reduceNegSucc]⟩:Fx Tryz.f16 [4] [] []).v⟩
def z41:XF:=⟨31,[.tmp 4],[0,1,2,3,4],(⟨_,by conv=>rhs;reduce;try simp only[Int.reduceOfNat,Int.reduceNegSucc]⟩:Fx Tryz.f41 [] [] []).v⟩
def z45:XF:=⟨17,[.tmp 4],[0,1,2,3,4],(⟨_,by conv=>rhs;reduce;try simp only[Int.reduceOfNat,Int.reduceNegSucc]⟩:Fx Tryz.f45 [] [] []).v⟩
def z46_0:XC:=(⟨_,by conv=>rhs;reduce;try simp only[Int.reduceOfNat,Int.reduceNegSucc]⟩:Fl Tryz.f46 0 [] [] []).v
def z46_0d:List Nat:=[6,7,8,9,17]
def z46:XF:=⟨32,[.tmp 6],[0,1,2,6,7,8,9,15,16,17],(fun a=>(⟨_,by conv=>rhs;reduce;try simp only[Int.reduceOfNat,Int.reduceNegSucc]⟩:Fx Tryz.f46 [10] [] [a]).v) z46_0⟩
def z47_0:XC:=(⟨_,by conv=>rhs;reduce;try simp only[Int.reduceOfNat,Int.reduceNegSucc]⟩:Fl Tryz.f47 0 [] [] []).v
def z47_0d:List Nat:=[6,7,8,9,17]
def z47:XF:=⟨32,[.tmp 6],[0,1,2,6,7,8,9,15,16,17],(fun a=>(⟨_,by conv=>rhs;reduce;try simp only[Int.reduceOfNat,Int.reduceNegSucc]⟩:Fx Tryz.f47 [10] [] [a]).v) z47_0⟩
set_option maxRecDepth 100000
set_option maxHeartbeats 4000000
def u23_0:XC:=(⟨_,by conv=>rhs;reduce;try simp only[Int.reduceOfNat,Int.reduceNegSucc]⟩:Fl Tryz.f23 0 [14,24,25] [] []).v
def u23_0d:List Nat:=[4,6]
def u23:XF:=⟨43,[.tmp 4],[0,1,4,5,6],(Ze [Zb 4 .mv [.nil]] (Ze [Zb 7 (.bslice 3 Z1 0 []) [],Za 8 0,Zb 9 (.append 3 Z1 8) [.t 7,.t 8],Za 5 9] (.seq (Ze [Za 10 5,Zb 11 (.len false) [.t 10],Zb 12 (.bin .sub) [.t 11,.int .i64 1],Za 6 12] (.block 0 (.loop u23_0))) (Ze [Zb 4 .mv [.nil]] .ret))))⟩
def u11_0:XC:=(.seq (Ze [Za 49 17,Zb 50 (.isnilk true Z1) [Zc 49]] (.cond (Zc 50) .skip (.exit 0))) (.seq (.block 1 (Ze [Zb 56 (.load Z21) [Zc 4],Za 57 12,Za 58 3,Za 59 17,Zb 60 (.call 39) [Zc 56,Zc 57,Zc 58,Zc 59],Za 55 60,Zb 61 (.extract 0) [Zc 55],Zb 62 (.extract 1) [Zc 55],Za 18 61,Za 19 62] (.clean (.seq (Ze [Za 63 19,Zb 64 (.bin .geq) [Zc 63,.int .i64 0]] (.cond (Zc 64) (Ze [Za 65 16,Za 66 17,Za 67 19,Zb 68 (.build Z24 [(0,Z5),(1,Z1)]) [Zc 66,Zc 67],Zb 69 (.bslice 74 Z24 1 [0]) [Zc 68],Zb 70 (.append 74 Z24 32) [Zc 65,Zc 69],Za 16 70] (.exit 1)) .skip)) (.clean (Ze [Zb 71 (.load Z21) [Zc 4],Za 72 18,Zb 73 (.call 40) [Zc 71,Zc 72],Za 20 73] (Ze [Za 74 13,Zb 75 (.isnilk false Z1) [Zc 74],Za 21 75] (.seq (Ze [Za 76 21,Zb 77 .not [Zc 76]] (.cond (Zc 77) (Ze [Za 78 17,Za 79 13,Zb 80 (.call 25) [Zc 78,Zc 79],Za 22 80] (.reg false [Za 81 22,Zb 82 (.bin .lss) [Zc 81,.int .i64 0],Za 83 82,Zf 84 .mv [Zc 22] 2 83 false,Zf 85 (.bin .eql) [Zc 84,.int .i64 0] 2 83 false,Zf 86 .mv [Zc 85] 2 83 false,Zf 87 .mv [Zc 20] 5 86 true,Zf 88 .mv [Zc 15] 5 86 true,Zf 89 (.bin .lss) [Zc 87,Zc 88] 5 86 true,Zf 90 .pick [Zc 86,Zc 89,.bool false] 2 83 false,Zb 91 .pick [Zc 83,.bool true,Zc 90],Za 21 91])) .skip)) (.clean (Ze [Za 92 21] (.cond (Zc 92) (Ze [Za 93 17,Za 13 93] (Ze [Za 94 18,Za 14 94] (.reg false [Za 95 20,Za 15 95]))) .skip))))))))))) (.clean (.icall false [Za 51 17,Za 52 12,Zb 53 (.len false) [Zc 52]] (Zb 54 .callv [.fn 23,Zc 51,Zc 53]) [Za 17 54] 23 u23.n u23.res u23.kv u23.code))))
def u11_0d:List Nat:=[13,14,15,16,17,18,19,20,21,22]
def u11_1:XC:=(⟨_,by conv=>rhs;reduce;try simp only[Int.reduceOfNat,Int.reduceNegSucc]⟩:Fl Tryz.f11 1 [13] [] []).v
def u11_1d:List Nat:=[23,24]
def u11_2:XC:=(⟨_,by conv=>rhs;reduce;try simp only[Int.reduceOfNat,Int.reduceNegSucc]⟩:Fl Tryz.f11 2 [13] [] []).v
def u11_2d:List Nat:=[25,26]
def u11:XF:=⟨138,[.tmp 8,.tmp 9,.tmp 10,.tmp 11],[0,1,2,3,4,8,9,10,11,12,13,14,15,16,17,18,19,20,21,22,23,24,25,26],(Ze [Zb 4 (.box 29) [Zc 0],Zb 8 (.nilrow 65 Z22) [],Zb 9 (.nilrow 3 Z1) [],Zb 10 (.nilrow 74 Z24) [],Zb 11 .mv [.int .i64 0]] (.seq (Ze [Zb 27 (.load Z21) [Zc 4],Za 28 1,Za 29 2,Za 30 3,Zb 31 (.call 38) [Zc 27,Zc 28,Zc 29,Zc 30],Zb 32 .not [Zc 31]] (.cond (Zc 32) (Ze [Zb 8 (.nilrow 65 Z22) [],Zb 9 (.nilrow 3 Z1) [],Zb 10 (.nilrow 74 Z24) [],Zb 11 .mv [.int .i64 1]] .ret) .skip)) (.clean (Ze [Za 33 1,Za 34 2,Zb 35 (.call 19) [Zc 33,Zc 34],Za 12 35] (.seq (Ze [Za 36 3,Zb 37 (.len false) [Zc 36],Zb 38 (.bin .gtr) [Zc 37,.int .i64 4],Za 39 38,⟨some 40,.mv,[Zc 12],some (3,39,false),[]⟩,⟨some 41,.len false,[Zc 40],some (3,39,false),[]⟩,⟨some 42,.bin .gtr,[Zc 41,.int .i64 3],some (3,39,false),[]⟩,Zb 43 .pick [Zc 39,.bool true,Zc 42]] (.cond (Zc 43) (Ze [Zb 8 (.nilrow 65 Z22) [],Zb 9 (.nilrow 3 Z1) [],Zb 10 (.nilrow 74 Z24) [],Zb 11 .mv [.int .i64 6]] .ret) .skip)) (.clean (Ze [Zb 13 .mv [.nil]] (Ze [Zb 14 .mv [.nil]] (Ze [Zb 15 .mv [.int .i64 0]] (Ze [Zb 16 (.nilrow 74 Z24) []] (.seq (Ze [Za 44 3,Zb 45 (.len false) [Zc 44],Za 46 12,Zb 47 (.len false) [Zc 46],Zb 48 (.call 22) [Zc 45,Zc 47],Za 17 48] (.clean (.block 0 (.loop u11_0)))) (.clean (Ze [Zb 23 (.nilrow 3 Z1) []] (.seq (Ze [Zb 24 .mv [.int .i64 0]] (.block 2 (.loop u11_1))) (.clean (Ze [Zb 25 (.nilrow 74 Z24) []] (.seq (Ze [Zb 26 .mv [.int .i64 0]] (.block 4 (.loop u11_2))) (.clean (Ze [Za 135 14,Za 136 23,Za 137 25,Za 8 135,Za 9 136,Za 10 137,Zb 11 .mv [.int .i64 0]] .ret)))))))))))))))))))⟩
set_option maxRecDepth 100000
set_option maxHeartbeats 4000000
def z22_0:XC:=(⟨_,by conv=>rhs;reduce;try simp only[Int.reduceOfNat,Int.reduceNegSucc]⟩:Fl Tryz.f22 0 [9] [] []).v
def z22_0d:List Nat:=[5,6]
def z22:XF:=⟨19,[.tmp 4],[0,1,4,5,6],(Ze [Zb 4 (.nilrow 3 Z1) []] (Ze [Zb 7 (.nnl 3 Z1) [],Za 5 7] (.seq (Ze [Zb 6 .mv [.int .i64 0]] (.block 0 (.loop z22_0))) (Ze [Za 18 5,Za 4 18] .ret))))⟩
def z23_0:XC:=(⟨_,by conv=>rhs;reduce;try simp only[Int.reduceOfNat,Int.reduceNegSucc]⟩:Fl Tryz.f23 0 [14,24,25] [] []).v
def z23_0d:List Nat:=[4,6]
def z23:XF:=⟨43,[.tmp 4],[0,1,4,5,6],(Ze [Zb 4 .mv [.nil]] (Ze [Zb 7 (.bslice 3 Z1 0 []) [],Za 8 0,Zb 9 (.append 3 Z1 8) [.t 7,.t 8],Za 5 9] (.seq (Ze [Za 10 5,Zb 11 (.len false) [.t 10],Zb 12 (.bin .sub) [.t 11,.int .i64 1],Za 6 12] (.block 0 (.loop z23_0))) (Ze [Zb 4 .mv [.nil]] .ret))))⟩
def z11_0:XC:=(.seq (Ze [Za 49 17,Zb 50 (.isnilk true Z1) [Zc 49]] (.cond (Zc 50) .skip (.exit 0))) (.seq (.block 1 (Ze [Zb 56 (.load Z21) [Zc 4],Za 57 12,Za 58 3,Za 59 17,Zb 60 (.call 39) [Zc 56,Zc 57,Zc 58,Zc 59],Za 55 60,Zb 61 (.extract 0) [Zc 55],Zb 62 (.extract 1) [Zc 55],Za 18 61,Za 19 62] (.clean (.seq (Ze [Za 63 19,Zb 64 (.bin .geq) [Zc 63,.int .i64 0]] (.cond (Zc 64) (Ze [Za 65 16,Za 66 17,Za 67 19,Zb 68 (.build Z24 [(0,Z5),(1,Z1)]) [Zc 66,Zc 67],Zb 69 (.bslice 74 Z24 1 [0]) [Zc 68],Zb 70 (.append 74 Z24 32) [Zc 65,Zc 69],Za 16 70] (.exit 1)) .skip)) (.clean (Ze [Zb 71 (.load Z21) [Zc 4],Za 72 18,Zb 73 (.call 40) [Zc 71,Zc 72],Za 20 73] (Ze [Za 74 13,Zb 75 (.isnilk false Z1) [Zc 74],Za 21 75] (.seq (Ze [Za 76 21,Zb 77 .not [Zc 76]] (.cond (Zc 77) (Ze [Za 78 17,Za 79 13,Zb 80 (.call 25) [Zc 78,Zc 79],Za 22 80] (.reg false [Za 81 22,Zb 82 (.bin .lss) [Zc 81,.int .i64 0],Za 83 82,Zf 84 .mv [Zc 22] 2 83 false,Zf 85 (.bin .eql) [Zc 84,.int .i64 0] 2 83 false,Zf 86 .mv [Zc 85] 2 83 false,Zf 87 .mv [Zc 20] 5 86 true,Zf 88 .mv [Zc 15] 5 86 true,Zf 89 (.bin .lss) [Zc 87,Zc 88] 5 86 true,Zf 90 .pick [Zc 86,Zc 89,.bool false] 2 83 false,Zb 91 .pick [Zc 83,.bool true,Zc 90],Za 21 91])) .skip)) (.clean (Ze [Za 92 21] (.cond (Zc 92) (Ze [Za 93 17,Za 13 93] (Ze [Za 94 18,Za 14 94] (.reg false [Za 95 20,Za 15 95]))) .skip))))))))))) (.clean (.icall false [Za 51 17,Za 52 12,Zb 53 (.len false) [Zc 52]] (Zb 54 .callv [.fn 23,Zc 51,Zc 53]) [Za 17 54] 23 z23.n z23.res z23.kv z23.code))))
def z11_0d:List Nat:=[13,14,15,16,17,18,19,20,21,22]
def z11_1:XC:=(⟨_,by conv=>rhs;reduce;try simp only[Int.reduceOfNat,Int.reduceNegSucc]⟩:Fl Tryz.f11 1 [13] [] []).v
def z11_1d:List Nat:=[23,24]
def z11_2:XC:=(⟨_,by conv=>rhs;reduce;try simp only[Int.reduceOfNat,Int.reduceNegSucc]⟩:Fl Tryz.f11 2 [13] [] []).v
def z11_2d:List Nat:=[25,26]
def z11:XF:=⟨138,[.tmp 8,.tmp 9,.tmp 10,.tmp 11],[0,1,2,3,4,8,9,10,11,12,13,14,15,16,17,18,19,20,21,22,23,24,25,26],(Ze [Zb 4 (.box 29) [Zc 0],Zb 8 (.nilrow 65 Z22) [],Zb 9 (.nilrow 3 Z1) [],Zb 10 (.nilrow 74 Z24) [],Zb 11 .mv [.int .i64 0]] (.seq (Ze [Zb 27 (.load Z21) [Zc 4],Za 28 1,Za 29 2,Za 30 3,Zb 31 (.call 38) [Zc 27,Zc 28,Zc 29,Zc 30],Zb 32 .not [Zc 31]] (.cond (Zc 32) (Ze [Zb 8 (.nilrow 65 Z22) [],Zb 9 (.nilrow 3 Z1) [],Zb 10 (.nilrow 74 Z24) [],Zb 11 .mv [.int .i64 1]] .ret) .skip)) (.clean (Ze [Za 33 1,Za 34 2,Zb 35 (.call 19) [Zc 33,Zc 34],Za 12 35] (.seq (Ze [Za 36 3,Zb 37 (.len false) [Zc 36],Zb 38 (.bin .gtr) [Zc 37,.int .i64 4],Za 39 38,⟨some 40,.mv,[Zc 12],some (3,39,false),[]⟩,⟨some 41,.len false,[Zc 40],some (3,39,false),[]⟩,⟨some 42,.bin .gtr,[Zc 41,.int .i64 3],some (3,39,false),[]⟩,Zb 43 .pick [Zc 39,.bool true,Zc 42]] (.cond (Zc 43) (Ze [Zb 8 (.nilrow 65 Z22) [],Zb 9 (.nilrow 3 Z1) [],Zb 10 (.nilrow 74 Z24) [],Zb 11 .mv [.int .i64 6]] .ret) .skip)) (.clean (Ze [Zb 13 .mv [.nil]] (Ze [Zb 14 .mv [.nil]] (Ze [Zb 15 .mv [.int .i64 0]] (Ze [Zb 16 (.nilrow 74 Z24) []] (.seq (.seq (.icall false [Za 44 3,Zb 45 (.len false) [Zc 44],Za 46 12,Zb 47 (.len false) [Zc 46]] (Zb 48 .callv [.fn 22,Zc 45,Zc 47]) [Za 17 48] 22 z22.n z22.res z22.kv z22.code) (.clean (.block 0 (.loop z11_0)))) (.clean (Ze [Zb 23 (.nilrow 3 Z1) []] (.seq (Ze [Zb 24 .mv [.int .i64 0]] (.block 2 (.loop z11_1))) (.clean (Ze [Zb 25 (.nilrow 74 Z24) []] (.seq (Ze [Zb 26 .mv [.int .i64 0]] (.block 4 (.loop z11_2))) (.clean (Ze [Za 135 14,Za 136 23,Za 137 25,Za 8 135,Za 9 136,Za 10 137,Zb 11 .mv [.int .i64 0]] .ret)))))))))))))))))))⟩
set_option maxRecDepth 100000
set_option maxHeartbeats 4000000
def x3:XF:=⟨108,[.tmp 14],[0,1,2,3,4,5,6,7,14,15,16,17,18,19,20,21,22,23],(⟨_,by conv=>rhs;reduce;try simp only[Int.reduceOfNat,Int.reduceNegSucc]⟩:Fx Tryz.f3 [12,14,16,24] [] []).v⟩
end T
end Go.Proofs.YtpocfbfmjippnaaGreat
end
section
namespace Go.Proofs.YtpocfbfmjippnaaGreat
open Go.ChangeShapes Go.WideShapes Go.ChangeAt Go.RowKit Go.Joins
theorem own:ownKnob Tryz.prog.godebug=none:=by kernel_rfl
theorem laidOut:laidOutB Tryz.prog=true:=by kernel_rfl
end Go.Proofs.YtpocfbfmjippnaaGreat
end
section
namespace Go.Proofs.YtpocfbfmjippnaaGreat
open Go.RowKit Go.IntWalk
namespace T
def rg (n:Nat):List Nat:=List.range n
theorem rgI (n:Nat):List.range (n+1)=rg (n+1):=rfl
attribute [go_sem ↓] rgI xwp_top xwp_dead xwp_nxt xwp_rfor xwp_yld rndA_n rndB_n backR_n backR_r hasLp_mk leQ_mk xwp_icall backQ_n backQ_r backQ_e xwp_clean xwp_seq xwp_skip xwp_ret xwp_exit xwp_block xwp_loop xwp_reg xwp_cond thn_n thn_e thn_r XQ.seq XQ.blk
attribute [go_sem] nilOf slicey oslx copyx clearx srcx nxF nxT rndA_x rndB_x rndA_r rndB_r backR_e setLp entY entR ylOf List.zip_cons_cons List.zip_nil_left List.zip_nil_right mapOf keyOf' afterI entI exI oneAV keepI XO.reads XA.slot eqsx eqd List.drop_zero List.take_length Int.toNat_zero Int.toNat_natCast List.set_cons_zero List.set_cons_succ tmG cleanS headT numb rensT tmle fastD runR_true runR_false quiet Eff.tch List.getElem?_cons_succ List.getElem?_cons_zero List.getElem?_nil runT stepT gop gcond opg pickx boolOf XOp.isPick opx stripL strip pur XO.gv XA.av setT appL killL effOk ltAll AV.locs AV.locsL OB.locs look enter resAVs binx intBin eqx lenx condOf loadx partOf storex splice cellsOf scatter zeroAV fieldx faddrx iaddrx bounds avInt avIntK avBool extx slicex fillx rowx callx callvx fn1x fn2x findEnt rdL rdA rdClo rdCap rd rd1 rdAgg rdPtr rdc rd1c ofCst proj upd appendx freshEff ownx isNilV nilx nilkx ofNnl plainArg Ent.own Option.isSome_some Option.isSome_none minx Ty.isSt Ty.size Ty.scalar Ty.dflt cast?_self List.map_cons List.map_nil List.getD_cons_zero List.getD_cons_succ List.length_cons List.length_nil List.cons_append List.nil_append List.append_nil List.filter_cons List.filter_nil List.isEmpty_nil List.isEmpty_cons Option.map_some Option.map_none Option.bind_some Option.isNone_none Option.isNone_some Bool.false_eq_true if_true if_false ite_true ite_false Bool.and_true Bool.true_and Bool.and_false Bool.false_and and_true true_and and_self not_true_eq_false not_false_eq_true imp_self forall_const true_imp_iff implies_true decide_true decide_false cond_true cond_false List.find?_cons List.find?_nil beq_self_eq_true List.take_zero List.drop_succ_cons List.take_succ_cons retQ finish resAll resAV freshIs stepD runD okD meet reach reachO restr inAll effIn headOf puts put1 keep le' autoρ tidy renB rens ren1 asle avles avle hple oble uniq sub locOk assoc disj List.all_cons List.all_nil List.any_cons List.any_nil List.contains_nil List.contains_cons List.flatMap_cons List.flatMap_nil List.mem_cons List.not_mem_nil or_false false_or or_true true_or or_self Bool.or_false Bool.or_true Bool.true_or Bool.false_or Bool.not_true Bool.not_false List.take_nil List.drop_nil eq_self Option.some.injEq false_and and_false Bool.true_beq Bool.false_beq
theorem td:(∀n,rg n=List.range n)∧(∀{α:Type} {x:Decidable True} (t e:α),(if True then t else e)=t)∧(∀{α:Type} {x:Decidable False} (t e:α),(if False then t else e)=e)∧(∀(h:Decidable True),decide True=true)∧(∀(h:Decidable False),decide False=false)∧((false=true)=False)∧(∀{a:Prop},(True→a)↔a)∧((¬True)=False)∧((¬False)=True)∧(∀(a:Prop),(False→a)↔True)∧(∀(p:Prop),(p∧False)=False)∧(∀(p:Prop),(False∧p)=False)∧(∀(p:Prop),(p∨False)=p)∧(∀(p:Prop),(False∨p)=p)∧(∀(b:Bool),(b==false)= !b)∧(∀(b:Bool),(b==true)=b)∧(∀(a b:Bool),(bif a then b else false)=(a&&b))∧(∀(a b:Bool),(bif a then true else b)=(a||b))∧(∀(b:Bool),(!!b)=b)∧(∀(b:Bool),((!b)=true)=(b=false))∧(∀(b:Bool),((!b)=false)=(b=true))∧(∀(a b:Bool),((a||b)=true)=(a=true∨b=true))∧(∀{x y:Bool},(x||y)=false↔x=false∧y=false)∧(∀(a b:Bool),((a&&b)=true)=(a=true∧b=true))∧(∀{x y:Bool},(x&&y)=false↔(x=true→y=false))∧(∀{p:Prop} [inst:Decidable p],(decide p=true)=p)∧(∀{p:Prop} {x:Decidable p},decide p=false↔ ¬p)∧(∀{α:Type} [inst:BEq α] [LawfulBEq α] {a b:α},(a !=b)=true↔a≠b)∧(∀{α:Type} [inst:BEq α] [LawfulBEq α] {a b:α},(a !=b)=false↔a=b)∧(∀{α:Type} [inst:BEq α] [LawfulBEq α] {a b:α},(a==b)=true↔a=b)∧(∀{α:Type} [inst:BEq α] [LawfulBEq α] {a b:α},(a==b)=false↔a≠b)∧(∀{α:Type} (a b:α),(a≠b)= ¬a=b)∧(∀(n:Nat),(n:Int).toNat=n)∧(∀{a b:Int},¬a<b↔b≤a)∧(∀{a b:Int},¬a≤b↔b<a)∧(∀{α:Type} [inst:LE α] {x y:α},x≥y↔y≤x)∧(∀{α:Type} [inst:LT α] {x y:α},x>y↔y<x)∧(∀(n:Nat),0≤(n:Int))∧(∀{n m:Nat},(n:Int)<(m:Int)↔n<m)∧(∀{a:Prop},(a→a)↔True)∧(∀(p:Prop),(p∧True)=p)∧(∀(p:Prop),(True∧p)=p)∧(∀(α:Type),(∀(a:α),True)=True)∧(∀(α:Prop),(∀(a:α),True)=True)∧(∀{m n:Nat},(m:Int)=(n:Int)↔m=n)∧(∀(p:Prop),(p∧p)=p)∧(∀{a:Prop},¬¬a↔a):=⟨fun _=>rfl,@if_true,@if_false,@decide_true,@decide_false,@Bool.false_eq_true,@true_imp_iff,@not_true_eq_false,@not_false_eq_true,@false_imp_iff,@and_false,@false_and,@or_false,@false_or,@eqf,@eqt,@bif_and,@bif_or,@Bool.not_not,@Bool.not_eq_true',@Bool.not_eq_false',@Bool.or_eq_true,@Bool.or_eq_false_iff,@Bool.and_eq_true,@Bool.and_eq_false_imp,@decide_eq_true_eq,@decide_eq_false_iff_not,@bne_iff_ne,@bne_eq_false_iff_eq,@beq_iff_eq,@beq_eq_false_iff_ne,@ne_eq,@Int.toNat_natCast,@Int.not_lt,@Int.not_le,@ge_iff_le,@gt_iff_lt,@Int.natCast_nonneg,@Int.ofNat_lt,@imp_self,@and_true,@true_and,@implies_true,@implies_true,@Int.ofNat_inj,@and_self,@Classical.not_not⟩
attribute [go_sem] Nat.reduceAdd Nat.reduceSub Nat.reduceMul Nat.reduceLT Nat.reduceLeDiff Nat.reduceEqDiff Nat.reduceBEq Nat.reduceBNe List.reduceReplicate reduceCtorEq
attribute [go_sem ↓] reduceIte
end T
end Go.Proofs.YtpocfbfmjippnaaGreat
end
