/- Parts of the proof of the law; no condition. -/
import Derived.Test.YtpocfbfmjippnaaGreatH5
set_option linter.all false
section
namespace Go.Proofs.YtpocfbfmjippnaaGreat
open Go.RowKit Go.IntWalk
namespace T
def entIdxFuncA:Ent:=⟨198,.cons Z13 (.cons (.fn Z11 .bool) .nil),(.int .i64),false,none,fun _=>True,fun x=>idxF x.2.1 x.1⟩
theorem conIdxFuncA:Con Tryz.prog entIdxFuncA:=by
 refine con_is (C:=[]) x198 (by kernel_rfl) (by simp) fun x _ hf=>?_;obtain ⟨(xs:List DArc),(p:DArc→Bool),_⟩:=x;have hl:xs.length≤maxLen:=hf.1.1;dsimp only[entIdxFuncA,x198];simp only[go_sem];refine XW_for 1000 x198_0d [] Nat (fun k=>[(8,.val Z1 (k:Int))]) (fun _=>[]) (fun k=>k≤xs.length∧∀j,j<k→p (xs.getD j (0,0,[],[]))=false) (fun k=>xs.length-k) 0 ?_ ?_ ?_
 ·dsimp only[x198_0d];simp only[go_sem];rfl
 ·exact ⟨by omega,fun j hj=>by omega⟩
 ·intro k hk;dsimp only[x198_0,x198_0d];simp only[go_sem];dsimp only[maxLen] at hl;by_cases hkl:k<xs.length
  ·simp only[hkl,td,reduceCtorEq];refine ⟨fun h=>(idxF_at hkl hk.2 h).symm,fun h=>⟨k+1,by omega,⟨by omega,fun j hj=>?_⟩,i64_in _ (by omega)⟩⟩;rcases Nat.lt_succ_iff_lt_or_eq.1 hj with h'|rfl
   ·exact hk.2 j h'
   ·exact h
  ·simp only[hkl,td,reduceCtorEq];exact (idxF_none fun j hj=>hk.2 j (by omega)).symm
def entConFuncA:Ent:=⟨155,.cons Z13 (.cons (.fn Z11 .bool) .nil),.bool,false,none,fun _=>True,fun x=>x.1.any x.2.1⟩
theorem conConFuncA:Con Tryz.prog entConFuncA:=by
 refine con_is (C:=[entIdxFuncA]) x155 (by kernel_rfl) (by simp[conIdxFuncA]) fun x _ hf=>?_;obtain ⟨(xs:List DArc),(p:DArc→Bool),_⟩:=x;dsimp only[entConFuncA,entIdxFuncA,x155];simp only[go_sem];refine eq_of_iff ?_;rw[←idxF_any];simp
def entRoad1:Ent:=⟨153,.cons Z11 (.cons (.ptr (.int .i64)) .nil),.bool,false,none,fun _=>True,fun x=>!(toArc x.1).rightB||(decide (x.2.1≤(x.1:DArc).1)||decide (x.2.1≤(x.1:DArc).2.1))⟩
def csRo1:List Ent:=[entClockRight] theorem hcsRo1 (f:FuncId):findEnt csRo1 f=findEnt [entClockRight] f:=rfl
theorem conRoad1:Con Tryz.prog entRoad1:=by
 refine con_is (C:=csRo1) x153 (by kernel_rfl) (by simp[csRo1,conClockRight]) fun x _ hf=>?_;obtain ⟨⟨(f:Int),(t:Int),(L:List Int),(H:List Int)⟩,(n:Int),_⟩:=x;dsimp only[entRoad1,x153];simp only[↓hcsRo1,entClockRight,go_sem];simp only[td,reduceCtorEq];try dsimp only[Ty.den]
 exact Bool.or_assoc _ _ _
def rightR (n:Int) (A:List DArc):Bool:=decide (1≤n)&&(decide (n≤2000)&&(decide (A.length≤20000)&&A.all fun a=>(toArc a).rightB&&(decide (a.1<n)&&decide (a.2.1<n))))
def entRoad:Ent:=⟨102,.cons Z1 (.cons Z13 .nil),.bool,false,none,fun _=>True,fun x=>rightR x.1 x.2.1⟩
def csRo:List Ent:=[entConFuncA,entRoad1] theorem hcsRo (f:FuncId):findEnt csRo f=findEnt [entConFuncA,entRoad1] f:=rfl
theorem conRoad:Con Tryz.prog entRoad:=by
 refine con_is (C:=csRo) x102 (by kernel_rfl) (by simp[csRo,conConFuncA,conRoad1]) fun x _ hf=>?_;obtain ⟨(n:Int),(A:List DArc),_⟩:=x;have hA:A.length≤9223372036854775807:=hf.2.1.1;dsimp only[entRoad,x102];simp only[↓hcsRo,entConFuncA,entRoad1,go_sem];simp only[td,reduceCtorEq];try dsimp only[Ty.den]
 unfold rightR;have e:(!A.any fun (x:DArc)=>!(toArc x).rightB||(decide (n≤x.1)||decide (n≤x.2.1)))=A.all fun a=>(toArc a).rightB&&(decide (a.1<n)&&decide (a.2.1<n)):=by
  rw[List.not_any_eq_all_not];congr 1;funext a;rw[Bool.eq_iff_iff];simp
 rw[e];have e2:decide ((A.length:Int)≤20000)=decide (A.length≤20000):=decide_eq_decide.2 (by omega);rw[e2,Bool.and_assoc,Bool.and_assoc]
end T
end Go.Proofs.YtpocfbfmjippnaaGreat
end
section
namespace Go.Proofs.YtpocfbfmjippnaaGreat
namespace T
abbrev DWorld:=Int×List DArc×List DCar×List DReq×List DPair×DShift
def allIn (most:Int) (l:List Int):Bool:=l.all fun n=>decide (0≤n∧n≤most)
def carB (m:Int) (c:DCar):Bool:=allIn m [c.2.1]&&(allIn 1048576 [c.2.2.1,c.2.2.2.1]&&(decide (c.2.2.1≤c.2.2.2.1)&&allIn 60 [c.2.2.2.2.1,c.2.2.2.2.2.1,c.2.2.2.2.2.2.1]))
def reqB (m:Int) (q:DReq):Bool:=(allIn 1048576 [q.2.2.2.1,q.2.2.2.2.1,q.2.2.2.2.2.1,q.2.2.2.2.2.2.1]&&decide (q.2.2.2.1≤q.2.2.2.2.1))&&(allIn 3999 [q.1]&&(allIn m [q.2.1,q.2.2.1]&&allIn 60 [q.2.2.2.2.2.2.2.1,q.2.2.2.2.2.2.2.2.1,q.2.2.2.2.2.2.2.2.2]))
def prB (p:DPair):Bool:=allIn 3999 [p.1,p.2.1]
def rightP (w:DWorld):Bool:=
 (rightR w.1 w.2.1&&decide (w.2.2.1.length≤600∧w.2.2.2.1.length≤30000∧w.2.2.2.2.1.length≤4000))&&(w.2.2.1.all (carB (w.1-1))&&(w.2.2.2.1.all (reqB (w.1-1))&&(w.2.2.2.2.1.all prB&&rightK w.2.2.2.2.2 [] [])))
theorem rightR_n {n:Int} {A:List DArc} (h:rightR n A=true):1≤n∧n≤2000∧A.length≤20000∧∀a∈A,(toArc a).rightB=true∧a.1<n∧a.2.1<n:=by
 unfold rightR at h;simp only[Bool.and_eq_true,decide_eq_true_eq,List.all_eq_true] at h;exact ⟨h.1,h.2.1,h.2.2.1,fun a ha=>by have:=h.2.2.2 a ha;exact ⟨this.1,this.2.1,this.2.2⟩⟩
theorem rightP_iff {w:DWorld}:rightP w=true↔rightR w.1 w.2.1=true∧(w.2.2.1.length≤600∧w.2.2.2.1.length≤30000∧w.2.2.2.2.1.length≤4000)∧(∀c∈w.2.2.1,carB (w.1-1) c=true)∧(∀q∈w.2.2.2.1,reqB (w.1-1) q=true)∧(∀p∈w.2.2.2.2.1,prB p=true)∧rightK w.2.2.2.2.2 [] []=true:=by
 unfold rightP;simp only[Bool.and_eq_true,decide_eq_true_eq,List.all_eq_true,and_assoc]
end T
end Go.Proofs.YtpocfbfmjippnaaGreat
end
section
namespace Go.Proofs.YtpocfbfmjippnaaGreat
open Go.RowKit Go.IntWalk
namespace T
def entRRoad:Ent:=⟨114,.cons Z1 (.cons Z13 .nil),.bool,false,none,fun _=>True,fun x=>rightR x.1 x.2.1⟩
def csRR:List Ent:=[entRefRight10] theorem hcsRR (f:FuncId):findEnt csRR f=findEnt [entRefRight10] f:=rfl
theorem conRRoad:Con Tryz.prog entRRoad:=by
 refine con_is (C:=csRR) x114 (by kernel_rfl) (by simp[csRR,conRefRight10]) fun x _ hf=>?_;obtain ⟨(n:Int),(A:List DArc),_⟩:=x;have hA:A.length≤9223372036854775807:=hf.2.1.1;dsimp only[entRRoad,x114];simp only[↓hcsRR,entRefRight10,go_sem];try simp only[td,reduceCtorEq]
 try dsimp only[Ty.den]
 refine ⟨fun h=>?_,fun ⟨⟨h1,h2⟩,h3⟩=>?_⟩
 ·symm;unfold rightR;rw[Bool.eq_false_iff];intro q;simp only[Bool.and_eq_true,decide_eq_true_eq] at q;omega
 have eq0:rightR n A=A.all fun a=>(toArc a).rightB&&(decide (a.1<n)&&decide (a.2.1<n)):=by
  unfold rightR;rw[decide_eq_true h1,decide_eq_true h2,decide_eq_true (show A.length≤20000 by omega)];simp
 refine XW_for 1000 x114_0d [] Nat (fun j=>[(5,.val Z1 (j:Int))]) (fun _=>[]) (fun j=>j≤A.length∧∀i,i<j→((toArc (A.getD i (0,0,[],[]))).rightB&&(decide ((A.getD i (0,0,[],[])).1<n)&&decide ((A.getD i (0,0,[],[])).2.1<n)))=true) (fun j=>A.length-j) 0 ?_ ?_ ?_
 ·dsimp only[x114_0d];simp only[go_sem];rfl
 ·exact ⟨Nat.zero_le _,fun i hi=>by omega⟩
 ·rintro j ⟨hj,hr⟩;dsimp only[x114_0,x114_0d];simp only[↓hcsRR,entRefRight10,go_sem];by_cases hjl:j<A.length
  ·have w2:IntKind.i64.wrap ((j:Int)+1)=((j+1:Nat):Int):=i64_in _ (by omega);simp only[hjl,w2,td,reduceCtorEq];have no:((toArc (A.getD j (0,0,[],[]))).rightB&&(decide ((A.getD j (0,0,[],[])).1<n)&&decide ((A.getD j (0,0,[],[])).2.1<n)))=false→false=rightR n A:=fun h=>by
    rw[eq0];symm;rw[List.all_eq_false];exact ⟨_,getD_mem (d:=((0,0,[],[]):DArc)) hjl,by rw[h];simp⟩
   refine ⟨fun h=>no (by rw[h];rfl),fun h=>⟨fun q=>no ?_,fun q=>⟨j+1,by omega,⟨by omega,fun i hi=>?_⟩,rfl⟩⟩⟩
   ·rw[h,Bool.true_and,Bool.and_eq_false_iff,decide_eq_false_iff_not,decide_eq_false_iff_not];omega
   ·by_cases c:i=j
    ·subst c;exact ⟨h,q⟩
    ·have:=hr i (by omega);simpa only[Bool.and_eq_true,decide_eq_true_eq] using this
  ·simp only[hjl,td,reduceCtorEq];rw[eq0];symm;rw[List.all_eq_true];intro a ha;obtain ⟨i,hi,rfl⟩:=List.getElem_of_mem ha;have:=hr i (by omega);rw[List.getD_eq_getElem?_getD,List.getElem?_eq_getElem hi] at this;exact this
end T
end Go.Proofs.YtpocfbfmjippnaaGreat
end
section
namespace Go.Proofs.YtpocfbfmjippnaaGreat
open Go.RowKit Go.IntWalk
abbrev DLab:=Int×Int
namespace T
theorem rightR_all {n:Int} {A:List DArc} (h:rightR n A=true):(1≤n∧n≤2000)∧A.length≤20000∧∀a∈A,(toArc a).rightB=true∧(0≤a.1∧a.1<n)∧0≤a.2.1∧a.2.1<n:=by
 unfold rightR at h;simp only[Bool.and_eq_true,decide_eq_true_iff,List.all_eq_true] at h;refine ⟨⟨h.1,h.2.1⟩,h.2.2.1,fun a ha=>?_⟩;obtain ⟨h1,h2,h3⟩:=h.2.2.2 a ha;have hr:(toArc a).right:=of_decide_eq_true h1;have h4:0≤(toArc a).f:=hr.1;have h5:0≤(toArc a).t:=hr.2.1;exact ⟨h1,⟨h4,h2⟩,h5,h3⟩
end T
end Go.Proofs.YtpocfbfmjippnaaGreat
end
section
namespace Go.Proofs.YtpocfbfmjippnaaGreat
open Go.RowKit Go.IntWalk
namespace T
def entIsTime:Ent:=⟨217,.cons Z1 .nil,.bool,false,none,fun _=>True,fun x=>timeB x.1⟩
def csIT:List Ent:=[] theorem hcsIT (f:FuncId):findEnt csIT f=findEnt [] f:=rfl
theorem conIsTime:Con Tryz.prog entIsTime:=by
 refine con_is (C:=csIT) x217 (by kernel_rfl) (by simp[csIT]) fun x hx hf=>?_;obtain ⟨(n:Int),_⟩:=x;dsimp only[entIsTime,x217];simp only[↓hcsIT,go_sem];simp only[td,reduceCtorEq];try dsimp only[Ty.den]
 unfold timeB;rw[Bool.eq_iff_iff,decide_eq_true_iff];simp[isTime]
theorem u64_in {x:Int} (h0:0≤x) (h1:x<18446744073709551616):IntKind.u64.wrap x=x:=by
 unfold IntKind.wrap;simp[IntKind.signed,IntKind.bits];omega
theorem low32 {n:Nat} (h:n≤20000):IntKind.u64.wrap ((BitVec.ofInt IntKind.u64.bits (n:Int)&&&BitVec.ofInt IntKind.u64.bits 4294967295).toNat:Nat)=(n:Int):=by
 have e3:(BitVec.ofInt 64 (n:Int)&&&BitVec.ofInt 64 4294967295).toNat=n:=by
  have e1:BitVec.ofInt 64 (n:Int)=BitVec.ofNat 64 n:=BitVec.ofInt_natCast 64 n;have e2:BitVec.ofInt 64 4294967295=BitVec.ofNat 64 4294967295:=BitVec.ofInt_natCast 64 4294967295;rw[e1,e2,BitVec.toNat_and,BitVec.toNat_ofNat,BitVec.toNat_ofNat,Nat.mod_eq_of_lt (show n<2^64 by omega)];have:=Nat.and_two_pow_sub_one_eq_mod n 32;rw[show (4294967295:Nat) % 2^64=2^32-1 by decide,this,Nat.mod_eq_of_lt (by omega)]
 have e4:((BitVec.ofInt IntKind.u64.bits (n:Int)&&&BitVec.ofInt IntKind.u64.bits 4294967295).toNat:Int)=(n:Int):=congrArg Int.ofNat e3;exact (congrArg IntKind.u64.wrap e4).trans (u64_in (by omega) (by omega))
theorem high32 {n:Nat} (h:n≤20000):Int.fdiv (n:Int) (2^(Int.toNat 32).min IntKind.u64.bits)=0:=by
 rw[show (Int.toNat 32).min IntKind.u64.bits=32 from rfl,show (2:Int)^32=4294967296 from rfl,Int.fdiv_eq_ediv_of_nonneg _ (by omega)];omega
def entMul64:Ent:=⟨244,.cons (.int .u64) (.cons (.int .u64) .nil),.cons (.int .u64) (.cons (.int .u64) .nil),true,none,fun x=>x.1=1∧0≤x.2.1∧x.2.1≤20000,fun x=>(0,x.2.1,())⟩
def csM6:List Ent:=[] theorem hcsM6 (f:FuncId):findEnt csM6 f=findEnt [] f:=rfl
theorem conMul64:Con Tryz.prog entMul64:=by
 refine con_is (C:=csM6) x244 (by kernel_rfl) (by simp[csM6]) fun x hx hf=>?_;obtain ⟨(x1:Int),(y:Int),_⟩:=x;obtain ⟨h1,h2,h3⟩:=hx;dsimp only at h1 h2 h3;have h2:(0:Int)≤y:=h2;have h3:y≤(20000:Int):=h3;subst h1;dsimp only[entMul64,x244];simp only[↓hcsM6,nilOf,↓xwp_top,slicey,oslx,copyx,clearx,srcx,↓xwp_dead,↓xwp_nxt,nxF,nxT,↓xwp_rfor,↓xwp_yld,↓rndA_n,↓rndB_n,rndA_x,rndB_x,rndA_r,rndB_r,↓backR_n,↓backR_r,backR_e,↓hasLp_mk,setLp,entY,entR,ylOf,List.zip_cons_cons,List.zip_nil_left,List.zip_nil_right,mapOf,keyOf',↓leQ_mk,↓xwp_icall,↓backQ_n,↓backQ_r,↓backQ_e,afterI,entI,exI,oneAV,keepI,XO.reads,XA.slot,eqsx,eqd, List.drop_zero,List.take_length,Int.toNat_zero,Int.toNat_natCast,List.set_cons_zero,List.set_cons_succ,↓xwp_clean,tmG,cleanS,headT,numb,rensT,tmle,fastD,runR_true,runR_false,quiet,Eff.tch,↓xwp_seq,↓xwp_skip,↓xwp_ret,↓xwp_exit,↓xwp_block,↓xwp_loop,↓xwp_reg,↓xwp_cond,↓thn_n,↓thn_e,↓thn_r,↓XQ.seq,↓XQ.blk,List.getElem?_cons_succ,List.getElem?_cons_zero,List.getElem?_nil,runT,stepT,gop,gcond,opg,pickx,boolOf,XOp.isPick,opx,stripL,strip,pur,XO.gv,XA.av,setT,appL,killL,effOk,ltAll,AV.locs,AV.locsL,OB.locs,look,enter,resAVs,binx,intBin,eqx,lenx,condOf,loadx,partOf,storex,splice,cellsOf,scatter,zeroAV,fieldx,faddrx,iaddrx,bounds,avInt,avIntK,avBool,extx,slicex,fillx,rowx,callx,callvx,fn1x,fn2x,findEnt,rdL,rdA,rdClo,rdCap,rd,rd1,rdAgg,rdPtr,rdc,rd1c,ofCst,proj,upd,appendx,srcx,freshEff,ownx,isNilV,nilx,plainArg,Ent.own,Option.isSome_some,Option.isSome_none,minx,Ty.isSt,Ty.size,Ty.scalar,Ty.dflt,cast?_self,List.map_cons,List.map_nil,List.getD_cons_zero,List.getD_cons_succ,List.length_cons,List.length_nil,List.cons_append,List.nil_append,List.append_nil,List.filter_cons,List.filter_nil,List.isEmpty_nil,List.isEmpty_cons,Option.map_some,Option.map_none,Option.bind_some,Option.isNone_none,Option.isNone_some,Bool.false_eq_true,if_true,if_false,ite_true,ite_false,Bool.and_true,Bool.true_and,Bool.and_false,Bool.false_and,and_true,true_and,and_self,not_true_eq_false,not_false_eq_true,imp_self,forall_const,true_imp_iff,implies_true,decide_true,decide_false,cond_true,cond_false,reduceCtorEq,List.find?_cons,List.find?_nil,beq_self_eq_true,List.drop_zero,List.take_zero,List.drop_succ_cons,List.take_succ_cons,Nat.reduceAdd,Nat.reduceSub,Nat.reduceMul,Nat.reduceLT,Nat.reduceLeDiff,Nat.reduceEqDiff,Nat.reduceBEq,Nat.reduceBNe,List.reduceReplicate,reduceIte,retQ,finish,resAll,resAV,freshIs,stepD,runD,okD,meet,reach,reachO,restr,inAll,effIn,headOf,puts,put1,keep,le',autoρ,tidy,renB,rens,ren1,asle,avles,avle,hple,oble,uniq,sub,locOk,assoc,disj,List.all_cons,List.all_nil,List.any_cons,List.any_nil,List.contains_nil,List.contains_cons,List.flatMap_cons,List.flatMap_nil,List.mem_cons,List.not_mem_nil,or_false,false_or,or_true,true_or,or_self,Bool.or_false,Bool.or_true,Bool.true_or,Bool.false_or,Bool.not_true,Bool.not_false,List.take_nil,List.drop_nil,eq_self,Option.some.injEq,false_and,and_false,Bool.true_beq,Bool.false_beq,↓reduceIte];obtain ⟨n,rfl⟩:∃n:Nat,y=n:=⟨y.toNat,by omega⟩;have hn:n≤20000:=by omega
 have l1:=low32 (n:=1) (by omega);have h1:=high32 (n:=1) (by omega);have l0:=low32 (n:=0) (by omega);simp only[Int.natCast_one] at l1 h1;simp only[Int.natCast_zero] at l0;have z:IntKind.u64.wrap 0=0:=u64_in (by omega) (by omega);have z0:Int.fdiv 0 (2^(Int.toNat 32).min IntKind.u64.bits)=0:=by simp
 simp only[l1,h1,low32 hn,high32 hn,Int.zero_mul,Int.mul_zero,Int.one_mul,Int.zero_add,z,z0,l0,u64_in (show (0:Int)≤(n:Int) by omega) (by omega)];simp
def entMul:Ent:=⟨240,.cons (.int .u64) (.cons (.int .u64) .nil),.cons (.int .u64) (.cons (.int .u64) .nil),true,none,fun x=>x.1=1∧0≤x.2.1∧x.2.1≤20000,fun x=>(0,x.2.1,())⟩
def csMu:List Ent:=[entMul64] theorem hcsMu (f:FuncId):findEnt csMu f=findEnt [entMul64] f:=rfl
theorem conMul:Con Tryz.prog entMul:=by
 refine con_is (C:=csMu) x240 (by kernel_rfl) (by simp[csMu,conMul64]) fun x hx hf=>?_;obtain ⟨(x1:Int),(y:Int),_⟩:=x;obtain ⟨h1,h2,h3⟩:=hx;dsimp only at h1 h2 h3;dsimp only[entMul,x240];simp only[↓hcsMu,entMul64,go_sem];try simp only[td,reduceCtorEq]
 exact ⟨h1,h2,h3⟩
def entRepeat:Ent:=⟨233,.cons Z9 (.cons Z1 .nil),Z9,false,some 263,fun x=>List.length (α:=DLab) x.1=1∧0≤x.2.1∧x.2.1≤20000,fun x=>List.replicate x.2.1.toNat (List.getD (α:=DLab) x.1 0 (0,0))⟩
def csRp:List Ent:=[entMul] theorem hcsRp (f:FuncId):findEnt csRp f=findEnt [entMul] f:=rfl
theorem conRepeat:Con Tryz.prog entRepeat:=by
 refine con_is (C:=csRp) x233 (by kernel_rfl) (by simp[csRp,conMul]) fun x hx hf=>?_;obtain ⟨(x1:List DLab),(n:Int),_⟩:=x;obtain ⟨h1,h2,h3⟩:=hx;dsimp only at h1 h2 h3;have h2:(0:Int)≤n:=h2;have h3:n≤(20000:Int):=h3;obtain ⟨d,rfl⟩:∃d,x1=[d]:=List.length_eq_one_iff.1 h1;obtain ⟨n,rfl⟩:∃m:Nat,n=m:=⟨n.toNat,by omega⟩;have hn:n≤20000:=by omega
 have c1:IntKind.u64.wrap ((1:Nat):Int)=1:=u64_in (by omega) (by omega);have c2:IntKind.u64.wrap (n:Int)=n:=u64_in (by omega) (by omega);have c3:IntKind.i64.wrap (n:Int)=n:=i64_in _ (by omega);dsimp only[entRepeat,x233,Z8,Za,Zb,Zc,Ze];simp only[c1,c2,c3,↓hcsRp,entMul,go_sem];try simp only[td,reduceCtorEq]
 have e1:min 1 (List.replicate n ((0:Int),(0:Int))).length=min 1 n:=by rw[List.length_replicate]
 have e2:List.take (List.replicate n ((0:Int),(0:Int))).length [d]++List.drop 1 (List.replicate n ((0:Int),(0:Int)))=List.replicate (min 1 n) d++List.replicate (n-min 1 n) (0,0):=by
  rw[List.length_replicate,List.drop_replicate];cases n with
  |zero=>rfl
  |succ n=>rw[show min 1 (n+1)=1 by omega];simp
 refine ⟨fun h=>by omega,by omega,fun h=>by omega,fun _=>⟨by omega,?_⟩⟩;refine XW_for 1000 x233_0d [22] Nat (fun k=>[(8,.val Z1 (k:Int))]) (fun k=>[(22,.row 263 Z8 (List.replicate k d++List.replicate (n-k) (0,0)))])
  (fun k=>k≤n∧min 1 n≤k) (fun k=>n-k) (min 1 n) ?_ ?_ ?_
 ·dsimp only[x233_0d];simp only[go_sem];exact ⟨by rw[e1],e2⟩
 ·exact ⟨by omega,Nat.le_refl _⟩
 ·rintro k ⟨hk,hk1⟩;dsimp only[x233_0,x233_0d];simp only[↓hcsRp,entMul,go_sem];simp only[td,reduceCtorEq];have el:(List.replicate k d++List.replicate (n-k) ((0:Int),(0:Int))).length=n:=by simp;omega
  have et:List.take k (List.replicate k d++List.replicate (n-k) ((0:Int),(0:Int)))=List.replicate k d:=by
   rw[List.take_append_of_le_length (by simp),List.take_of_length_le (by simp)]
  rw[el,et];have m1:k<n→1≤k:=fun h=>by
   have:min 1 n=1:=Nat.min_eq_left (by omega);omega
  have m2:k<n→1≤min k (n-k):=fun h=>Nat.le_min.2 ⟨m1 h,by omega⟩;have m3:min k (n-k)≤n-k:=Nat.min_le_right _ _;refine ⟨fun h=>⟨⟨⟨by omega,by omega⟩,by omega,by omega⟩,k+min k (n-k),by have:=m2 h;omega,⟨by omega,by omega⟩,?_,?_⟩,fun h=>?_⟩
  ·rw[List.length_replicate];have m4:k+min k (n-k)≤n:=Nat.le_trans (Nat.add_le_add_left m3 k) (by omega);rw[←Int.natCast_add];generalize k+min k (n-k)=z at m4⊢;exact i64_in _ (by omega)
  ·have ed:List.drop (k+min k (n-k)) (List.replicate k d++List.replicate (n-k) ((0:Int),(0:Int)))=List.replicate (n-(k+min k (n-k))) (0,0):=by
    rw[List.drop_append,List.length_replicate,List.drop_of_length_le (by simp),List.nil_append,List.drop_replicate];congr 1;omega
   rw[List.length_replicate,List.take_replicate,ed,←List.append_assoc,List.replicate_append_replicate];congr 2;omega
  ·rw[show n-k=0 by omega,show k=n by omega];simp
end T
end Go.Proofs.YtpocfbfmjippnaaGreat
end
